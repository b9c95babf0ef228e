/- Own texts of this claim, part 11: no condition. -/
import Derived.Deep.DeepCutAuto
import Derived.Test.YtppmnmheodimoaaZD9
import Derived.Test.YtppmnmheodimoaaZD7
set_option linter.unusedVariables false
set_option linter.unusedSimpArgs false
section
namespace Go.Proofs.Ev
open Qs
theorem rightR_S {r:Rule} (h:¬ (2≤r.S∧r.S≤8)):rightR r=false:=by
 unfold rightR
 rw [decide_eq_false h];simp
theorem rightR_hood {r:Rule} (h:hoodR r.hood=false):rightR r=false:=by
 unfold rightR
 rw [h];simp
theorem rightR_len {r:Rule} (h:¬ (1≤r.nodes.length∧r.nodes.length≤4096)):rightR r=false:=by
 unfold rightR
 rw [decide_eq_false h];simp
theorem rightR_root {r:Rule} (h:¬ levelAt r (r.nodes.length - 1:Int)=r.hood.length):rightR r=false:=by
 unfold rightR
 rw [decide_eq_false h];simp
theorem rightR_node {r:Rule} {i:Nat} (hi:i<r.nodes.length) (h:nodeOK r i=false):rightR r=false:=by
 unfold rightR
 have:(List.range r.nodes.length).all (nodeOK r)=false:=by
  rw [List.all_eq_false]
  exact⟨i,List.mem_range.2 hi,by rw [h];simp⟩
 rw [this,Bool.and_false]
theorem rightR_true {r:Rule} (h1:2≤r.S∧r.S≤8) (h2:hoodR r.hood=true) (h3:1≤r.nodes.length∧r.nodes.length≤4096) (h4:levelAt r (r.nodes.length - 1:Int)=r.hood.length) (h5:∀ i,i<r.nodes.length→nodeOK r i=true):rightR r=true:=by
 unfold rightR
 rw [decide_eq_true h1,h2,decide_eq_true h3,decide_eq_true h4,Bool.true_and,Bool.true_and,Bool.true_and,Bool.true_and,List.all_eq_true]
 exact fun i hi=>h5 i (List.mem_range.1 hi)
theorem levelAt_of {r:Rule} {i:Nat} {x:Int×List Int} (hx:r.nodes[i]?=some x):levelAt r i=x.1:=by
 unfold levelAt
 rw [Int.toNat_natCast,List.getD_eq_getElem?_getD,hx];rfl
theorem levelAt_last {r:Rule} {x:Int×List Int} (h:1≤r.nodes.length) (hx:r.nodes[r.nodes.length - 1]?=some x):levelAt r (r.nodes.length - 1:Int)=x.1:=by
 rw [show ((r.nodes.length:Int) - 1)=((r.nodes.length - 1:Nat):Int) by omega]
 exact levelAt_of hx
theorem nodeOK_eq {r:Rule} {i:Nat} {x:Int×List Int} (hx:r.nodes[i]?=some x):nodeOK r i=(decide (1≤x.1∧x.1≤r.hood.length∧((x.2.length:Nat):Int)=r.S) && x.2.all (entOK r x.1 i)):=by
 unfold nodeOK
 rw [List.getD_eq_getElem?_getD,hx];rfl
theorem all_false {α:Type} {l:List α} {f:α→Bool} {i:Nat} {x:α} (hx:l[i]?=some x) (h:f x=false):l.all f=false:=by
 rw [List.all_eq_false]
 exact⟨x,List.mem_of_getElem? hx,by rw [h];simp⟩
theorem all_true {α:Type} {l:List α} {f:α→Bool} (h:∀ i x,l[i]?=some x→i<l.length→f x=true):l.all f=true:=by
 rw [List.all_eq_true]
 intro x hx
 obtain⟨i,hi,rfl⟩:=List.mem_iff_getElem.1 hx
 exact h i _ (List.getElem?_eq_getElem hi) hi
theorem entOK_neg {r:Rule} {lv:Int} {i:Nat} {k:Int} (h:k<0):entOK r lv i k=false:=by unfold entOK;rw [decide_eq_false (by omega)];simp
theorem entOK_one {r:Rule} {lv:Int} {i:Nat} {k:Int} (h:0≤k) (h1:lv=1):entOK r lv i k=decide (k<r.S):=by unfold entOK;rw [decide_eq_true h,if_pos h1,if_neg (by omega)];simp
theorem entOK_more {r:Rule} {lv:Int} {i:Nat} {k:Int} (h:0≤k) (h1:1<lv):entOK r lv i k=decide (k<i∧levelAt r k=lv - 1):=by unfold entOK;rw [decide_eq_true h,if_pos h1,if_neg (by omega)];simp
end Go.Proofs.Ev
namespace Go.Proofs.Ytppmnmheodimoaa
open Go Go.RowKit Rg Hp Ev
set_option maxHeartbeats 16000000 in
set_option maxRecDepth 100000 in
theorem TRight_calls {w:World} {r:Rule} {ha na:Option Addr} {hc nc:Nat} (hr:RuleAt w (.slice ha r.hood.length hc) (.slice na r.nodes.length nc) r) (hlh:r.hood.length≤1000000) (hln:r.nodes.length≤1000000) :
  Calls Try.prog 37 #[.agg #[.int .i64 r.S,.slice ha r.hood.length hc,.slice na r.nodes.length nc]] w fun e w'=>e=.returned (.bool (rightR r))∧Fr [] w w':=by
 have hh:=fun w1 (hf:Fr [] w w1)=>HRight_calls (hr.1.fr hf) hlh
 have HH:=Lib.hid hh
 have Hr:=Lib.hid hr.2
 clear hh hr
 by_cases hS:2≤r.S∧r.S≤8
 ·obtain⟨hs1,hs2⟩:=hS
  cases hH:hoodR r.hood with
  | false =>
   have HN:=Lib.hid (rightR_hood hH)
   rw [hH] at HH
   clear hH
   go_enter Try.func37,Try.ntmps37
   go_wp2
   (refine wRT (by kernel_rfl) (by kernel_rfl) ?_)
   go_wp2_with fail
   refine (HH.out _ (by (repeat first|exact Fr.refl _ _|assumption|apply Fr.n|apply Fr.d|apply Fr.a|refine Fr.s ?_ (.inr (by simp;try omega)) _))).mono ?_
   rintro e w1 ⟨rfl,hf⟩
   have hb_:=(hf.block (w.heap.size) (by first|(simp;done)|(simp;omega)) (by simp)).trans (show _=some (.cells #[.int .i64 r.S,.slice ha r.hood.length hc,.slice na r.nodes.length nc] 31 (0,0)) by (repeat first|rw [if_pos (by omega)]|rw [if_neg (by omega)]|rw [hDR]|rw [hDN]|rw [hAz]|rw [hSz]|rw [hAC]|rw [hSC]|rw [oMS]|rw [uPC]|rw [lSZ]|rw [lSS]|rfl))
   have b0:=hEC hb_ 0
   have b1:=hEC hb_ 1
   have b2:=hEC hb_ 2
   have bl:=lBk hb_
   have Hb:=Lib.hid hb_
   clear hb_
   have Hf:=Lib.hid (Fr.trans0 (by (repeat first|exact Fr.refl _ _|assumption|apply Fr.n|apply Fr.d|apply Fr.a|refine Fr.s ?_ (.inr (by simp;try omega)) _):Fr [] w _) hf)
   clear hf
   go_wp2
   all_goals
    refine Strict.intro rfl ?_
    go_wp2
    go_ret
    exact⟨ret_bool' HN.out.symm,by first|((repeat first|exact Fr.refl _ _|assumption|apply Fr.n|apply Fr.d|apply Fr.a|refine Fr.s ?_ (.inr (by simp;try omega)) _);done)|(have:=Hf.out;(repeat first|exact Fr.refl _ _|assumption|apply Fr.n|apply Fr.d|apply Fr.a|refine Fr.s ?_ (.inr (by simp;try omega)) _);done)⟩
  | true =>
   rw [hH] at HH
   have HHT:=Lib.hid hH
   clear hH
   by_cases hn:1≤r.nodes.length∧r.nodes.length≤4096
   ·obtain⟨hn1,hn2⟩:=hn
    obtain⟨⟨lv,nx⟩,hx⟩:∃ x,r.nodes[r.nodes.length - 1]?=some x:=⟨_,List.getElem?_eq_getElem (by omega)⟩
    have hroot:=levelAt_last hn1 hx
    obtain⟨m,hm⟩:∃ m,r.nodes.length - 1=m:=⟨_,rfl⟩
    have hm':(r.nodes.length:Int) - 1=m:=by omega
    rw [hm] at hx
    by_cases hl:lv=r.hood.length
    ·have hlb:(lv != (r.hood.length:Int))=false:=by simp [hl]
     have HRT:=Lib.hid (hroot.trans hl)
     clear hroot
     go_enter Try.func37,Try.ntmps37
     go_wp2
     (refine wRT (by kernel_rfl) (by kernel_rfl) ?_)
     go_wp2_with fail
     refine (HH.out _ (by (repeat first|exact Fr.refl _ _|assumption|apply Fr.n|apply Fr.d|apply Fr.a|refine Fr.s ?_ (.inr (by simp;try omega)) _))).mono ?_
     rintro e w1 ⟨rfl,hf⟩
     have hb_:=(hf.block (w.heap.size) (by first|(simp;done)|(simp;omega)) (by simp)).trans (show _=some (.cells #[.int .i64 r.S,.slice ha r.hood.length hc,.slice na r.nodes.length nc] 31 (0,0)) by (repeat first|rw [if_pos (by omega)]|rw [if_neg (by omega)]|rw [hDR]|rw [hDN]|rw [hAz]|rw [hSz]|rw [hAC]|rw [hSC]|rw [oMS]|rw [uPC]|rw [lSZ]|rw [lSS]|rfl))
     have b0:=hEC hb_ 0
     have b1:=hEC hb_ 1
     have b2:=hEC hb_ 2
     have bl:=lBk hb_
     have Hb:=Lib.hid hb_
     clear hb_
     have Hf:=Lib.hid (Fr.trans0 (by (repeat first|exact Fr.refl _ _|assumption|apply Fr.n|apply Fr.d|apply Fr.a|refine Fr.s ?_ (.inr (by simp;try omega)) _):Fr [] w _) hf)
     clear hf
     obtain⟨g,off,ra,rc,rfl,hg,e0,_,_⟩:=(Hr.out.fr Hf.out).node hx
     simp only at e0
     have HX:=Lib.hid hx
     have HL:=Lib.hid hl
     clear hx hl
     go_wp2
     refine Strict.intro rfl ?_
     go_wp2
     go_loopw [49] (fun x wr=>∃ k:Nat,x=.int .i64 k∧k≤r.nodes.length∧(∀ j,j<k→nodeOK r j=true)∧Fr [] w wr∧wr.heap[w.heap.size]?=some (.cells #[.int .i64 r.S,.slice ha r.hood.length hc,.slice (some ⟨g,off,none⟩) r.nodes.length nc] 31 (0,0))) (fun x _=>r.nodes.length - (intOf x).toNat)
     case atStart=>exact⟨0,rfl,by omega,by omega,by have:=Hf.out;(repeat first|exact Fr.refl _ _|assumption|apply Fr.n|apply Fr.d|apply Fr.a|refine Fr.s ?_ (.inr (by simp;try omega)) _),by have:=Hb.out;(repeat first|rw [if_pos (by omega)]|rw [if_neg (by omega)]|rw [hDR]|rw [hDN]|rw [hAz]|rw [hSz]|rw [hAC]|rw [hSC]|rw [oMS]|rw [uPC]|rw [lSZ]|rw [lSS]|rfl);exact this⟩
     case round =>
      clear e0 hlb Hf Hb b0 b1 b2 bl HX hg HL hm hm'
      obtain⟨k,rfl,hk,hok,hf,hb⟩:=hrel
      have Hok:=Lib.hid hok
      have Hf:=Lib.hid hf
      have b0:=hEC hb 0
      have b1:=hEC hb 1
      have b2:=hEC hb 2
      have bl:=lBk hb
      simp at b0 b1 b2
      have Hb:=Lib.hid hb
      clear hok hf hb
      by_cases hlt:k<r.nodes.length
      ·obtain⟨⟨lw,ny⟩,hx⟩:∃ x,r.nodes[k]?=some x:=⟨_,List.getElem?_eq_getElem hlt⟩
       obtain⟨_,_,ra,rc,he,hg,e0,e1,hi⟩:=(Hr.out.fr Hf.out).node hx
       cases he
       have hnk:=nodeOK_eq hx
       simp only at e0 e1 hi hnk
       have HX:=Lib.hid hnk
       have HI:=Lib.hid hi
       clear hx hi hnk
       by_cases hA:1≤lw∧lw≤r.hood.length∧((ny.length:Nat):Int)=r.S
       ·obtain⟨a1,a2,a3⟩:=hA
        have a4:(((ny.length:Nat):Int) != r.S)=false:=by simp [a3]
        have HX:=Lib.hid (show nodeOK r k=ny.all (entOK r lw k) by rw [HX.out,decide_eq_true ⟨a1,a2,a3⟩,Bool.true_and])
        have HA3:=Lib.hid a3
        have a5:ny.length≤8:=by omega
        clear a3
        go_wp2
        refine aBW (fun W=>Fr [] wr W∧W.heap[w.heap.size]?=some (.cells #[.int .i64 r.S,.slice ha r.hood.length hc,.slice (some ⟨g,off,none⟩) r.nodes.length nc] 31 (0,0))∧W.heap[wr.heap.size]?=some (.cells #[.int .i64 lw,.slice ra ny.length rc] 91 (0,0))) ⟨by (repeat first|exact Fr.refl _ _|assumption|apply Fr.n|apply Fr.d|apply Fr.a|refine Fr.s ?_ (.inr (by simp;try omega)) _),by have:=Hb.out;(repeat first|rw [if_pos (by omega)]|rw [if_neg (by omega)]|rw [hDR]|rw [hDN]|rw [hAz]|rw [hSz]|rw [hAC]|rw [hSC]|rw [oMS]|rw [uPC]|rw [lSZ]|rw [lSS]|rfl);exact this,by (repeat first|rw [if_pos (by omega)]|rw [if_neg (by omega)]|rw [hDR]|rw [hDN]|rw [hAz]|rw [hSz]|rw [hAC]|rw [hSC]|rw [oMS]|rw [uPC]|rw [lSZ]|rw [lSS]|rfl)⟩ ?_
        rintro W ⟨hfW,hb,hp⟩
        have HfW:=Lib.hid hfW
        have c0:=hEC hb 0
        have c1:=hEC hb 1
        have c2:=hEC hb 2
        have p0:=hEC hp 0
        have p1:=hEC hp 1
        have cl:=lBk hb
        have pl:=lBk hp
        simp at c0 c1 c2 p0 p1
        have HbW:=Lib.hid hb
        have HpW:=Lib.hid hp
        clear hfW hb hp b0 b1 b2 bl e0 e1
        go_loopw [76] (fun x wl=>∃ j:Nat,x=.int .i64 j∧j≤ny.length∧(∀ i y,ny[i]?=some y→i<j→entOK r lw k y=true)∧Drew W wl) (fun x _=>ny.length - (intOf x).toNat)
        case atStart=>exact⟨0,rfl,by omega,fun i y h1 h2=>by omega,Drew.refl _⟩
        case round =>
         obtain⟨j,rfl,hj,hent,m,rfl⟩:=hrel
         have Hent:=Lib.hid hent
         clear hent
         by_cases hlt2:j<ny.length
         ·obtain⟨y,hy⟩:∃ y,ny[j]?=some y:=⟨_,List.getElem?_eq_getElem hlt2⟩
          obtain⟨g2,off2,rfl,hg2,d0⟩:=(HI.out.fr HfW.out).cell hy
          have HY:=Lib.hid hy
          clear hy
          by_cases hneg:y<0
          ·
           have HN:=Lib.hid (rightR_node hlt (by rw [HX.out,all_false HY.out (entOK_neg hneg)]))
           go_wp2
           (refine wRT (by kernel_rfl) (by kernel_rfl) ?_)
           go_wp2
           refine Strict.intro rfl ?_
           go_wp2
           go_ret
           exact⟨ret_bool' HN.out.symm,by have:=Hf.out.trans0 HfW.out;(repeat first|exact Fr.refl _ _|assumption|apply Fr.n|apply Fr.d|apply Fr.a|refine Fr.s ?_ (.inr (by simp;try omega)) _)⟩
          ·obtain⟨z,rfl⟩:∃ z:Nat,y=z:=⟨y.toNat,by omega⟩
           clear hneg
           by_cases hone:lw=1
           ·have hone':(lw == 1)=true:=by simpa using hone
            have hone2:lw≤1:=by omega
            have HO:=Lib.hid hone
            clear hone
            by_cases hz:(z:Int)<r.S
            ·
             have HE:=Lib.hid (((entOK_one (by omega) HO.out).trans (decide_eq_true hz): entOK r lw k z=true))
             go_wp2
             (refine wRT (by kernel_rfl) (by kernel_rfl) ?_)
             go_wp2
             refine Strict.intro rfl ?_
             go_wp2
             go_roundw
             case rel =>
              refine⟨j+1,by go_num,by omega,fun i u hu hi=>?_,⟨m+1,rfl⟩⟩
              rcases Nat.lt_or_ge i j with h|h
              ·exact Hent.out i u hu h
              ·obtain rfl:i=j:=by omega
               obtain rfl:=Option.some.inj (HY.out.symm.trans hu)
               exact HE.out
             case measure=>simp [intOf];omega
            ·
             have HN:=Lib.hid (rightR_node hlt (by rw [HX.out,all_false HY.out ((entOK_one (by omega) HO.out).trans (decide_eq_false hz))]))
             go_wp2
             (refine wRT (by kernel_rfl) (by kernel_rfl) ?_)
             go_wp2
             refine Strict.intro rfl ?_
             go_wp2
             go_ret
             exact⟨ret_bool' HN.out.symm,by have:=Hf.out.trans0 HfW.out;(repeat first|exact Fr.refl _ _|assumption|apply Fr.n|apply Fr.d|apply Fr.a|refine Fr.s ?_ (.inr (by simp;try omega)) _)⟩
           ·have hone':(lw == 1)=false:=by simpa using hone
            by_cases hz:(z:Int)<k
            ·obtain⟨⟨lz,nz⟩,hxz⟩:∃ x,r.nodes[z]?=some x:=⟨_,List.getElem?_eq_getElem (by omega)⟩
             obtain⟨_,_,rz,cz,he,_,f0,_,_⟩:=(Hr.out.fr (Hf.out.trans0 HfW.out)).node hxz
             cases he
             have hlz:=levelAt_of hxz
             simp only at f0 hlz
             have HLZ:=Lib.hid hlz
             clear hxz hlz
             by_cases hle:lz=lw - 1
             ·subst hle
              have HE:=Lib.hid (((entOK_more (by omega) (by omega)).trans (decide_eq_true ⟨hz,HLZ.out⟩): entOK r lw k z=true))
              go_wp2
              (refine wRT (by kernel_rfl) (by kernel_rfl) ?_)
              go_wp2
              refine Strict.intro rfl ?_
              go_wp2
              go_roundw
              case rel =>
               refine⟨j+1,by go_num,by omega,fun i u hu hi=>?_,⟨m+1,rfl⟩⟩
               rcases Nat.lt_or_ge i j with h|h
               ·exact Hent.out i u hu h
               ·obtain rfl:i=j:=by omega
                obtain rfl:=Option.some.inj (HY.out.symm.trans hu)
                exact HE.out
              case measure=>simp [intOf];omega
             ·have hle':(lz != lw - 1)=true:=by simpa using hle
              have HNE:=Lib.hid (show ¬ ((z:Int)<k∧levelAt r z=lw - 1) from fun h=>hle (HLZ.out.symm.trans h.2))
              clear hle
              have HN:=Lib.hid (rightR_node hlt (by rw [HX.out,all_false HY.out ((entOK_more (by omega) (by omega)).trans (decide_eq_false HNE.out))]))
              go_wp2
              (refine wRT (by kernel_rfl) (by kernel_rfl) ?_)
              go_wp2
              refine Strict.intro rfl ?_
              go_wp2
              go_ret
              exact⟨ret_bool' HN.out.symm,by have:=Hf.out.trans0 HfW.out;(repeat first|exact Fr.refl _ _|assumption|apply Fr.n|apply Fr.d|apply Fr.a|refine Fr.s ?_ (.inr (by simp;try omega)) _)⟩
            ·have HNE:=Lib.hid (show ¬ ((z:Int)<k∧levelAt r z=lw - 1) from fun h=>hz h.1)
             have HN:=Lib.hid (rightR_node hlt (by rw [HX.out,all_false HY.out ((entOK_more (by omega) (by omega)).trans (decide_eq_false HNE.out))]))
             go_wp2
             (refine wRT (by kernel_rfl) (by kernel_rfl) ?_)
             go_wp2
             refine Strict.intro rfl ?_
             go_wp2
             go_ret
             exact⟨ret_bool' HN.out.symm,by have:=Hf.out.trans0 HfW.out;(repeat first|exact Fr.refl _ _|assumption|apply Fr.n|apply Fr.d|apply Fr.a|refine Fr.s ?_ (.inr (by simp;try omega)) _)⟩
         ·obtain rfl:j=ny.length:=by omega
          have Hall:=Lib.hid (show nodeOK r k=true from HX.out.trans (all_true fun i y h1 h2=>Hent.out i y h1 h2))
          go_wp2
          go_roundw
          case rel =>
           refine⟨k+1,by go_num,by omega,fun i hi=>?_,by have:=Hf.out.trans0 HfW.out;(repeat first|exact Fr.refl _ _|assumption|apply Fr.n|apply Fr.d|apply Fr.a|refine Fr.s ?_ (.inr (by simp;try omega)) _),by have:=HbW.out;(repeat first|rw [if_pos (by omega)]|rw [if_neg (by omega)]|rw [hDR]|rw [hDN]|rw [hAz]|rw [hSz]|rw [hAC]|rw [hSC]|rw [oMS]|rw [uPC]|rw [lSZ]|rw [lSS]|rfl);exact this⟩
           rcases Nat.lt_or_ge i k with h|h
           ·exact Hok.out i h
           ·obtain rfl:i=k:=by omega
            exact Hall.out
          case measure=>simp [intOf];omega
       ·have hA':lw<1∨r.hood.length<lw∨1≤lw∧lw≤r.hood.length∧(((ny.length:Nat):Int) != r.S)=true:=by
         simp only [bne_iff_ne];omega
        have HN:=Lib.hid (rightR_node hlt (by rw [HX.out,decide_eq_false hA,Bool.false_and]))
        clear hA
        rcases hA' with h|h|⟨h1,h2,h3⟩
        ·go_wp2
         go_ret
         exact⟨ret_bool' HN.out.symm,by have:=Hf.out;(repeat first|exact Fr.refl _ _|assumption|apply Fr.n|apply Fr.d|apply Fr.a|refine Fr.s ?_ (.inr (by simp;try omega)) _)⟩
        ·go_wp2
         all_goals
          go_ret
          exact⟨ret_bool' HN.out.symm,by have:=Hf.out;(repeat first|exact Fr.refl _ _|assumption|apply Fr.n|apply Fr.d|apply Fr.a|refine Fr.s ?_ (.inr (by simp;try omega)) _)⟩
        ·go_wp2
         go_ret
         exact⟨ret_bool' HN.out.symm,by have:=Hf.out;(repeat first|exact Fr.refl _ _|assumption|apply Fr.n|apply Fr.d|apply Fr.a|refine Fr.s ?_ (.inr (by simp;try omega)) _)⟩
      ·obtain rfl:k=r.nodes.length:=by omega
       go_wp2
       go_ret
       exact⟨ret_bool' (rightR_true ⟨hs1,hs2⟩ HHT.out ⟨hn1,hn2⟩ HRT.out Hok.out).symm,Hf.out⟩
    ·have HN:=Lib.hid (rightR_root (r:=r) (by rw [hroot];exact hl))
     clear hroot
     go_enter Try.func37,Try.ntmps37
     go_wp2
     (refine wRT (by kernel_rfl) (by kernel_rfl) ?_)
     go_wp2_with fail
     refine (HH.out _ (by (repeat first|exact Fr.refl _ _|assumption|apply Fr.n|apply Fr.d|apply Fr.a|refine Fr.s ?_ (.inr (by simp;try omega)) _))).mono ?_
     rintro e w1 ⟨rfl,hf⟩
     have hb_:=(hf.block (w.heap.size) (by first|(simp;done)|(simp;omega)) (by simp)).trans (show _=some (.cells #[.int .i64 r.S,.slice ha r.hood.length hc,.slice na r.nodes.length nc] 31 (0,0)) by (repeat first|rw [if_pos (by omega)]|rw [if_neg (by omega)]|rw [hDR]|rw [hDN]|rw [hAz]|rw [hSz]|rw [hAC]|rw [hSC]|rw [oMS]|rw [uPC]|rw [lSZ]|rw [lSS]|rfl))
     have b0:=hEC hb_ 0
     have b1:=hEC hb_ 1
     have b2:=hEC hb_ 2
     have bl:=lBk hb_
     have Hb:=Lib.hid hb_
     clear hb_
     have Hf:=Lib.hid (Fr.trans0 (by (repeat first|exact Fr.refl _ _|assumption|apply Fr.n|apply Fr.d|apply Fr.a|refine Fr.s ?_ (.inr (by simp;try omega)) _):Fr [] w _) hf)
     clear hf
     obtain⟨g,off,ra,rc,rfl,hg,e0,_,_⟩:=(Hr.out.fr Hf.out).node hx
     simp only at e0
     have hlb:(lv == (r.hood.length:Int))=false:=by simpa using hl
     have hlc:(lv != (r.hood.length:Int))=true:=by simpa using hl
     have HX:=Lib.hid hx
     have HL:=Lib.hid hl
     clear hx hl
     go_wp2
     all_goals
      refine Strict.intro rfl ?_
      go_wp2
      go_ret
      exact⟨ret_bool' HN.out.symm,by first|((repeat first|exact Fr.refl _ _|assumption|apply Fr.n|apply Fr.d|apply Fr.a|refine Fr.s ?_ (.inr (by simp;try omega)) _);done)|(have:=Hf.out;(repeat first|exact Fr.refl _ _|assumption|apply Fr.n|apply Fr.d|apply Fr.a|refine Fr.s ?_ (.inr (by simp;try omega)) _);done)⟩
   ·have HN:=Lib.hid (rightR_len hn)
    have hn':r.nodes.length<1∨4096<r.nodes.length:=by omega
    clear hn
    rcases hn' with h|h
    ·
     go_enter Try.func37,Try.ntmps37
     go_wp2
     (refine wRT (by kernel_rfl) (by kernel_rfl) ?_)
     go_wp2_with fail
     refine (HH.out _ (by (repeat first|exact Fr.refl _ _|assumption|apply Fr.n|apply Fr.d|apply Fr.a|refine Fr.s ?_ (.inr (by simp;try omega)) _))).mono ?_
     rintro e w1 ⟨rfl,hf⟩
     have hb_:=(hf.block (w.heap.size) (by first|(simp;done)|(simp;omega)) (by simp)).trans (show _=some (.cells #[.int .i64 r.S,.slice ha r.hood.length hc,.slice na r.nodes.length nc] 31 (0,0)) by (repeat first|rw [if_pos (by omega)]|rw [if_neg (by omega)]|rw [hDR]|rw [hDN]|rw [hAz]|rw [hSz]|rw [hAC]|rw [hSC]|rw [oMS]|rw [uPC]|rw [lSZ]|rw [lSS]|rfl))
     have b0:=hEC hb_ 0
     have b1:=hEC hb_ 1
     have b2:=hEC hb_ 2
     have bl:=lBk hb_
     have Hb:=Lib.hid hb_
     clear hb_
     have Hf:=Lib.hid (Fr.trans0 (by (repeat first|exact Fr.refl _ _|assumption|apply Fr.n|apply Fr.d|apply Fr.a|refine Fr.s ?_ (.inr (by simp;try omega)) _):Fr [] w _) hf)
     clear hf
     go_wp2
     all_goals
      refine Strict.intro rfl ?_
      go_wp2
      go_ret
      exact⟨ret_bool' HN.out.symm,by first|((repeat first|exact Fr.refl _ _|assumption|apply Fr.n|apply Fr.d|apply Fr.a|refine Fr.s ?_ (.inr (by simp;try omega)) _);done)|(have:=Hf.out;(repeat first|exact Fr.refl _ _|assumption|apply Fr.n|apply Fr.d|apply Fr.a|refine Fr.s ?_ (.inr (by simp;try omega)) _);done)⟩
    ·
     go_enter Try.func37,Try.ntmps37
     go_wp2
     (refine wRT (by kernel_rfl) (by kernel_rfl) ?_)
     go_wp2_with fail
     refine (HH.out _ (by (repeat first|exact Fr.refl _ _|assumption|apply Fr.n|apply Fr.d|apply Fr.a|refine Fr.s ?_ (.inr (by simp;try omega)) _))).mono ?_
     rintro e w1 ⟨rfl,hf⟩
     have hb_:=(hf.block (w.heap.size) (by first|(simp;done)|(simp;omega)) (by simp)).trans (show _=some (.cells #[.int .i64 r.S,.slice ha r.hood.length hc,.slice na r.nodes.length nc] 31 (0,0)) by (repeat first|rw [if_pos (by omega)]|rw [if_neg (by omega)]|rw [hDR]|rw [hDN]|rw [hAz]|rw [hSz]|rw [hAC]|rw [hSC]|rw [oMS]|rw [uPC]|rw [lSZ]|rw [lSS]|rfl))
     have b0:=hEC hb_ 0
     have b1:=hEC hb_ 1
     have b2:=hEC hb_ 2
     have bl:=lBk hb_
     have Hb:=Lib.hid hb_
     clear hb_
     have Hf:=Lib.hid (Fr.trans0 (by (repeat first|exact Fr.refl _ _|assumption|apply Fr.n|apply Fr.d|apply Fr.a|refine Fr.s ?_ (.inr (by simp;try omega)) _):Fr [] w _) hf)
     clear hf
     go_wp2
     all_goals
      refine Strict.intro rfl ?_
      go_wp2
      go_ret
      exact⟨ret_bool' HN.out.symm,by first|((repeat first|exact Fr.refl _ _|assumption|apply Fr.n|apply Fr.d|apply Fr.a|refine Fr.s ?_ (.inr (by simp;try omega)) _);done)|(have:=Hf.out;(repeat first|exact Fr.refl _ _|assumption|apply Fr.n|apply Fr.d|apply Fr.a|refine Fr.s ?_ (.inr (by simp;try omega)) _);done)⟩
 ·have HN:=Lib.hid (rightR_S hS)
  have hS':r.S<2∨8<r.S:=by omega
  clear hS
  rcases hS' with h|h
  ·go_enter Try.func37,Try.ntmps37
   go_wp2
   (refine wRT (by kernel_rfl) (by kernel_rfl) ?_)
   go_wp2
   all_goals
    refine Strict.intro rfl ?_
    go_wp2
    go_ret
    exact⟨ret_bool' HN.out.symm,by first|((repeat first|exact Fr.refl _ _|assumption|apply Fr.n|apply Fr.d|apply Fr.a|refine Fr.s ?_ (.inr (by simp;try omega)) _);done)|(have:=Hf.out;(repeat first|exact Fr.refl _ _|assumption|apply Fr.n|apply Fr.d|apply Fr.a|refine Fr.s ?_ (.inr (by simp;try omega)) _);done)⟩
  ·go_enter Try.func37,Try.ntmps37
   go_wp2
   (refine wRT (by kernel_rfl) (by kernel_rfl) ?_)
   go_wp2
   all_goals
    refine Strict.intro rfl ?_
    go_wp2
    go_ret
    exact⟨ret_bool' HN.out.symm,by first|((repeat first|exact Fr.refl _ _|assumption|apply Fr.n|apply Fr.d|apply Fr.a|refine Fr.s ?_ (.inr (by simp;try omega)) _);done)|(have:=Hf.out;(repeat first|exact Fr.refl _ _|assumption|apply Fr.n|apply Fr.d|apply Fr.a|refine Fr.s ?_ (.inr (by simp;try omega)) _);done)⟩
end Go.Proofs.Ytppmnmheodimoaa
end
section
namespace Go.Proofs.Ytppmnmheodimoaa
open Go Go.RowKit Rg Mp Hp Qs Ev
theorem setCell_swap (w:World) {a b i j:Nat} (h:a≠b) (u v:Value):(w.setCell ⟨a,i,none⟩ u).setCell ⟨b,j,none⟩ v=(w.setCell ⟨b,j,none⟩ v).setCell ⟨a,i,none⟩ u:=by
 unfold World.setCell
 congr 1
 apply Array.ext_getElem?
 intro k
 simp only [Array.getElem?_modify]
 by_cases ha:a=k
 ·by_cases hb:b=k
  ·exact absurd (ha.trans hb.symm) h
  ·simp [ha,hb]
 ·by_cases hb:b=k
  ·simp [ha,hb]
  ·simp [ha,hb]
theorem make_rows4 (w:World):(Instr.makeSlice 54 (.int .i64 4) (.int .i64 4)).run Try.prog w=.ok (.slice (some ⟨w.heap.size,0,none⟩) 4 4) (w.alloc (.cells #[.slice none 0 0,.slice none 0 0,.slice none 0 0,.slice none 0 0] 71 (0,0))):=by kernel_rfl
theorem make_row4 (w:World):(Instr.makeSlice 71 (.int .i64 4) (.int .i64 4)).run Try.prog w=.ok (.slice (some ⟨w.heap.size,0,none⟩) 4 4) (w.alloc (.cells #[.int .i64 0,.int .i64 0,.int .i64 0,.int .i64 0] 3 (0,0))):=by kernel_rfl
def pmatR (ob m:Nat) (bs:List Nat):Res where
 holds w G:=(bs.length≤m∧w.heap[ob]?=some (.cells (bs.map (rowV m)++List.replicate (m - bs.length) (Value.slice none 0 0)).toArray 71 (0,0))∧(∀ (i b:Nat),bs[i]?=some b→w.heap[b]?=some (Obj.cells (iv (List.replicate m 0)).toArray 3 (0,0)))∧bs.Nodup∧ob∉bs)∧G=ob::bs
 keep:=fun ⟨⟨h1,h2,h3,h4,h5⟩,h6⟩ hk=>⟨⟨h1,by rw [hk ob (by simp [h6])];exact h2,fun i b hb=>by rw [hk b (by rw [h6];simp [List.mem_of_getElem? hb])];exact h3 i b hb,h4,h5⟩,h6⟩
 lt:=fun ⟨⟨h1,h2,h3,h4,h5⟩,h6⟩ x hx=>by
  rw [h6,List.mem_cons] at hx
  rcases hx with rfl|hx
  ·exact lBk h2
  ·obtain⟨i,hi,rfl⟩:=List.mem_iff_getElem.1 hx
   exact lBk (h3 i _ (List.getElem?_eq_getElem hi))
theorem pmat_list {m b:Nat} {bs:List Nat} (hl:bs.length<m):(bs.map (rowV m)++List.replicate (m - bs.length) (Value.slice none 0 0)).set bs.length (rowV m b)=(bs++[b]).map (rowV m)++List.replicate (m - (bs++[b]).length) (Value.slice none 0 0):=by
 obtain⟨d,hd⟩:∃ d,m - bs.length=d+1:=⟨m - bs.length - 1,by omega⟩
 rw [hd,List.replicate_succ,List.set_append_right _ _ (by simp),List.map_append,List.append_assoc]
 simp
 congr 1
 omega
section
variable {W w:World} {ob m:Nat} {bs:List Nat} {Ps:List Res}
theorem pmat_start {cs:Array Value} (h:Has W w (Hp.blk ob (.cells cs 71 (0,0))::Ps)) (hc:cs=(List.replicate m (.slice none 0 0)).toArray):Has W w (pmatR ob m []::Ps) :=
 h.turn fun F ⟨h1,h2⟩=>⟨F,⟨⟨by simp,by rw [h1,hc];simp,by simp,by simp,by simp⟩,h2⟩,Fr.refl _ _,fun x hx=>.inl hx⟩
theorem pmat_put {b:Nat} {cs:Array Value} (h:Has W w (Hp.blk b (.cells cs 3 (0,0))::pmatR ob m bs::Ps)) (hc:cs=(iv (List.replicate m 0)).toArray) (hl:bs.length<m):Has W (w.setCell ⟨ob,bs.length,none⟩ (rowV m b)) (pmatR ob m (bs++[b])::Ps):=by
 obtain⟨G,⟨F1,F2,⟨h1,h2⟩,⟨G1,G2,⟨⟨g1,g2,g3,g4,g5⟩,g6⟩,k2,k3,rfl⟩,h4,rfl⟩,hf,hge⟩:=h
 subst h2
 subst g6
 have hbo:b≠ob:=fun e=>h4 b (by simp) (by rw [e];simp)
 have hbb:b∉bs:=fun e=>h4 b (by simp) (by simp [e])
 refine⟨ob::(bs++[b])++G2,⟨ob::(bs++[b]),G2,⟨⟨by simp;omega,?_,fun i c hc'=>?_,?_,?_⟩,rfl⟩,?_,?_,rfl⟩,?_,?_⟩
 ·rw [heap_setCell_here g2 bs.length (rowV m b),← pmat_list hl]
  simp
 ·have hne:c≠ob:=by
   intro e
   rw [e] at hc'
   have:=List.mem_of_getElem? hc'
   simp only [List.mem_append,List.mem_singleton] at this
   rcases this with h|h
   ·exact g5 h
   ·exact hbo h.symm
  rw [heap_setCell_else _ _ _ _ hne]
  rcases List.mem_append.1 (List.mem_of_getElem? hc') with h|h
  ·obtain⟨j,hj,hje⟩:=List.mem_iff_getElem.1 h
   exact g3 j c (by rw [List.getElem?_eq_getElem hj,hje])
  ·rw [List.mem_singleton] at h
   rw [h,h1,hc]
 ·rw [List.nodup_append]
  exact⟨g4,by simp,fun x hx y hy e=>by simp at hy;subst hy;subst e;exact hbb hx⟩
 ·simp only [List.mem_append,List.mem_singleton,not_or]
  exact⟨g5,Ne.symm hbo⟩
 ·exact k2.keep fun x hx=>heap_setCell_else _ _ _ _ fun e:x=ob=>k3 ob (by simp) (by rw [← e];exact hx)
 ·intro x hx hx2
  simp only [List.mem_cons,List.mem_append,List.not_mem_nil,or_false] at hx
  rcases hx with rfl|hx|rfl
  ·exact k3 x (by simp) hx2
  ·exact k3 x (by simp [hx]) hx2
  ·exact h4 x (by simp) (by simp [hx2])
 ·exact hf.setCell (.inr (hge ob (by simp))) _
 ·intro x hx
  refine hge x ?_
  simp only [List.mem_append,List.mem_cons,List.not_mem_nil,or_false] at hx ⊢
  rcases hx with (rfl|hx|rfl)|hx<;>simp [*]
theorem pmat_full (h:Has W w (pmatR ob m bs::Ps)) (hl:bs.length=m):Has W w (matR ob m bs (fun _ _=>0)::Ps) :=
 h.turn fun F ⟨⟨h1,h2,h3,h4,h5⟩,h6⟩=>⟨F,⟨⟨hl,by rw [h2,hl];simp,fun i b hb=>by rw [h3 i b hb];congr 4;apply List.ext_getElem?;intro j;simp [rowL];by_cases hj:j<m<;>simp [hj],h4,h5⟩,h6⟩,Fr.refl _ _,fun x hx=>.inl hx⟩
theorem pmat_cell (h:Has W w (pmatR ob m bs::Ps)) (hl:bs.length<m):(∃ v,w.cell? ⟨ob,bs.length,none⟩=some v∧v=.slice none 0 0)∧w.frozen? ⟨ob,bs.length,none⟩=false∧ob<w.heap.size:=by
 obtain⟨F,⟨⟨h1,h2,h3,h4,h5⟩,h6⟩⟩:=h.head
 refine⟨⟨_,?_,rfl⟩,hEF h2 _,lBk h2⟩
 rw [hEC h2]
 obtain⟨d,hd⟩:∃ d,m - bs.length=d+1:=⟨m - bs.length - 1,by omega⟩
 rw [hd]
 simp
theorem has_two5 {A B C D E:Res} (h:Has W w (E::D::A::B::C::Ps)):Has W w (A::B::C::D::E::Ps) :=
 Has.fifth (h.perm ((List.perm_append_comm (l₁:=[E,D]) (l₂:=[A,B,C])).append_right Ps))
theorem two_tabs {A B C:Res} {X:Array Value} (h:Has W w (A::B::C::Ps)) (hX:X=(List.replicate m (.slice none 0 0)).toArray) :
  Has W ((w.alloc (.cells X 71 (0,0))).alloc (.cells X 71 (0,0))) (A::B::C::pmatR w.heap.size m []::pmatR (w.heap.size+1) m []::Ps):=by
 have h1:=hAL (hAL h X 71) X 71
 rw [hAz] at h1
 exact has_two5 (pmat_start (pmat_start h1.swap hX).swap hX)
theorem two_rows {A B C:Res} {X:Array Value} {oa ob:Nat} {aL bs:List Nat} (h:Has W w (A::B::C::pmatR oa m aL::pmatR ob m bs::Ps)) (hX:X=(iv (List.replicate m 0)).toArray) (ha:aL.length<m) (hb:bs.length<m) :
  Has W ((((w.alloc (.cells X 3 (0,0))).alloc (.cells X 3 (0,0))).setCell ⟨oa,aL.length,none⟩ (rowV m w.heap.size)).setCell ⟨ob,bs.length,none⟩ (rowV m (w.heap.size+1))) (A::B::C::pmatR oa m (aL++[w.heap.size])::pmatR ob m (bs++[w.heap.size+1])::Ps):=by
 have h1:=hAL (hAL h X 3) X 3
 rw [hAz] at h1
 have p:[Hp.blk (w.heap.size+1) (.cells X 3 (0,0)),Hp.blk w.heap.size (.cells X 3 (0,0)),A,B,C,pmatR oa m aL,pmatR ob m bs].Perm [Hp.blk w.heap.size (.cells X 3 (0,0)),pmatR oa m aL,Hp.blk (w.heap.size+1) (.cells X 3 (0,0)),pmatR ob m bs,A,B,C]:=by
  refine (List.Perm.swap _ _ _).trans (List.Perm.cons _ ?_)
  refine ((List.perm_append_comm (l₁:=[Hp.blk (w.heap.size+1) (.cells X 3 (0,0)),A,B,C]) (l₂:=[pmatR oa m aL])).append_right [pmatR ob m bs]).trans (List.Perm.cons _ (List.Perm.cons _ ?_))
  exact List.perm_append_comm (l₁:=[A,B,C]) (l₂:=[pmatR ob m bs])
 have h2:=pmat_put (h1.perm (p.append_right Ps)) hX ha
 have q:[pmatR oa m (aL++[w.heap.size]),Hp.blk (w.heap.size+1) (.cells X 3 (0,0)),pmatR ob m bs,A,B,C].Perm [Hp.blk (w.heap.size+1) (.cells X 3 (0,0)),pmatR ob m bs,pmatR oa m (aL++[w.heap.size]),A,B,C] :=
  (List.Perm.swap _ _ _).trans (List.Perm.cons _ (List.Perm.swap _ _ _))
 have h3:=pmat_put (h2.perm (q.append_right Ps)) hX hb
 exact has_two5 h3
theorem pmat_ne {A B C:Res} {oa ob:Nat} {al bl:List Nat} (h:Has W w (A::B::C::pmatR oa m al::pmatR ob m bl::Ps)):oa≠ob:=by
 have p:[A,B,C,pmatR oa m al,pmatR ob m bl].Perm [pmatR oa m al,pmatR ob m bl,A,B,C]:=List.perm_append_comm (l₁:=[A,B,C]) (l₂:=[pmatR oa m al,pmatR ob m bl])
 obtain⟨F,⟨F1,F2,h1,⟨G1,G2,g1,_,_,rfl⟩,h3,_⟩,_⟩:=h.perm (p.append_right Ps)
 obtain⟨_,rfl⟩:=h1
 obtain⟨_,rfl⟩:=g1
 intro e
 exact h3 oa (by simp) (by simp [e])
theorem pmat_lt {A B C:Res} {oa ob:Nat} {al bl:List Nat} (h:Has W w (A::B::C::pmatR oa m al::pmatR ob m bl::Ps)):oa<w.heap.size∧ob<w.heap.size:=by
 obtain⟨F,⟨⟨_,h2,_⟩,_⟩⟩:=h.fourth.head
 obtain⟨G,⟨⟨_,g2,_⟩,_⟩⟩:=h.fifth.fourth.head
 exact⟨lBk h2,lBk g2⟩
theorem two_rows' {A B C:Res} {X:Array Value} {oa ob i:Nat} {al bl:List Nat} (h:Has W w (A::B::C::pmatR oa m al::pmatR ob m bl::Ps)) (hX:X=(iv (List.replicate m 0)).toArray) (ha:al.length=i) (hb:bl.length=i) (hi:i<m) :
  Has W ((((w.setCell ⟨oa,i,none⟩ (rowV m w.heap.size)).setCell ⟨ob,i,none⟩ (rowV m (w.heap.size+1))).alloc (.cells X 3 (0,0))).alloc (.cells X 3 (0,0))) (A::B::C::pmatR oa m (al++[w.heap.size])::pmatR ob m (bl++[w.heap.size+1])::Ps):=by
 obtain⟨l1,l2⟩:=pmat_lt h
 have h1:=two_rows h hX (by omega) (by omega)
 rw [ha,hb] at h1
 rw [World.setCell_alloc_past _ _ _ _ (by simp;omega),World.setCell_alloc_past _ _ _ _ l1,World.setCell_alloc_past _ _ _ _ (by simp;omega),World.setCell_alloc_past _ _ _ _ (by simp;omega)] at h1
 exact h1
end
structure NextSt (W wr:World) (r:Rule) (hv nv:Value) (mb sb rb:Nat) (ns:List K4) (mm:List ((Int×Int)×Int)) (Ps:List Res) (oa ob m:Nat) (al bl:List Nat) (F0 G:Fld) (lo y x:Nat):Prop where
 has:Has W wr (memoL r hv nv mb sb rb ns mm (matR oa m al F0::matR ob m bl G::Ps))
 done:∀ i j:Nat,lo≤i→i<m - lo→lo≤j→j<m - lo→(j<y∨j=y∧i<x)→G i j=gen r F0 i j
theorem NextSt.put {W wr wr':World} {r:Rule} {hv nv:Value} {mb sb rb:Nat} {ns:List K4} {mm:List ((Int×Int)×Int)} {Ps:List Res} {oa ob m:Nat} {al bl:List Nat} {F0 G:Fld} {lo y x b:Nat} (h:NextSt W wr r hv nv mb sb rb ns mm Ps oa ob m al bl F0 G lo y x)
  (hf:Fr [] wr wr') (hx:x<m) (hb:bl[y]?=some b) {v:Int} (hv':v=gen r F0 x y):∃ G',NextSt W (wr'.setCell ⟨b,x,none⟩ (.int .i64 v)) r hv nv mb sb rb ns mm Ps oa ob m al bl F0 G' lo y (x+1):=by
 refine⟨fun i j=>if i=x∧j=y then v else G i j,⟨?_,fun i j h1 h2 h3 h4 h5=>?_⟩⟩
 ·have h1:=mat_set (h.has.step hf).fifth.fourth hx hb (v:=v) (G:=fun i j=>if i=x∧j=y then v else G i j) fun i j=>by
   by_cases e:i=x∧j=y
   ·rw [if_pos e,if_pos (by omega)]
   ·rw [if_neg e,if_neg (by omega)]
  exact h1.back4.fifth
 ·by_cases e:i=x∧j=y
  ·obtain⟨rfl,rfl⟩:=e
   show (if _∧_ then v else _)=_
   rw [if_pos ⟨rfl,rfl⟩]
   exact hv'
  ·show (if _∧_ then v else _)=_
   rw [if_neg (by omega)]
   exact h.done i j h1 h2 h3 h4 (by omega)
theorem take_map_succ {l:List (Int×Int)} {k:Nat} {p:Int×Int} (hk:l[k]?=some p) (f:Int×Int→Int):(l.take (k+1)).map f=(l.take k).map f++[f p]:=by
 rw [List.take_add_one,hk];simp
theorem down_cell {w:World} {r:Rule} {na:Option Addr} {nc:Nat} (hR:rightR r=true) (hn:NodesAt w (.slice na r.nodes.length nc) r.nodes) {ss:List Int} (hs:∀ s∈ss,0≤s∧s<r.S) (hl:ss.length<r.hood.length) {s:Int} (hs0:0≤s) (hs1:s<r.S) :
  ∃ (k:Nat) (g off:Nat) (g2 off2 rl rc:Nat),down r ss=k∧k<r.nodes.length∧na=some ⟨g,off,none⟩∧g<w.heap.size∧w.cell? ⟨g,off+k*2+1,none⟩=some (.slice (some ⟨g2,off2,none⟩) rl rc)∧(rl:Int)=r.S∧g2<w.heap.size∧w.cell? ⟨g2,off2+s.toNat,none⟩=some (.int .i64 (nextAt r k s)):=by
 obtain⟨h1,h2,h3⟩:=(down_at hR hs (by omega)).1 hl
 obtain⟨k,hk⟩:∃ k:Nat,down r ss=k:=⟨(down r ss).toNat,by omega⟩
 rw [hk] at h2 h3
 have hlt:k<r.nodes.length:=by omega
 have hx:r.nodes[k]?=some r.nodes[k]:=List.getElem?_eq_getElem hlt
 have hok:=right_node hR hlt
 rw [nodeOK_eq hx,Bool.and_eq_true,decide_eq_true_eq] at hok
 obtain⟨⟨_,_,hS⟩,_⟩:=hok
 obtain⟨g,off,ra,rc,rfl,hg,_,hc,hi⟩:=hn.node hx
 have hsx:(r.nodes[k]).2[s.toNat]?=some (nextAt r k s):=by
  unfold nextAt
  rw [Int.toNat_natCast,show r.nodes.getD k (0,[])=r.nodes[k] by rw [List.getD_eq_getElem?_getD,hx];rfl,List.getD_eq_getElem?_getD,List.getElem?_eq_getElem (by omega)]
  rfl
 obtain⟨g2,off2,rfl,hg2,hc2⟩:=hi.cell hsx
 exact⟨k,g,off,g2,off2,_,rc,hk,hlt,rfl,hg,hc,hS,hg2,hc2⟩
end Go.Proofs.Ytppmnmheodimoaa
end
section
namespace Go.Proofs.Ytppmnmheodimoaa
open Go Go.RowKit Rg Mp Hp Qs Ev
def RowsOff (w:World) (v:Value) (L:List (List Int)) (G:List Nat):Prop :=
 ∃ vs:List Value,Reads w v L.length 1 vs∧(∀ g,v.ownBlock=some g→g<w.heap.size∧g∉G)∧∀ (i:Nat) (r:List Int),L[i]?=some r→∃ u,vs[i]?=some u∧IntsAt w u r∧CapOk u∧∀ g,u.ownBlock=some g→g<w.heap.size∧g∉G
theorem RowsOff.fit {w:World} {v:Value} {L:List (List Int)} {G:List Nat} (h:RowsOff w v L G):RowsFit w v L:=by
 obtain⟨vs,h1,_,h2⟩:=h
 exact⟨vs,h1,fun i r hi=>by obtain⟨u,hu,h3,h4,_⟩:=h2 i r hi;exact⟨u,hu,h3,h4⟩⟩
theorem RowsOff.step {w w':World} {v:Value} {L:List (List Int)} {G G':List Nat} (h:RowsOff w v L G) (hf:Fr G w w') (hG:∀ x∈G',x∈G∨w.heap.size≤x):RowsOff w' v L G':=by
 obtain⟨vs,h1,h2,h3⟩:=h
 have hsz:=hf.size
 have key:∀ g,g<w.heap.size∧g∉G→g<w'.heap.size∧g∉G':=fun g hg=>⟨by omega,fun hx=>by rcases hG g hx with h|h;exact hg.2 h;omega⟩
 refine⟨vs,h1.keep fun x hx hlt=>hf.block x hlt (h2 x hx).2,fun g hg=>key g (h2 g hg),fun i r hi=>?_⟩
 obtain⟨u,hu,h4,h5,h6⟩:=h3 i r hi
 exact⟨u,hu,Reads.keep h4 fun x hx hlt=>hf.block x hlt (h6 x hx).2,h5,fun g hg=>key g (h6 g hg)⟩
theorem Gath.off {w:World} {base:Nat} {P:Nat→Prop} {v:Value} {L:List (List Int)} (h:Gath w base P v L) {G:List Nat} (hG:∀ x∈G,x<base∧¬ P x):RowsOff w v L G:=by
 obtain⟨vs,ho,hr⟩:=h
 refine⟨vs,Reads.of_owns ho,fun g hg=>⟨oLT ho hg,fun hx=>by have:=owns_ge ho hg;have:=(hG g hx).1;omega⟩,fun i r hi=>?_⟩
 obtain⟨u,hu,h1,h2,h3⟩:=hr i r hi
 exact⟨u,hu,h1,h2,fun g hg=>⟨(h3 g hg).1,fun hx=>(hG g hx).2 (h3 g hg).2.1⟩⟩
theorem RValue_calls {w:World} {r:Rule} {ha na:Option Addr} {hc nc:Nat} {b:Option Addr} {c:Nat} {ss:List Int} (hR:rightR r=true) (hn:NodesAt w (.slice na r.nodes.length nc) r.nodes) (hi:IntsAt w (.slice b ss.length c) ss) (hl:ss.length=r.hood.length) (hs:∀ s∈ss,0≤s∧s<r.S) :
  Calls Try.prog 68 #[.agg #[.int .i64 r.S,.slice ha r.hood.length hc,.slice na r.nodes.length nc],.slice b ss.length c] w fun e w'=>e=.returned (.int .i64 (down r ss))∧Fr [] w w':=by
 have HN:=Lib.hid hn
 have HI:=Lib.hid hi
 have HS:=Lib.hid hs
 have HL:=Lib.hid hl
 have hh:=right_hlen hR
 have hnl:=right_len hR
 have hlen:ss.length≤25:=by omega
 clear hn hi hs hl hh
 go_enter Try.func68,Try.ntmps68
 go_wp2
 obtain⟨w1,hw1⟩:∃ w1,w.alloc (Obj.cells #[Value.int .i64 r.S,.slice ha r.hood.length hc,.slice na r.nodes.length nc] 31 (0,0))=w1:=⟨_,rfl⟩
 have hb1:w1.heap[w.heap.size]?=some (.cells #[Value.int .i64 r.S,.slice ha r.hood.length hc,.slice na r.nodes.length nc] 31 (0,0)):=by rw [← hw1];(repeat first|rw [if_pos (by omega)]|rw [if_neg (by omega)]|rw [hDR]|rw [hDN]|rw [hAz]|rw [hSz]|rw [hAC]|rw [hSC]|rw [oMS]|rw [uPC]|rw [lSZ]|rw [lSS]|rfl)
 have Hf:=Lib.hid (show Fr [] w w1 by rw [← hw1];(repeat first|exact Fr.refl _ _|assumption|apply Fr.n|apply Fr.d|apply Fr.a|refine Fr.s ?_ (.inr (by simp;try omega)) _))
 rw [hw1]
 have Ht:=Lib.hid hb1
 have hnil:down r []=(r.nodes.length - 1:Int):=rfl
 obtain⟨tb,htb⟩:∃ t,w.heap.size=t:=⟨_,rfl⟩
 rw [htb] at Ht ⊢
 clear hw1 hb1 htb
 go_loopw [5,6] (fun x5 x6 wr=>∃ i:Nat,x6=.int .i64 i∧i≤ss.length∧x5=.int .i64 (down r (ss.take i))∧Hid (Fr [] w1 wr)) (fun _ z _=>ss.length - (intOf z).toNat)
 case atStart=>exact⟨0,rfl,by omega,by rw [List.take_zero,hnil],Lib.hid (Fr.refl _ _)⟩
 case round =>
  obtain⟨i,rfl,hi,rfl,Hf1⟩:=hrel
  clear hnil
  have hfk:=Hf1.out
  (try clear t0)
  (try clear t1)
  (try clear t2)
  (try clear tl)
  have ht_:=(hfk.block _ (lBk Ht.out) (by simp)).trans Ht.out
  clear Ht
  have t0:=hEC ht_ 0
  have t1:=hEC ht_ 1
  have t2:=hEC ht_ 2
  have tl:=lBk ht_
  have Ht:=Lib.hid ht_
  clear ht_
  clear hfk
  by_cases hlt:i<ss.length
  ·obtain⟨s,hs⟩:∃ s,ss[i]?=some s:=⟨_,List.getElem?_eq_getElem hlt⟩
   have hok:=HS.out s (List.mem_of_getElem? hs)
   obtain⟨gi,oi,hgi,lgi,ci⟩:=(HI.out.fr (Hf.out.trans0 Hf1.out)).cell hs
   have hsn:=down_snoc r (ss.take i) s
   rw [show ss.take i++[s]=ss.take (i+1) by rw [List.take_add_one,hs];rfl] at hsn
   obtain⟨k,gn,on,g2,off2,rl,rc,hk,hkl,hen,hgn,n1,hrl,hg2,n2⟩:=down_cell (ss:=ss.take i) (s:=s) hR (HN.out.fr (Hf.out.trans0 Hf1.out)) (fun s hs=>HS.out s (List.mem_of_mem_take hs)) (by have:=HL.out;rw [List.length_take];omega) hok.1 hok.2
   rw [hk] at hsn ⊢
   have HSN:=Lib.hid hsn
   obtain⟨s0,s1⟩:=hok
   subst hgi
   subst hen
   clear hsn hk hs
   go_wp2
   (refine wRT (by kernel_rfl) (by kernel_rfl) ?_)
   have s2:s<(rl:Int):=by omega
   clear hrl s1
   go_wp2
   refine Strict.intro rfl ?_
   go_wp2
   go_roundw
   case rel=>exact⟨i+1,by go_num,by omega,by rw [HSN.out],by have:=Hf1.out;exact Lib.hid (by (repeat first|exact Fr.refl _ _|assumption|apply Fr.n|apply Fr.d|apply Fr.a|refine Fr.s ?_ (.inr (by simp;try omega)) _))⟩
   case measure=>simp [intOf];omega
  ·have hi':i=ss.length:=by omega
   rw [hi',List.take_length]
   go_wp2
   go_ret
   exact⟨rfl,Hf.out.trans0 Hf1.out⟩
end Go.Proofs.Ytppmnmheodimoaa
end
