/- Own texts of this claim, part 7: no condition. -/
import Derived.Laws.OwnMore
import Derived.Test.YtdanghnadbkhfaaGreatZG5
import Derived.Test.YtdanghnadbkhfaaGreatZG3
set_option linter.unusedVariables false
set_option linter.unusedSimpArgs false
section
namespace Go.Proofs.YtdanghnadbkhfaaGreat
open Go Go.RowKit Rg Mp Hp Qs Ev
theorem level_nat {s:Int} {ns:List K4} (hg:GoodQ s ns) {id:Int} (h:0≤lvl s (levs s ns) id):∃ n:Nat,lvl s (levs s ns) id=n∧n≤256∧Is s ns n id (tr s ns id):=by
 refine⟨(lvl s (levs s ns) id).toNat,by omega,?_,Is.of_lvl hg (by omega)⟩
 have hk:=(kn_lvl hg id).1 h
 rcases hk.cases with ⟨h0,h1⟩|⟨i,k,rfl,hi⟩
 ·have:lvl s (levs s ns) id=0:=by unfold lvl;rw [if_neg (by omega),if_pos h1]
  omega
 ·have:=good_lvl hg hi;omega
set_option maxHeartbeats 4000000 in
theorem Centre_q {W w:World} {b:Nat} {s:Int} {ns:List K4} {Ps:List Res} (h:Has W w (sTR b s ns::Ps)) (id:Int) :
  Calls Tryz.prog 27 #[.pointer (some ⟨b,0,none⟩),.int .i64 id] w fun e w' =>
   e=.returned (.tuple #[.int .i64 (centreQ s ns id).1.1,.int .i64 (centreQ s ns id).1.2])∧Has W w' (sTR b s (centreQ s ns id).2::Ps):=by
 have hg:=has_good h
 have HN:=Lib.hid (fun w1 Qs (h1:Has W w1 (sTR b s ns::Qs))=>known_q h1 id)
 have HL:=Lib.hid (fun w1 Qs (h1:Has W w1 (sTR b s ns::Qs))=>Level_has h1 id)
 have H:=Lib.hid h
 unfold knownQ at HN
 unfold centreQ
 by_cases h0:lvl s (levs s ns) id<0
 ·simp only [if_pos h0] at HN ⊢
  clear HL h hg
  go_enter Tryz.func27,Tryz.ntmps27
  go_wp2_with fail
  refine (HN.out _ _ H.out).mono ?_
  rintro e w1 ⟨rfl,h,hf⟩
  have H:=Lib.hid h
  clear h hf
  go_wp2
  go_ret2
  exact⟨rfl,H.out⟩
 simp only [if_neg h0] at HN ⊢
 obtain⟨m,hm,hm256,hi⟩:=level_nat hg (id:=id) (by omega)
 rw [hm] at HL h0 ⊢
 by_cases h2:(m:Int)<2
 ·rw [if_pos h2]
  have hd:decide ((m:Int)<2)=true:=by simpa using h2
  clear h hg hi hm h2
  go_enter Tryz.func27,Tryz.ntmps27
  go_wp2_with fail
  refine (HN.out _ _ H.out).mono ?_
  rintro e w1 ⟨rfl,h,hf⟩
  have H:=Lib.hid h
  clear h hf
  go_wp2_with fail
  refine (HL.out _ _ H.out).mono ?_
  rintro e w2 ⟨rfl,h,hf⟩
  have H:=Lib.hid h
  clear h hf
  go_wp2
  go_ret2
  exact⟨rfl,H.out⟩
 rw [if_neg h2]
 have hd:decide ((m:Int)<2)=false:=by simpa using h2
 obtain⟨n,rfl⟩:∃ n,m=n+2:=⟨m - 2,by omega⟩
 obtain⟨_,_,hk⟩:=hi.node hg
 have HK:=Lib.hid (fun w1 Qs (h1:Has W w1 (sTR b s ns::Qs))=>Kids_has h1 hi)
 have HK1:=Lib.hid (fun w1 Qs q (hq:q<4) (h1:Has W w1 (sTR b s ns::Qs))=>Kids_has h1 (hk q hq))
 clear h hg hi hm h2 hk h0
 go_enter Tryz.func27,Tryz.ntmps27
 go_wp2_with fail
 refine (HN.out _ _ H.out).mono ?_
 rintro e w1 ⟨rfl,h,hf⟩
 have H:=Lib.hid h
 clear h hf
 go_wp2_with fail
 refine (HL.out _ _ H.out).mono ?_
 rintro e w2 ⟨rfl,h,hf⟩
 have H:=Lib.hid h
 clear h hf
 go_wp2_with fail
 have h:=(hAL H.out #[.int .i64 0,.int .i64 0,.int .i64 0,.int .i64 0] 81).swap
 refine (HK.out _ _ h).mono ?_
 rintro e w3 ⟨rfl,h,hf⟩
 obtain⟨ib,hib⟩:∃ ib,w2.heap.size=ib:=⟨_,rfl⟩
 rw [hib] at h ⊢
 have H3:=Lib.hid h
 clear h hf hib H
 go_wp2
 go_loopw [31] (fun x wr=>∃ z:Int,x=.int .i64 z∧At5 (fun k=>Has W wr (sTR b s ns::Hp.blk ib (.cells (iv (filled 4 (fun q=>(nodeOf s ns ((nodeOf s ns id).get q)).get (3 - q)) k)).toArray 81 (0,0))::Ps)) z) (fun x _=>4 - (intOf x).toNat)
 case atStart =>
  refine⟨0,rfl,.inl ⟨rfl,?_⟩⟩
  have h0:=H3.out.step (by (repeat first|exact Fr.refl _ _|assumption|apply Fr.n|apply Fr.d|apply Fr.a|refine Fr.s ?_ (.inr (by simp;try omega)) _):Fr [] w3 (w3.alloc (.cells #[.int .i64 (nodeOf s ns id).a,.int .i64 (nodeOf s ns id).b,.int .i64 (nodeOf s ns id).c,.int .i64 (nodeOf s ns id).d] 81)))
  exact h0
 case round =>
  obtain⟨z,rfl,hz⟩:=hrel
  clear H3
  rcases hz with ⟨rfl,h⟩|⟨rfl,h⟩|⟨rfl,h⟩|⟨rfl,h⟩|⟨rfl,h⟩
  ·
   have H:=Lib.hid h
   clear h
   go_wp2_with fail
   refine (HK1.out _ _ 0 (by omega) H.out).mono ?_
   rintro e w5 ⟨rfl,h,hf⟩
   have c0:=filled_cell h.swap (i:=0) (by omega)
   simp only [Nat.lt_irrefl,if_false] at c0
   have cz:=(hCE h.swap).2.1 0
   have cl:=(hCE h.swap).2.2
   have H5:=Lib.hid h
   clear h hf
   go_wp2
   go_roundw
   case rel=>exact⟨1,rfl,(.inr (.inl ⟨rfl,(filled_set_has H5.out.swap (by omega) rfl).swap.step ((Fr.refl [] _).alloc _)⟩))⟩
   case measure=>simp [intOf]
  ·
   have H:=Lib.hid h
   clear h
   go_wp2_with fail
   refine (HK1.out _ _ 1 (by omega) H.out).mono ?_
   rintro e w5 ⟨rfl,h,hf⟩
   have c0:=filled_cell h.swap (i:=1) (by omega)
   simp only [Nat.lt_irrefl,if_false] at c0
   have cz:=(hCE h.swap).2.1 1
   have cl:=(hCE h.swap).2.2
   have H5:=Lib.hid h
   clear h hf
   go_wp2
   go_roundw
   case rel=>exact⟨2,rfl,(.inr (.inr (.inl ⟨rfl,(filled_set_has H5.out.swap (by omega) rfl).swap.step ((Fr.refl [] _).alloc _)⟩)))⟩
   case measure=>simp [intOf]
  ·
   have H:=Lib.hid h
   clear h
   go_wp2_with fail
   refine (HK1.out _ _ 2 (by omega) H.out).mono ?_
   rintro e w5 ⟨rfl,h,hf⟩
   have c0:=filled_cell h.swap (i:=2) (by omega)
   simp only [Nat.lt_irrefl,if_false] at c0
   have cz:=(hCE h.swap).2.1 2
   have cl:=(hCE h.swap).2.2
   have H5:=Lib.hid h
   clear h hf
   go_wp2
   go_roundw
   case rel=>exact⟨3,rfl,(.inr (.inr (.inr (.inl ⟨rfl,(filled_set_has H5.out.swap (by omega) rfl).swap.step ((Fr.refl [] _).alloc _)⟩))))⟩
   case measure=>simp [intOf]
  ·
   have H:=Lib.hid h
   clear h
   go_wp2_with fail
   refine (HK1.out _ _ 3 (by omega) H.out).mono ?_
   rintro e w5 ⟨rfl,h,hf⟩
   have c0:=filled_cell h.swap (i:=3) (by omega)
   simp only [Nat.lt_irrefl,if_false] at c0
   have cz:=(hCE h.swap).2.1 3
   have cl:=(hCE h.swap).2.2
   have H5:=Lib.hid h
   clear h hf
   go_wp2
   go_roundw
   case rel=>exact⟨4,rfl,(.inr (.inr (.inr (.inr ⟨rfl,(filled_set_has H5.out.swap (by omega) rfl).swap.step ((Fr.refl [] _).alloc _)⟩))))⟩
   case measure=>simp [intOf]
  ·have H:=Lib.hid h
   have c0:=filled_cell h.swap (i:=0) (by omega)
   have c1:=filled_cell h.swap (i:=1) (by omega)
   have c2:=filled_cell h.swap (i:=2) (by omega)
   have c3:=filled_cell h.swap (i:=3) (by omega)
   simp only [show (0:Nat)<4 by omega,show (1:Nat)<4 by omega,show (2:Nat)<4 by omega,show (3:Nat)<4 by omega,if_true] at c0 c1 c2 c3
   clear h
   go_wp2_with fail
   refine (Join_has H.out _ _ _ _).mono ?_
   rintro e w9 ⟨rfl,h1⟩
   have HF:=Lib.hid h1
   clear h1
   go_wp2
   go_ret2
   exact⟨rfl,HF.out.swap.drop⟩
def mixL (k:K4) (ids:List Int):List Int:=ids++[k.a,k.b,k.c,k.d].drop ids.length
theorem len2 {α:Type} {l:List α} (h:l.length=2):∃ a b,l=[a,b]:=by
 rcases l with _|⟨a,_|⟨b,_|⟨c,l⟩⟩⟩<;>simp at h
 exact⟨_,_,rfl⟩
theorem len3 {α:Type} {l:List α} (h:l.length=3):∃ a b c,l=[a,b,c]:=by
 rcases l with _|⟨a,_|⟨b,_|⟨c,_|⟨d,l⟩⟩⟩⟩<;>simp at h
 exact⟨_,_,_,rfl⟩
theorem len4 {α:Type} {l:List α} (h:l.length=4):∃ a b c d,l=[a,b,c,d]:=by
 rcases l with _|⟨a,_|⟨b,_|⟨c,_|⟨d,_|⟨e,l⟩⟩⟩⟩⟩<;>simp at h
 exact⟨_,_,_,_,rfl⟩
set_option maxHeartbeats 4000000 in
theorem Expand_q {W w:World} {b:Nat} {s:Int} {ns:List K4} {Ps:List Res} (h:Has W w (sTR b s ns::Ps)) (id:Int) :
  Calls Tryz.prog 29 #[.pointer (some ⟨b,0,none⟩),.int .i64 id] w fun e w' =>
   e=.returned (.tuple #[.int .i64 (expandQ s ns id).1.1,.int .i64 (expandQ s ns id).1.2])∧Has W w' (sTR b s (expandQ s ns id).2::Ps):=by
 have hg:=has_good h
 have HN:=Lib.hid (fun w1 Qs (h1:Has W w1 (sTR b s ns::Qs))=>known_q h1 id)
 have HL:=Lib.hid (fun w1 Qs (h1:Has W w1 (sTR b s ns::Qs))=>Level_has h1 id)
 have H:=Lib.hid h
 unfold knownQ at HN
 unfold expandQ
 by_cases h0:lvl s (levs s ns) id<0
 ·simp only [if_pos h0] at HN ⊢
  clear HL h hg
  go_enter Tryz.func29,Tryz.ntmps29
  go_wp2_with fail
  refine (HN.out _ _ H.out).mono ?_
  rintro e w1 ⟨rfl,h,hf⟩
  have H:=Lib.hid h
  clear h hf
  go_wp2
  go_ret2
  exact⟨rfl,H.out⟩
 simp only [if_neg h0] at HN ⊢
 obtain⟨m,hm,hm256,hi⟩:=level_nat hg (id:=id) (by omega)
 rw [hm] at HL h0 ⊢
 by_cases h1:(m:Int)<1
 ·rw [if_pos (.inl h1)]
  have hd:decide ((m:Int)<1)=true:=by simpa using h1
  clear h hg hi hm h1
  go_enter Tryz.func29,Tryz.ntmps29
  go_wp2_with fail
  refine (HN.out _ _ H.out).mono ?_
  rintro e w1 ⟨rfl,h,hf⟩
  have H:=Lib.hid h
  clear h hf
  go_wp2_with fail
  refine (HL.out _ _ H.out).mono ?_
  rintro e w2 ⟨rfl,h,hf⟩
  have H:=Lib.hid h
  clear h hf
  go_wp2
  go_ret2
  exact⟨rfl,H.out⟩
 have hd:decide ((m:Int)<1)=false:=by simpa using h1
 by_cases h2:256≤(m:Int)
 ·rw [if_pos (.inr h2)]
  have hd2:decide ((m:Int) ≥ 256)=true:=by simpa using h2
  clear h hg hi hm h1 h2
  go_enter Tryz.func29,Tryz.ntmps29
  go_wp2_with fail
  refine (HN.out _ _ H.out).mono ?_
  rintro e w1 ⟨rfl,h,hf⟩
  have H:=Lib.hid h
  clear h hf
  go_wp2_with fail
  refine (HL.out _ _ H.out).mono ?_
  rintro e w2 ⟨rfl,h,hf⟩
  have H:=Lib.hid h
  clear h hf
  go_wp2
  go_ret2
  exact⟨rfl,H.out⟩
 have hd2:decide ((m:Int) ≥ 256)=false:=by simpa using h2
 rw [if_neg (by omega)]
 obtain⟨⟨o,eo⟩,no,hE⟩:∃ (r:Int×Int) (no:List K4),emptyQ s ns ((m:Int) - 1)=(r,no):=⟨_,_,rfl⟩
 have HE:=Lib.hid (fun w1 Qs (h1:Has W w1 (sTR b s ns::Qs))=>Empty_has h1 ((m:Int) - 1))
 rw [hE] at HE ⊢
 simp only at HE ⊢
 by_cases heo:eo=0
 case neg =>
  rw [if_pos heo]
  have hb:(eo != 0)=true:=by simpa using heo
  clear h hg hi hm h1 h2 hE h0
  go_enter Tryz.func29,Tryz.ntmps29
  go_wp2_with fail
  refine (HN.out _ _ H.out).mono ?_
  rintro e w1 ⟨rfl,h,hf⟩
  have H:=Lib.hid h
  clear h hf
  go_wp2_with fail
  refine (HL.out _ _ H.out).mono ?_
  rintro e w2 ⟨rfl,h,hf⟩
  have H:=Lib.hid h
  clear h hf
  go_wp2_with fail
  refine (HE.out _ _ H.out).mono ?_
  rintro e w3 ⟨rfl,h⟩
  have H3:=Lib.hid h
  clear h
  go_wp2
  go_ret2
  exact⟨rfl,H3.out⟩
 subst heo
 rw [if_neg (by simp)]
 have hb:((0:Int) != 0)=false:=rfl
 obtain⟨n,hnm⟩:∃ n,m=n+1:=⟨m - 1,by omega⟩
 have hpre:ns <+: no:=by
  have:=emptyQ_grows (s:=s) (ns:=ns) n
  rw [show ((m:Int) - 1)=((n:Nat):Int) by omega] at hE
  rw [hE] at this
  exact this.1
 rw [hnm] at hi
 have hi':=hi.grow hpre
 have hnode:nodeOf s no id=nodeOf s ns id:=by
  obtain⟨i,k,rfl,hk,_⟩:=hi.kids hg
  obtain⟨xs,rfl⟩:=hpre
  have hlt:=(List.getElem?_eq_some_iff.1 hk).1
  unfold nodeOf
  rw [List.getD_eq_getElem?_getD,List.getD_eq_getElem?_getD,List.getElem?_append_left (by omega)]
 have HK:=Lib.hid (fun w1 Qs (h1:Has W w1 (sTR b s no::Qs))=>Kids_has h1 hi')
 rw [hnode] at HK
 clear h hg hi hm h1 h2 hE h0 hi' hnode hpre hnm
 go_enter Tryz.func29,Tryz.ntmps29
 go_wp2_with fail
 refine (HN.out _ _ H.out).mono ?_
 rintro e w1 ⟨rfl,h,hf⟩
 have H:=Lib.hid h
 clear h hf
 go_wp2_with fail
 refine (HL.out _ _ H.out).mono ?_
 rintro e w2 ⟨rfl,h,hf⟩
 have H:=Lib.hid h
 clear h hf
 go_wp2_with fail
 refine (HE.out _ _ H.out).mono ?_
 rintro e w3 ⟨rfl,h⟩
 have H3:=Lib.hid h
 clear h
 go_wp2_with fail
 refine (HK.out _ _ H3.out).mono ?_
 rintro e w4 ⟨rfl,h,hf⟩
 have h:=(hAL h #[.int .i64 (nodeOf s ns id).a,.int .i64 (nodeOf s ns id).b,.int .i64 (nodeOf s ns id).c,.int .i64 (nodeOf s ns id).d] 81).swap
 obtain⟨ib,hib⟩:∃ ib,w4.heap.size=ib:=⟨_,rfl⟩
 rw [hib] at h
 have H4:=Lib.hid h
 clear h hf H3
 go_wp2
 clear hib
 go_loopw [45] (fun x wr=>∃ z:Int,x=.int .i64 z∧At5 (fun k=>∃ ids ms,kr (fun ms k=>join s ms (cornerK o ((nodeOf s ns id).get k) (3 - k))) k no=(0,ids,ms)∧Has W wr (sTR b s ms::Hp.blk ib (.cells (iv (mixL (nodeOf s ns id) ids)).toArray 81 (0,0))::Ps)) z) (fun x _=>4 - (intOf x).toNat)
 case atStart=>exact⟨0,rfl,.inl ⟨rfl,[],no,rfl,H4.out⟩⟩
 case round =>
  obtain⟨z,rfl,hz⟩:=hrel
  clear H4
  rcases hz with ⟨rfl,hz⟩|⟨rfl,hz⟩|⟨rfl,hz⟩|⟨rfl,hz⟩|⟨rfl,hz⟩
  ·
   obtain⟨ids,ms,hkr,h⟩:=hz
   have hl:=kr_len hkr
   obtain rfl:=List.length_eq_zero_iff.1 hl
   have Hkr:=Lib.hid hkr
   have c0:_=some (Value.int .i64 ((nodeOf s ns id).get 0)):=(hCE h.swap).1 0
   have cz:=(hCE h.swap).2.1 0
   have cl:=(hCE h.swap).2.2
   have H:=Lib.hid h
   clear h hkr hl
   go_wp2_with fail
   refine (Join_has (H.out.step (by (repeat first|exact Fr.refl _ _|assumption|apply Fr.n|apply Fr.d|apply Fr.a|refine Fr.s ?_ (.inr (by simp;try omega)) _))) _ _ _ _).mono ?_
   obtain⟨id5,e5,ms5,hj⟩:∃ id5 e5 ms5,join s ms (cornerK o ((nodeOf s ns id).get 0) (3 - 0))=((id5,e5),ms5):=⟨_,_,_,rfl⟩
   rintro e w5 ⟨rfl,h1⟩
   rw [show (⟨o,o,o,(nodeOf s ns id).get 0⟩:K4)=cornerK o ((nodeOf s ns id).get 0) (3 - 0) from rfl,hj] at h1 ⊢
   clear c0 cz cl
   have c0:_=some (Value.int .i64 ((nodeOf s ns id).get 0)):=(hCE h1.swap).1 0
   have cz:=(hCE h1.swap).2.1 0
   have cl:=(hCE h1.swap).2.2
   by_cases he5:e5=0
   ·subst he5
    have hb5:((0:Int) != 0)=false:=rfl
    have Hkr5:=Lib.hid (kr_ok Hkr.out (show (fun ms k=>join s ms (cornerK o ((nodeOf s ns id).get k) (3 - k))) ms 0=((id5,0),ms5) from hj))
    have H5:=Lib.hid h1
    clear h1 hj
    go_wp2
    go_roundw
    case rel=>exact⟨1,rfl,(.inr (.inl ⟨rfl,_,_,Hkr5.out,(hST H5.out.swap 0 _).swap⟩))⟩
    case measure=>simp [intOf]
   ·have hb5:(e5 != 0)=true:=by simpa using he5
    have HF5:=Lib.hid (fin4_bad (s:=s) (by omega) Hkr.out (show (fun ms k=>join s ms (cornerK o ((nodeOf s ns id).get k) (3 - k))) ms 0=((id5,e5),ms5) from hj) he5)
    have H5:=Lib.hid h1
    clear h1 hj he5
    go_wp2
    go_ret2
    rw [HF5.out]
    exact⟨rfl,(hST H5.out.swap 0 _).drop⟩
  ·
   obtain⟨ids,ms,hkr,h⟩:=hz
   have hl:=kr_len hkr
   obtain⟨i0,rfl⟩:=List.length_eq_one_iff.1 hl
   have Hkr:=Lib.hid hkr
   have c0:_=some (Value.int .i64 ((nodeOf s ns id).get 1)):=(hCE h.swap).1 1
   have cz:=(hCE h.swap).2.1 1
   have cl:=(hCE h.swap).2.2
   have H:=Lib.hid h
   clear h hkr hl
   go_wp2_with fail
   refine (Join_has (H.out.step (by (repeat first|exact Fr.refl _ _|assumption|apply Fr.n|apply Fr.d|apply Fr.a|refine Fr.s ?_ (.inr (by simp;try omega)) _))) _ _ _ _).mono ?_
   obtain⟨id5,e5,ms5,hj⟩:∃ id5 e5 ms5,join s ms (cornerK o ((nodeOf s ns id).get 1) (3 - 1))=((id5,e5),ms5):=⟨_,_,_,rfl⟩
   rintro e w5 ⟨rfl,h1⟩
   rw [show (⟨o,o,(nodeOf s ns id).get 1,o⟩:K4)=cornerK o ((nodeOf s ns id).get 1) (3 - 1) from rfl,hj] at h1 ⊢
   clear c0 cz cl
   have c0:_=some (Value.int .i64 ((nodeOf s ns id).get 1)):=(hCE h1.swap).1 1
   have cz:=(hCE h1.swap).2.1 1
   have cl:=(hCE h1.swap).2.2
   by_cases he5:e5=0
   ·subst he5
    have hb5:((0:Int) != 0)=false:=rfl
    have Hkr5:=Lib.hid (kr_ok Hkr.out (show (fun ms k=>join s ms (cornerK o ((nodeOf s ns id).get k) (3 - k))) ms 1=((id5,0),ms5) from hj))
    have H5:=Lib.hid h1
    clear h1 hj
    go_wp2
    go_roundw
    case rel=>exact⟨2,rfl,(.inr (.inr (.inl ⟨rfl,_,_,Hkr5.out,(hST H5.out.swap 1 _).swap⟩)))⟩
    case measure=>simp [intOf]
   ·have hb5:(e5 != 0)=true:=by simpa using he5
    have HF5:=Lib.hid (fin4_bad (s:=s) (by omega) Hkr.out (show (fun ms k=>join s ms (cornerK o ((nodeOf s ns id).get k) (3 - k))) ms 1=((id5,e5),ms5) from hj) he5)
    have H5:=Lib.hid h1
    clear h1 hj he5
    go_wp2
    go_ret2
    rw [HF5.out]
    exact⟨rfl,(hST H5.out.swap 1 _).drop⟩
  ·
   obtain⟨ids,ms,hkr,h⟩:=hz
   have hl:=kr_len hkr
   obtain⟨i0,i1,rfl⟩:=len2 hl
   have Hkr:=Lib.hid hkr
   have c0:_=some (Value.int .i64 ((nodeOf s ns id).get 2)):=(hCE h.swap).1 2
   have cz:=(hCE h.swap).2.1 2
   have cl:=(hCE h.swap).2.2
   have H:=Lib.hid h
   clear h hkr hl
   go_wp2_with fail
   refine (Join_has (H.out.step (by (repeat first|exact Fr.refl _ _|assumption|apply Fr.n|apply Fr.d|apply Fr.a|refine Fr.s ?_ (.inr (by simp;try omega)) _))) _ _ _ _).mono ?_
   obtain⟨id5,e5,ms5,hj⟩:∃ id5 e5 ms5,join s ms (cornerK o ((nodeOf s ns id).get 2) (3 - 2))=((id5,e5),ms5):=⟨_,_,_,rfl⟩
   rintro e w5 ⟨rfl,h1⟩
   rw [show (⟨o,(nodeOf s ns id).get 2,o,o⟩:K4)=cornerK o ((nodeOf s ns id).get 2) (3 - 2) from rfl,hj] at h1 ⊢
   clear c0 cz cl
   have c0:_=some (Value.int .i64 ((nodeOf s ns id).get 2)):=(hCE h1.swap).1 2
   have cz:=(hCE h1.swap).2.1 2
   have cl:=(hCE h1.swap).2.2
   by_cases he5:e5=0
   ·subst he5
    have hb5:((0:Int) != 0)=false:=rfl
    have Hkr5:=Lib.hid (kr_ok Hkr.out (show (fun ms k=>join s ms (cornerK o ((nodeOf s ns id).get k) (3 - k))) ms 2=((id5,0),ms5) from hj))
    have H5:=Lib.hid h1
    clear h1 hj
    go_wp2
    go_roundw
    case rel=>exact⟨3,rfl,(.inr (.inr (.inr (.inl ⟨rfl,_,_,Hkr5.out,(hST H5.out.swap 2 _).swap⟩))))⟩
    case measure=>simp [intOf]
   ·have hb5:(e5 != 0)=true:=by simpa using he5
    have HF5:=Lib.hid (fin4_bad (s:=s) (by omega) Hkr.out (show (fun ms k=>join s ms (cornerK o ((nodeOf s ns id).get k) (3 - k))) ms 2=((id5,e5),ms5) from hj) he5)
    have H5:=Lib.hid h1
    clear h1 hj he5
    go_wp2
    go_ret2
    rw [HF5.out]
    exact⟨rfl,(hST H5.out.swap 2 _).drop⟩
  ·
   obtain⟨ids,ms,hkr,h⟩:=hz
   have hl:=kr_len hkr
   obtain⟨i0,i1,i2,rfl⟩:=len3 hl
   have Hkr:=Lib.hid hkr
   have c0:_=some (Value.int .i64 ((nodeOf s ns id).get 3)):=(hCE h.swap).1 3
   have cz:=(hCE h.swap).2.1 3
   have cl:=(hCE h.swap).2.2
   have H:=Lib.hid h
   clear h hkr hl
   go_wp2_with fail
   refine (Join_has (H.out.step (by (repeat first|exact Fr.refl _ _|assumption|apply Fr.n|apply Fr.d|apply Fr.a|refine Fr.s ?_ (.inr (by simp;try omega)) _))) _ _ _ _).mono ?_
   obtain⟨id5,e5,ms5,hj⟩:∃ id5 e5 ms5,join s ms (cornerK o ((nodeOf s ns id).get 3) (3 - 3))=((id5,e5),ms5):=⟨_,_,_,rfl⟩
   rintro e w5 ⟨rfl,h1⟩
   rw [show (⟨(nodeOf s ns id).get 3,o,o,o⟩:K4)=cornerK o ((nodeOf s ns id).get 3) (3 - 3) from rfl,hj] at h1 ⊢
   clear c0 cz cl
   have c0:_=some (Value.int .i64 ((nodeOf s ns id).get 3)):=(hCE h1.swap).1 3
   have cz:=(hCE h1.swap).2.1 3
   have cl:=(hCE h1.swap).2.2
   by_cases he5:e5=0
   ·subst he5
    have hb5:((0:Int) != 0)=false:=rfl
    have Hkr5:=Lib.hid (kr_ok Hkr.out (show (fun ms k=>join s ms (cornerK o ((nodeOf s ns id).get k) (3 - k))) ms 3=((id5,0),ms5) from hj))
    have H5:=Lib.hid h1
    clear h1 hj
    go_wp2
    go_roundw
    case rel=>exact⟨4,rfl,(.inr (.inr (.inr (.inr ⟨rfl,_,_,Hkr5.out,(hST H5.out.swap 3 _).swap⟩))))⟩
    case measure=>simp [intOf]
   ·have hb5:(e5 != 0)=true:=by simpa using he5
    have HF5:=Lib.hid (fin4_bad (s:=s) (by omega) Hkr.out (show (fun ms k=>join s ms (cornerK o ((nodeOf s ns id).get k) (3 - k))) ms 3=((id5,e5),ms5) from hj) he5)
    have H5:=Lib.hid h1
    clear h1 hj he5
    go_wp2
    go_ret2
    rw [HF5.out]
    exact⟨rfl,(hST H5.out.swap 3 _).drop⟩
  ·obtain⟨ids,ms,hkr,h⟩:=hz
   obtain⟨i0,i1,i2,i3,rfl⟩:=len4 (kr_len hkr)
   have c0:_=some (Value.int .i64 i0):=(hCE h.swap).1 0
   have c1:_=some (Value.int .i64 i1):=(hCE h.swap).1 1
   have c2:_=some (Value.int .i64 i2):=(hCE h.swap).1 2
   have c3:_=some (Value.int .i64 i3):=(hCE h.swap).1 3
   have cl:=(hCE h.swap).2.2
   have HF:=Lib.hid (fin4_ok (s:=s) hkr)
   have H:=Lib.hid h
   clear h hkr
   go_wp2_with fail
   refine (Join_has H.out _ _ _ _).mono ?_
   rintro e w5 ⟨rfl,h1⟩
   have H5:=Lib.hid h1
   clear h1
   go_wp2
   go_ret2
   rw [HF.out]
   exact⟨rfl,H5.out.swap.drop⟩
end Go.Proofs.YtdanghnadbkhfaaGreat
end
section
namespace Go.Proofs.Bn
def val (B:Nat):List Nat→Nat
 | []=>0
 | d::l=>d+B*val B l
def Dig (B:Nat) (l:List Nat):Prop:=∀ d∈l,d<B
theorem val_append (B:Nat):∀ (l m:List Nat),val B (l++m)=val B l+B ^ l.length*val B m
 | [],m=>by simp [val]
 | d::l,m=>by
  rw [List.cons_append,val,val,val_append B l m,List.length_cons,Nat.pow_succ]
  rw [Nat.mul_add,Nat.add_assoc]
  congr 2
  rw [← Nat.mul_assoc,Nat.mul_comm B]
theorem val_snoc (B:Nat) (l:List Nat) (d:Nat):val B (l++[d])=val B l+B ^ l.length*d:=by
 rw [val_append];simp [val]
theorem Dig.tail {B:Nat} {d:Nat} {l:List Nat} (h:Dig B (d::l)):Dig B l:=fun x hx=>h x (by simp [hx])
theorem Dig.head {B:Nat} {d:Nat} {l:List Nat} (h:Dig B (d::l)):d<B:=h d (by simp)
theorem Dig.take {B:Nat} {l:List Nat} (h:Dig B l) (i:Nat):Dig B (l.take i):=fun x hx=>h x (List.mem_of_mem_take hx)
theorem Dig.drop {B:Nat} {l:List Nat} (h:Dig B l) (i:Nat):Dig B (l.drop i):=fun x hx=>h x (List.mem_of_mem_drop hx)
theorem Dig.append {B:Nat} {l m:List Nat} (h:Dig B l) (k:Dig B m):Dig B (l++m):=fun x hx=>by
 rw [List.mem_append] at hx
 rcases hx with hx|hx
 ·exact h x hx
 ·exact k x hx
theorem Dig.set {B:Nat} {l:List Nat} (h:Dig B l) {i d:Nat} (hd:d<B):Dig B (l.set i d):=fun x hx=>by
 rcases List.mem_or_eq_of_mem_set hx with hx|rfl
 ·exact h x hx
 ·exact hd
theorem Dig.getD {B:Nat} {l:List Nat} (h:Dig B l) (hB:0<B) (i:Nat):l.getD i 0<B:=by
 rw [List.getD_eq_getElem?_getD]
 by_cases hi:i<l.length
 ·rw [List.getElem?_eq_getElem hi];exact h _ (List.getElem_mem _)
 ·rw [List.getElem?_eq_none (by omega)];exact hB
theorem Dig.replicate {B:Nat} (hB:0<B) (n:Nat):Dig B (List.replicate n 0):=fun x hx=>by
 rw [List.mem_replicate] at hx;omega
theorem Dig.nil {B:Nat}:Dig B []:=fun x hx=>by cases hx
theorem val_lt {B:Nat}:∀ {l:List Nat},Dig B l→val B l<B ^ l.length
 | [],_=>by simp [val]
 | d::l,h=>by
  have h1:=h.head
  have h2:=val_lt h.tail
  rw [val,List.length_cons,Nat.pow_succ]
  have:B*val B l+B≤B*B ^ l.length:=by
   rw [← Nat.mul_succ];exact Nat.mul_le_mul_left _ h2
  rw [Nat.mul_comm (B ^ l.length)]
  omega
theorem val_replicate (B n:Nat):val B (List.replicate n 0)=0:=by
 induction n with
 | zero=>rfl
 | succ n ih=>rw [List.replicate_succ,val,ih];simp
theorem val_take_drop (B:Nat) (l:List Nat) (i:Nat) (h:i≤l.length):val B l=val B (l.take i)+B ^ i*val B (l.drop i):=by
 have:=val_append B (l.take i) (l.drop i)
 rw [List.take_append_drop,List.length_take,Nat.min_eq_left h] at this
 exact this
theorem val_take_succ (B:Nat) (l:List Nat) (i:Nat):val B (l.take (i+1))=val B (l.take i)+B ^ i*l.getD i 0:=by
 by_cases h:i<l.length
 ·rw [List.take_add_one,List.getElem?_eq_getElem h,Option.toList_some,val_snoc,List.length_take,Nat.min_eq_left (by omega),List.getD_eq_getElem?_getD,List.getElem?_eq_getElem h];rfl
 ·rw [List.take_of_length_le (by omega),List.take_of_length_le (by omega),List.getD_eq_getElem?_getD,List.getElem?_eq_none (by omega)]
  simp
theorem val_drop (B:Nat) (l:List Nat) (i:Nat):val B (l.drop i)=l.getD i 0+B*val B (l.drop (i+1)):=by
 by_cases h:i<l.length
 ·rw [List.drop_eq_getElem_cons h,val,List.getD_eq_getElem?_getD,List.getElem?_eq_getElem h];rfl
 ·rw [List.drop_eq_nil_of_le (by omega),List.drop_eq_nil_of_le (by omega),List.getD_eq_getElem?_getD,List.getElem?_eq_none (by omega)]
  simp [val]
theorem val_div {B:Nat} {l:List Nat} (h:Dig B l) {i:Nat} (hi:i≤l.length):val B l / B ^ i=val B (l.drop i):=by
 have h1:=val_take_drop B l i hi
 have h2:=val_lt (h.take i)
 rw [List.length_take,Nat.min_eq_left hi] at h2
 rw [h1,Nat.add_mul_div_left _ _ (by omega),Nat.div_eq_of_lt h2,Nat.zero_add]
theorem val_digit {B:Nat} {l:List Nat} (h:Dig B l) (hB:0<B) (i:Nat):val B l / B ^ i % B=l.getD i 0:=by
 by_cases hi:i≤l.length
 ·rw [val_div h hi,val_drop,Nat.add_mul_mod_self_left,Nat.mod_eq_of_lt (h.getD hB i)]
 ·have:=val_lt h
  rw [List.getD_eq_getElem?_getD,List.getElem?_eq_none (by omega),Nat.div_eq_of_lt (Nat.lt_of_lt_of_le this (Nat.pow_le_pow_right hB (by omega)))]
  simp
theorem val_of_digits {B X:Nat} (hB:0<B):∀ {l:List Nat},(∀ i,i<l.length→l.getD i 0=X / B ^ i % B)→val B l=X % B ^ l.length:=by
 intro l
 have key:∀ i,i≤l.length→(∀ i,i<l.length→l.getD i 0=X / B ^ i % B)→val B (l.take i)=X % B ^ i:=by
  intro i
  induction i with
  | zero=>intro _ _;simp [val,Nat.mod_one]
  | succ i ih =>
   intro hi h
   rw [val_take_succ,ih (by omega) h,h i (by omega),Nat.pow_succ,Nat.mod_mul]
 intro h
 have:=key l.length (Nat.le_refl _) h
 rwa [List.take_length] at this
def Canon (l:List Nat):Prop:=l.getLast?≠some 0
instance (l:List Nat):Decidable (Canon l):=by unfold Canon;exact inferInstance
def dg (B n:Nat):List Nat:=if h:n=0∨B<2 then [] else n % B::dg B (n / B)
termination_by n
decreasing_by exact Nat.div_lt_self (by omega) (by omega)
theorem dg_zero (B:Nat):dg B 0=[]:=by rw [dg,dif_pos (.inl rfl)]
theorem dg_succ {B n:Nat} (hB:2≤B) (hn:n≠0):dg B n=n % B::dg B (n / B):=by rw [dg,dif_neg (by omega)]
theorem val_dg {B:Nat} (hB:2≤B) (n:Nat):val B (dg B n)=n:=by
 induction n using Nat.strongRecOn with
 | ind n ih =>
  by_cases hn:n=0
  ·subst hn;rw [dg_zero];rfl
  ·rw [dg_succ hB hn,val,ih _ (Nat.div_lt_self (by omega) (by omega)),Nat.mod_add_div]
theorem dg_dig {B:Nat} (hB:2≤B) (n:Nat):Dig B (dg B n):=by
 induction n using Nat.strongRecOn with
 | ind n ih =>
  by_cases hn:n=0
  ·subst hn;rw [dg_zero];exact Dig.nil
  ·rw [dg_succ hB hn]
   intro d hd
   rcases List.mem_cons.1 hd with rfl|hd
   ·exact Nat.mod_lt _ (by omega)
   ·exact ih _ (Nat.div_lt_self (by omega) (by omega)) d hd
theorem dg_eq_nil {B:Nat} (hB:2≤B) {n:Nat}:dg B n=[]↔n=0:=by
 constructor
 ·intro h
  have:=val_dg hB n
  rw [h] at this
  exact this.symm
 ·rintro rfl;exact dg_zero B
theorem dg_canon {B:Nat} (hB:2≤B) (n:Nat):Canon (dg B n):=by
 induction n using Nat.strongRecOn with
 | ind n ih =>
  by_cases hn:n=0
  ·subst hn;rw [dg_zero];unfold Canon;simp
  ·have ih':=ih _ (Nat.div_lt_self (by omega) (by omega):n / B<n)
   rw [dg_succ hB hn]
   unfold Canon at *
   by_cases h:dg B (n / B)=[]
   ·rw [h]
    rw [dg_eq_nil hB] at h
    simp only [List.getLast?_singleton,ne_eq,Option.some.injEq]
    intro hz
    have:=Nat.mod_add_div n B
    rw [h,hz] at this
    simp at this
    omega
   ·rwa [List.getLast?_cons,List.getLast?_eq_some_getLast h,Option.getD_some,← List.getLast?_eq_some_getLast h]
theorem canon_tail {d:Nat} {l:List Nat} (h:Canon (d::l)):Canon l:=by
 unfold Canon at *
 cases l with
 | nil=>simp
 | cons x l=>rwa [List.getLast?_cons_cons] at h
theorem canon_pos {B:Nat} (hB:0<B):∀ {l:List Nat},Canon l→l≠[]→0<val B l
 | [],_,h=>absurd rfl h
 | [d],h,_=>by
  unfold Canon at h
  simp at h
  rw [val];omega
 | d::x::l,h,_=>by
  have:=canon_pos hB (canon_tail h) (by simp)
  rw [val]
  have:=Nat.mul_pos hB this
  omega
theorem dg_val {B:Nat} (hB:2≤B):∀ {l:List Nat},Dig B l→Canon l→dg B (val B l)=l
 | [],_,_=>dg_zero B
 | d::l,h,c=>by
  have hp:=canon_pos (by omega:0<B) c (by simp)
  have h1:=h.head
  have ih:=dg_val hB h.tail (canon_tail c)
  rw [dg_succ hB (by omega)]
  have e1:val B (d::l) % B=d:=by rw [val,Nat.add_mul_mod_self_left,Nat.mod_eq_of_lt h1]
  have e2:val B (d::l) / B=val B l:=by rw [val,Nat.add_mul_div_left _ _ (by omega),Nat.div_eq_of_lt h1,Nat.zero_add]
  rw [e1,e2,ih]
theorem dg_length_le {B:Nat} (hB:2≤B) (k:Nat):∀ {n:Nat},(dg B n).length≤k↔n<B ^ k:=by
 induction k with
 | zero =>
  intro n
  rw [Nat.pow_zero,Nat.le_zero,List.length_eq_zero_iff,dg_eq_nil hB]
  omega
 | succ k ih =>
  intro n
  by_cases hn:n=0
  ·subst hn
   rw [dg_zero]
   simp
   exact Nat.pow_pos (by omega)
  ·rw [dg_succ hB hn,List.length_cons,Nat.add_le_add_iff_right,ih,Nat.pow_succ,Nat.div_lt_iff_lt_mul (by omega)]
theorem canon_le {B:Nat} (hB:2≤B) {l:List Nat} (h:Dig B l) (c:Canon l) (hl:l≠[]):B ^ (l.length - 1)≤val B l:=by
 have h1:=dg_val hB h c
 rcases Nat.lt_or_ge (val B l) (B ^ (l.length - 1)) with hlt|hge
 ·have:=(dg_length_le hB (l.length - 1)).2 hlt
  rw [h1] at this
  have:=List.length_pos_iff.2 hl
  omega
 ·exact hge
def trimL (B:Nat) (l:List Nat):List Nat:=dg B (val B l)
theorem trimL_zero {B:Nat} (l:List Nat):trimL B (l++[0])=trimL B l:=by unfold trimL;rw [val_snoc];simp
theorem trimL_nil (B:Nat):trimL B []=[]:=dg_zero B
theorem canon_snoc {l:List Nat} {d:Nat} (h:d≠0):Canon (l++[d]):=by unfold Canon;simpa using h
theorem trimL_canon {B:Nat} (hB:2≤B) {l:List Nat} (h:Dig B l) (c:Canon l):trimL B l=l:=dg_val hB h c
theorem trimL_prefix {B:Nat} (hB:2≤B):∀ (n:Nat) {l:List Nat},l.length=n→Dig B l→∃ k,k≤l.length∧trimL B l=l.take k
 | 0,l,hn,h=>by
  obtain rfl:=List.eq_nil_of_length_eq_zero hn
  exact⟨0,by simp,dg_zero B⟩
 | n+1,l,hn,h=>by
  have hl:l≠[]:=fun e=>by rw [e] at hn;cases hn
  by_cases c:Canon l
  ·exact⟨l.length,Nat.le_refl _,by rw [List.take_length];exact trimL_canon hB h c⟩
  ·have hz:l.getLast?=some 0:=by unfold Canon at c;exact Classical.not_not.1 c
   have hs:l.take n++[0]=l:=by
    have h2:=List.dropLast_concat_getLast hl
    rw [List.getLast?_eq_some_getLast hl] at hz
    rw [Option.some.inj hz] at h2
    rw [← h2]
    congr 1
    rw [List.dropLast_eq_take,hn]
    simp
    rw [List.take_append_of_le_length (by simp;omega),List.take_take]
    simp
   obtain⟨k,hk,hp⟩:=trimL_prefix hB n (l:=l.take n) (by rw [List.length_take];omega) (h.take n)
   rw [List.length_take] at hk
   refine⟨k,by omega,?_⟩
   rw [← hs,trimL_zero,hp,List.take_append_of_le_length (by rw [List.length_take];omega)]
end Go.Proofs.Bn
end
section
namespace Go.Proofs.Bn
theorem val_lt_len {B:Nat} (hB:2≤B) {a b:List Nat} (ha:Dig B a) (hb:Dig B b) (cb:Canon b) (h:a.length<b.length):val B a<val B b:=by
 have h1:=val_lt ha
 have h2:=canon_le hB hb cb (fun e=>by rw [e] at h;cases h)
 exact Nat.lt_of_lt_of_le h1 (Nat.le_trans (Nat.pow_le_pow_right (by omega) (by omega)) h2)
theorem val_lt_top {B:Nat} (hB:0<B) {a b:List Nat} (ha:Dig B a) (hb:Dig B b) {i:Nat} (hi:i<a.length) (hl:a.length=b.length) (hd:a.drop (i+1)=b.drop (i+1)) (h:a.getD i 0<b.getD i 0):val B a<val B b:=by
 rw [val_take_drop B a i (by omega),val_take_drop B b i (by omega),val_drop B a i,val_drop B b i,hd]
 have h1:=val_lt (ha.take i)
 rw [List.length_take,Nat.min_eq_left (by omega)] at h1
 have h2:B ^ i*(a.getD i 0+B*val B (b.drop (i+1)))+B ^ i≤B ^ i*(b.getD i 0+B*val B (b.drop (i+1))):=by
  rw [← Nat.mul_succ]
  exact Nat.mul_le_mul_left _ (by omega)
 omega
theorem drop_eq_succ {a b:List Nat} {i:Nat} (hi:i<a.length) (hl:a.length=b.length) (hd:a.drop (i+1)=b.drop (i+1)) (h:a.getD i 0=b.getD i 0):a.drop i=b.drop i:=by
 rw [List.drop_eq_getElem_cons hi,List.drop_eq_getElem_cons (by omega:i<b.length),hd]
 congr 1
 rw [List.getD_eq_getElem?_getD,List.getD_eq_getElem?_getD,List.getElem?_eq_getElem hi,List.getElem?_eq_getElem (by omega)] at h
 exact h
theorem sum_step {B va vb vo c x y s P:Nat} (hB:0<B) (h:vo+P*c=va+vb) (hs:s=c+x+y):vo+P*(s % B)+P*B*(s / B)=va+P*x+(vb+P*y):=by
 have h1:=Nat.mod_add_div s B
 have h2:P*(s % B)+P*B*(s / B)=P*s:=by rw [Nat.mul_assoc,← Nat.mul_add,h1]
 have h3:P*s=P*c+P*x+P*y:=by rw [hs,Nat.mul_add,Nat.mul_add]
 omega
theorem diff_step {B va vb vo c x y d c' P:Nat} (h:vo+vb=va+P*c) (hd:d+y+c=x+B*c'):vo+P*d+(vb+P*y)=va+P*x+P*B*c':=by
 have h1:P*d+P*y+P*c=P*x+P*B*c':=by rw [← Nat.mul_add,← Nat.mul_add,hd,Nat.mul_add,Nat.mul_assoc]
 omega
theorem val_set {B:Nat}:∀ {l:List Nat} {i:Nat} (d:Nat),i<l.length→val B (l.set i d)+B ^ i*l.getD i 0=val B l+B ^ i*d
 | x::l,0,d,_=>by simp [val];omega
 | x::l,i+1,d,h=>by
  have ih:=val_set (B:=B) (l:=l) (i:=i) d (by simpa using h)
  rw [List.set_cons_succ,val,val,List.getD_cons_succ,Nat.pow_succ]
  have e1:B ^ i*B*l.getD i 0=B*(B ^ i*l.getD i 0):=by rw [Nat.mul_comm (B ^ i) B,Nat.mul_assoc]
  have e2:B ^ i*B*d=B*(B ^ i*d):=by rw [Nat.mul_comm (B ^ i) B,Nat.mul_assoc]
  rw [e1,e2,Nat.add_assoc,Nat.add_assoc,← Nat.mul_add,← Nat.mul_add,ih]
 | [],_,d,h=>by simp at h
theorem canon_of_ge {B:Nat} {l:List Nat} (hD:Dig B l) (h:B ^ (l.length - 1)≤val B l):Canon l:=by
 unfold Canon
 intro hz
 have hl:l≠[]:=fun e=>by rw [e] at hz;cases hz
 have h2:=List.dropLast_concat_getLast hl
 rw [List.getLast?_eq_some_getLast hl] at hz
 rw [Option.some.inj hz] at h2
 have h3:=val_lt (hD.take (l.length - 1))
 rw [← List.dropLast_eq_take,List.length_dropLast] at h3
 have h4:val B l=val B l.dropLast:=by conv=>lhs;rw [← h2,val_snoc];simp
 omega
end Go.Proofs.Bn
end
section
namespace Go.Proofs.Hp
open Go Go.RowKit
theorem wpList_make1 {P:Program} {ops:Array Oper} {rest:List Oper} {o:Oper} {a:Act} {W:World} {Q:Exit→Act→World→Prop} (hgd:o.guard=none) {l c:Operand} {t e:TypeId} (ho:o.op=.makeSlice t l c) {n:Nat}
  (hl:a.eval l=.int .i64 n) (hc:a.eval c=.int .i64 n) {z:Value} {bytes:Nat} (ht:P.underlying t=some (.slice e)) (hinfo:(P.info? e).map (fun i=>(i.zero,i.size,i.bytes))=some (some z,1,bytes)) (hz:z.cells=#[z])
  (hb:bytes*n≤281474976710656) (h63:n≤maxLen)
  (h:∀ w',w'.ownsRow W.heap.size e 1 (.slice (some ⟨W.heap.size,0,none⟩) n n) n (List.replicate n z)→Fr [] W w'→W.heap.size<w'.heap.size→wpList P ops Q rest (a.put o.dst (.slice (some ⟨W.heap.size,0,none⟩) n n)) w'):wpList P ops Q (o::rest) a W:=by
 obtain⟨i,hi,hz0,hz1,hz2⟩:=info_parts hinfo
 obtain⟨w',hr,ho',hg⟩:=run_make_full W W.heap.size t e i z 1 ht hi hz0 hz1 .i64 .i64 n (by rw [hz2];exact hb) h63 (Nat.le_refl _) (P:=P)
 have hcells:(madeCells z.cells (n*1)).toList=List.replicate n z:=by
  rw [hz,Nat.mul_one]
  unfold madeCells
  apply List.ext_getElem
  ·simp
  ·intro j h1 h2
   simp [Nat.mod_one]
 rw [hcells] at ho'
 refine Mp.wpList_run hgd (w':=w') (v:=.slice (some ⟨W.heap.size,0,none⟩) n n) ?_ (h w' ho' ((Fr.refl _ _).grown hg (by simp)) (oLT ho' rfl))
 unfold execOp
 simp only [ho,hl,hc,Sem.run_bind,hr,Result.andThen_ok]
 rfl
end Go.Proofs.Hp
end
