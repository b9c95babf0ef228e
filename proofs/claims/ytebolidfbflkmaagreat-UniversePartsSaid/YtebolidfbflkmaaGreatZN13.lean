/- Own texts of this claim, part 14: no condition. -/
import Derived.Test.YtebolidfbflkmaaGreatZN12
set_option maxHeartbeats 16000000
section
namespace Go.Proofs.YtebolidfbflkmaaGreat
open Go Go.RowKit Rg Mp Hp Qs Ev
set_option linter.unusedVariables false
set_option linter.unusedSimpArgs false
theorem level_nat {s:Int} {ns:List K4} (hg:GoodQ s ns) {id:Int} (h:0≤lvl s (levs s ns) id):∃ n:Nat,lvl s (levs s ns) id=n∧n≤256∧Is s ns n id (tr s ns id):=by
 refine⟨(lvl s (levs s ns) id).toNat,o_,?_,Is.of_lvl hg o_⟩;have hk:=(kn_lvl hg id).1 h;rcases hk.cases with ⟨h0,h1⟩|⟨i,k,rfl,hi⟩
 ·have:lvl s (levs s ns) id=0:=by unfold lvl;rw [if_neg o_,if_pos h1]
  omega
 ·have:=good_lvl hg hi;omega
theorem Centre_q {W w:World} {b:Nat} {s:Int} {ns:List K4} {Ps:List Res} (h:Has W w (sTR b s ns::Ps)) (id:Int) :
  Calls Tryz.prog 101 #[.pointer (some ⟨b,0,none⟩),.int .i64 id] w fun e w' =>
   e=.returned (.tuple #[.int .i64 (centreQ s ns id).1.1,.int .i64 (centreQ s ns id).1.2])∧Has W w' (sTR b s (centreQ s ns id).2::Ps):=by
 have hg:=has_good h;have HN:=q_ (fun w1 Qs (h1:Has W w1 (sTR b s ns::Qs))=>known_q h1 id);have HL:=q_ (fun w1 Qs (h1:Has W w1 (sTR b s ns::Qs))=>Level_has h1 id);have H:=q_ h;unfold kQ_ at HN;unfold centreQ;by_cases h0:lvl s (levs s ns) id<0;·
  simp only [if_pos h0] at HN ⊢;clear HL h hg;go_enter Tryz.func101,Tryz.ntmps101;go_wp2_with fail;refine (HN.out _ _ H.out).mono ?_;rintro e w1 ⟨rfl,h,hf⟩;have H:=q_ h;clear h hf;go_wp2;go_ret2;exact⟨rfl,H.out⟩
 simp only [if_neg h0] at HN ⊢;obtain⟨m,hm,hm256,hi⟩:=level_nat hg (id:=id) o_;rw [hm] at HL h0 ⊢;by_cases h2:(m:Int)<2;·
  rw [if_pos h2];have hd:decide ((m:Int)<2)=true:=by simpa using h2
  clear h hg hi hm h2;go_enter Tryz.func101,Tryz.ntmps101;go_wp2_with fail;refine (HN.out _ _ H.out).mono ?_;rintro e w1 ⟨rfl,h,hf⟩;have H:=q_ h;clear h hf;go_wp2_with fail;refine (HL.out _ _ H.out).mono ?_;rintro e w2 ⟨rfl,h,hf⟩;have H:=q_ h;clear h hf;go_wp2;go_ret2;exact⟨rfl,H.out⟩
 rw [if_neg h2];have hd:decide ((m:Int)<2)=false:=by simpa using h2
 obtain⟨n,rfl⟩:∃ n,m=n+2:=⟨m - 2,o_⟩;obtain⟨_,_,hk⟩:=hi.node hg;have HK:=q_ (fun w1 Qs (h1:Has W w1 (sTR b s ns::Qs))=>Kids_has h1 hi);have HK1:=q_ (fun w1 Qs q (hq:q<4) (h1:Has W w1 (sTR b s ns::Qs))=>Kids_has h1 (hk q hq));clear h hg hi hm h2 hk h0;go_enter Tryz.func101,Tryz.ntmps101;go_wp2_with fail;refine (HN.out _ _ H.out).mono ?_;rintro e w1 ⟨rfl,h,hf⟩;have H:=q_ h;clear h hf;go_wp2_with fail;refine (HL.out _ _ H.out).mono ?_;rintro e w2 ⟨rfl,h,hf⟩;have H:=q_ h;clear h hf;go_wp2_with fail;have h:=(hAL H.out #[.int .i64 0,.int .i64 0,.int .i64 0,.int .i64 0] 132).swap;refine (HK.out _ _ h).mono ?_;rintro e w3 ⟨rfl,h,hf⟩;obtain⟨ib,hib⟩:∃ ib,w2.heap.size=ib:=⟨_,rfl⟩;rw [hib] at h ⊢;have H3:=q_ h;clear h hf hib H;go_wp2;go_loopw [31] (fun x wr=>∃ z:Int,x=.int .i64 z∧At5 (fun k=>Has W wr (sTR b s ns::Hp.blk ib (.cells (iv (filled 4 (fun q=>(nodeOf s ns ((nodeOf s ns id).get q)).get (3 - q)) k)).toArray 132 (0,0))::Ps)) z) (fun x _=>4 - (intOf x).toNat);case atStart =>refine⟨0,rfl,.inl ⟨rfl,?_⟩⟩;have h0:=H3.out.step (Fr.t:Fr [] w3 (w3.alloc (.cells #[.int .i64 (nodeOf s ns id).a,.int .i64 (nodeOf s ns id).b,.int .i64 (nodeOf s ns id).c,.int .i64 (nodeOf s ns id).d] 132)));exact h0
 case round =>
  obtain⟨z,rfl,hz⟩:=hrel;clear H3;rcases hz with ⟨rfl,h⟩|⟨rfl,h⟩|⟨rfl,h⟩|⟨rfl,h⟩|⟨rfl,h⟩
  ·have H:=q_ h;clear h;go_wp2_with fail;refine (HK1.out _ _ 0 o_ H.out).mono ?_;rintro e w5 ⟨rfl,h,hf⟩;have c0:=filled_cell h.swap (i:=0) o_;simp only [Nat.lt_irrefl,if_false] at c0;have cz:=(hCE h.swap).2.1 0;have cl:=(hCE h.swap).2.2;have H5:=q_ h;clear h hf;go_wp2;go_roundw;case rel=>exact⟨1,rfl,(.inr (.inl ⟨rfl,(filled_set_has H5.out.swap o_ rfl).swap.step ((Fr.refl [] _).alloc _)⟩))⟩
   case measure=>simp [intOf]
  ·have H:=q_ h;clear h;go_wp2_with fail;refine (HK1.out _ _ 1 o_ H.out).mono ?_;rintro e w5 ⟨rfl,h,hf⟩;have c0:=filled_cell h.swap (i:=1) o_;simp only [Nat.lt_irrefl,if_false] at c0;have cz:=(hCE h.swap).2.1 1;have cl:=(hCE h.swap).2.2;have H5:=q_ h;clear h hf;go_wp2;go_roundw;case rel=>exact⟨2,rfl,(.inr (.inr (.inl ⟨rfl,(filled_set_has H5.out.swap o_ rfl).swap.step ((Fr.refl [] _).alloc _)⟩)))⟩
   case measure=>simp [intOf]
  ·have H:=q_ h;clear h;go_wp2_with fail;refine (HK1.out _ _ 2 o_ H.out).mono ?_;rintro e w5 ⟨rfl,h,hf⟩;have c0:=filled_cell h.swap (i:=2) o_;simp only [Nat.lt_irrefl,if_false] at c0;have cz:=(hCE h.swap).2.1 2;have cl:=(hCE h.swap).2.2;have H5:=q_ h;clear h hf;go_wp2;go_roundw;case rel=>exact⟨3,rfl,(.inr (.inr (.inr (.inl ⟨rfl,(filled_set_has H5.out.swap o_ rfl).swap.step ((Fr.refl [] _).alloc _)⟩))))⟩
   case measure=>simp [intOf]
  ·have H:=q_ h;clear h;go_wp2_with fail;refine (HK1.out _ _ 3 o_ H.out).mono ?_;rintro e w5 ⟨rfl,h,hf⟩;have c0:=filled_cell h.swap (i:=3) o_;simp only [Nat.lt_irrefl,if_false] at c0;have cz:=(hCE h.swap).2.1 3;have cl:=(hCE h.swap).2.2;have H5:=q_ h;clear h hf;go_wp2;go_roundw;case rel=>exact⟨4,rfl,(.inr (.inr (.inr (.inr ⟨rfl,(filled_set_has H5.out.swap o_ rfl).swap.step ((Fr.refl [] _).alloc _)⟩))))⟩
   case measure=>simp [intOf]
  ·have H:=q_ h;have c0:=filled_cell h.swap (i:=0) o_;have c1:=filled_cell h.swap (i:=1) o_;have c2:=filled_cell h.swap (i:=2) o_;have c3:=filled_cell h.swap (i:=3) o_;simp only [show (0:Nat)<4 by omega,show (1:Nat)<4 by omega,show (2:Nat)<4 by omega,show (3:Nat)<4 by omega,if_true] at c0 c1 c2 c3;clear h;go_wp2_with fail;refine (Join_has H.out _ _ _ _).mono ?_;rintro e w9 ⟨rfl,h1⟩;have HF:=q_ h1;clear h1;go_wp2;go_ret2;exact⟨rfl,HF.out.swap.drop⟩
def mixL (k:K4) (ids:List Int):List Int:=ids++[k.a,k.b,k.c,k.d].drop ids.length
theorem len2 {α:Type} {l:List α} (h:l.length=2):∃ a b,l=[a,b]:=by
 rcases l with _|⟨a,_|⟨b,_|⟨c,l⟩⟩⟩<;>simp at h
 exact⟨_,_,rfl⟩
theorem len3 {α:Type} {l:List α} (h:l.length=3):∃ a b c,l=[a,b,c]:=by
 rcases l with _|⟨a,_|⟨b,_|⟨c,_|⟨d,l⟩⟩⟩⟩<;>simp at h
 exact⟨_,_,_,rfl⟩
theorem len4 {α:Type} {l:List α} (h:l.length=4):∃ a b c d,l=[a,b,c,d]:=by
 rcases l with _|⟨a,_|⟨b,_|⟨c,_|⟨d,_|⟨e,l⟩⟩⟩⟩⟩<;>simp at h
 exact⟨_,_,_,_,rfl⟩
theorem Expand_q {W w:World} {b:Nat} {s:Int} {ns:List K4} {Ps:List Res} (h:Has W w (sTR b s ns::Ps)) (id:Int) :
  Calls Tryz.prog 96 #[.pointer (some ⟨b,0,none⟩),.int .i64 id] w fun e w' =>
   e=.returned (.tuple #[.int .i64 (expandQ s ns id).1.1,.int .i64 (expandQ s ns id).1.2])∧Has W w' (sTR b s (expandQ s ns id).2::Ps):=by
 have hg:=has_good h;have HN:=q_ (fun w1 Qs (h1:Has W w1 (sTR b s ns::Qs))=>known_q h1 id);have HL:=q_ (fun w1 Qs (h1:Has W w1 (sTR b s ns::Qs))=>Level_has h1 id);have H:=q_ h;unfold kQ_ at HN;unfold expandQ;by_cases h0:lvl s (levs s ns) id<0;·
  simp only [if_pos h0] at HN ⊢;clear HL h hg;go_enter Tryz.func96,Tryz.ntmps96;go_wp2_with fail;refine (HN.out _ _ H.out).mono ?_;rintro e w1 ⟨rfl,h,hf⟩;have H:=q_ h;clear h hf;go_wp2;go_ret2;exact⟨rfl,H.out⟩
 simp only [if_neg h0] at HN ⊢;obtain⟨m,hm,hm256,hi⟩:=level_nat hg (id:=id) o_;rw [hm] at HL h0 ⊢;by_cases h1:(m:Int)<1;·
  rw [if_pos (.inl h1)];have hd:decide ((m:Int)<1)=true:=by simpa using h1
  clear h hg hi hm h1;go_enter Tryz.func96,Tryz.ntmps96;go_wp2_with fail;refine (HN.out _ _ H.out).mono ?_;rintro e w1 ⟨rfl,h,hf⟩;have H:=q_ h;clear h hf;go_wp2_with fail;refine (HL.out _ _ H.out).mono ?_;rintro e w2 ⟨rfl,h,hf⟩;have H:=q_ h;clear h hf;go_wp2;go_ret2;exact⟨rfl,H.out⟩
 have hd:decide ((m:Int)<1)=false:=by simpa using h1
 by_cases h2:256≤(m:Int);·
  rw [if_pos (.inr h2)];have hd2:decide ((m:Int) ≥ 256)=true:=by simpa using h2
  clear h hg hi hm h1 h2;go_enter Tryz.func96,Tryz.ntmps96;go_wp2_with fail;refine (HN.out _ _ H.out).mono ?_;rintro e w1 ⟨rfl,h,hf⟩;have H:=q_ h;clear h hf;go_wp2_with fail;refine (HL.out _ _ H.out).mono ?_;rintro e w2 ⟨rfl,h,hf⟩;have H:=q_ h;clear h hf;go_wp2;go_ret2;exact⟨rfl,H.out⟩
 have hd2:decide ((m:Int) ≥ 256)=false:=by simpa using h2
 rw [if_neg o_];obtain⟨⟨o,eo⟩,no,hE⟩:∃ (r:Int×Int) (no:List K4),emptyQ s ns ((m:Int) - 1)=(r,no):=⟨_,_,rfl⟩;have HE:=q_ (fun w1 Qs (h1:Has W w1 (sTR b s ns::Qs))=>Empty_has h1 ((m:Int) - 1));rw [hE] at HE ⊢;simp only at HE ⊢;by_cases heo:eo=0;case neg =>
  rw [if_pos heo];have hb:(eo != 0)=true:=by simpa using heo
  clear h hg hi hm h1 h2 hE h0;go_enter Tryz.func96,Tryz.ntmps96;go_wp2_with fail;refine (HN.out _ _ H.out).mono ?_;rintro e w1 ⟨rfl,h,hf⟩;have H:=q_ h;clear h hf;go_wp2_with fail;refine (HL.out _ _ H.out).mono ?_;rintro e w2 ⟨rfl,h,hf⟩;have H:=q_ h;clear h hf;go_wp2_with fail;refine (HE.out _ _ H.out).mono ?_;rintro e w3 ⟨rfl,h⟩;have H3:=q_ h;clear h;go_wp2;go_ret2;exact⟨rfl,H3.out⟩
 subst heo;rw [if_neg i_];have hb:((0:Int) != 0)=false:=rfl;obtain⟨n,hnm⟩:∃ n,m=n+1:=⟨m - 1,o_⟩;have hpre:ns <+: no:=by have:=emptyQ_grows (s:=s) (ns:=ns) n;rw [show ((m:Int) - 1)=((n:Nat):Int) by omega] at hE;rw [hE] at this;exact this.1
 rw [hnm] at hi;have hi':=hi.grow hpre;have hnode:nodeOf s no id=nodeOf s ns id:=by obtain⟨i,k,rfl,hk,_⟩:=hi.kids hg;obtain⟨xs,rfl⟩:=hpre;have hlt:=(List.getElem?_eq_some_iff.1 hk).1;unfold nodeOf;rw [List.getD_eq_getElem?_getD,List.getD_eq_getElem?_getD,List.getElem?_append_left o_]
 have HK:=q_ (fun w1 Qs (h1:Has W w1 (sTR b s no::Qs))=>Kids_has h1 hi');rw [hnode] at HK;clear h hg hi hm h1 h2 hE h0 hi' hnode hpre hnm;go_enter Tryz.func96,Tryz.ntmps96;go_wp2_with fail;refine (HN.out _ _ H.out).mono ?_;rintro e w1 ⟨rfl,h,hf⟩;have H:=q_ h;clear h hf;go_wp2_with fail;refine (HL.out _ _ H.out).mono ?_;rintro e w2 ⟨rfl,h,hf⟩;have H:=q_ h;clear h hf;go_wp2_with fail;refine (HE.out _ _ H.out).mono ?_;rintro e w3 ⟨rfl,h⟩;have H3:=q_ h;clear h;go_wp2_with fail;refine (HK.out _ _ H3.out).mono ?_;rintro e w4 ⟨rfl,h,hf⟩;have h:=(hAL h #[.int .i64 (nodeOf s ns id).a,.int .i64 (nodeOf s ns id).b,.int .i64 (nodeOf s ns id).c,.int .i64 (nodeOf s ns id).d] 132).swap;obtain⟨ib,hib⟩:∃ ib,w4.heap.size=ib:=⟨_,rfl⟩;rw [hib] at h;have H4:=q_ h;clear h hf H3;go_wp2;clear hib;go_loopw [45] (fun x wr=>∃ z:Int,x=.int .i64 z∧At5 (fun k=>∃ ids ms,kr (fun ms k=>join s ms (cornerK o ((nodeOf s ns id).get k) (3 - k))) k no=(0,ids,ms)∧Has W wr (sTR b s ms::Hp.blk ib (.cells (iv (mixL (nodeOf s ns id) ids)).toArray 132 (0,0))::Ps)) z) (fun x _=>4 - (intOf x).toNat);case atStart=>exact⟨0,rfl,.inl ⟨rfl,[],no,rfl,H4.out⟩⟩
 case round =>
  obtain⟨z,rfl,hz⟩:=hrel;clear H4;rcases hz with ⟨rfl,hz⟩|⟨rfl,hz⟩|⟨rfl,hz⟩|⟨rfl,hz⟩|⟨rfl,hz⟩
  ·obtain⟨ids,ms,hkr,h⟩:=hz;have hl:=kr_len hkr;obtain rfl:=List.length_eq_zero_iff.1 hl;have Hkr:=q_ hkr;have c0:_=some (Value.int .i64 ((nodeOf s ns id).get 0)):=(hCE h.swap).1 0;have cz:=(hCE h.swap).2.1 0;have cl:=(hCE h.swap).2.2;have H:=q_ h;clear h hkr hl;go_wp2_with fail;refine (Join_has (H.out.step (Fr.t)) _ _ _ _).mono ?_;obtain⟨id5,e5,ms5,hj⟩:∃ id5 e5 ms5,join s ms (cornerK o ((nodeOf s ns id).get 0) (3 - 0))=((id5,e5),ms5):=⟨_,_,_,rfl⟩;rintro e w5 ⟨rfl,h1⟩;rw [show (⟨o,o,o,(nodeOf s ns id).get 0⟩:K4)=cornerK o ((nodeOf s ns id).get 0) (3 - 0) from rfl,hj] at h1 ⊢;clear c0 cz cl;have c0:_=some (Value.int .i64 ((nodeOf s ns id).get 0)):=(hCE h1.swap).1 0;have cz:=(hCE h1.swap).2.1 0;have cl:=(hCE h1.swap).2.2;by_cases he5:e5=0;·
    subst he5;have hb5:((0:Int) != 0)=false:=rfl;have Hkr5:=q_ (kr_ok Hkr.out (show (fun ms k=>join s ms (cornerK o ((nodeOf s ns id).get k) (3 - k))) ms 0=((id5,0),ms5) from hj));have H5:=q_ h1;clear h1 hj;go_wp2;go_roundw;case rel=>exact⟨1,rfl,(.inr (.inl ⟨rfl,_,_,Hkr5.out,(hST H5.out.swap 0 _).swap⟩))⟩
    case measure=>simp [intOf]
   ·have hb5:(e5 != 0)=true:=(by simpa using he5);have HF5:=q_ (fin4_bad (s:=s) o_ Hkr.out (show (fun ms k=>join s ms (cornerK o ((nodeOf s ns id).get k) (3 - k))) ms 0=((id5,e5),ms5) from hj) he5);have H5:=q_ h1;clear h1 hj he5;go_wp2;go_ret2;rw [HF5.out];exact⟨rfl,(hST H5.out.swap 0 _).drop⟩
  ·obtain⟨ids,ms,hkr,h⟩:=hz;have hl:=kr_len hkr;obtain⟨i0,rfl⟩:=List.length_eq_one_iff.1 hl;have Hkr:=q_ hkr;have c0:_=some (Value.int .i64 ((nodeOf s ns id).get 1)):=(hCE h.swap).1 1;have cz:=(hCE h.swap).2.1 1;have cl:=(hCE h.swap).2.2;have H:=q_ h;clear h hkr hl;go_wp2_with fail;refine (Join_has (H.out.step (Fr.t)) _ _ _ _).mono ?_;obtain⟨id5,e5,ms5,hj⟩:∃ id5 e5 ms5,join s ms (cornerK o ((nodeOf s ns id).get 1) (3 - 1))=((id5,e5),ms5):=⟨_,_,_,rfl⟩;rintro e w5 ⟨rfl,h1⟩;rw [show (⟨o,o,(nodeOf s ns id).get 1,o⟩:K4)=cornerK o ((nodeOf s ns id).get 1) (3 - 1) from rfl,hj] at h1 ⊢;clear c0 cz cl;have c0:_=some (Value.int .i64 ((nodeOf s ns id).get 1)):=(hCE h1.swap).1 1;have cz:=(hCE h1.swap).2.1 1;have cl:=(hCE h1.swap).2.2;by_cases he5:e5=0;·
    subst he5;have hb5:((0:Int) != 0)=false:=rfl;have Hkr5:=q_ (kr_ok Hkr.out (show (fun ms k=>join s ms (cornerK o ((nodeOf s ns id).get k) (3 - k))) ms 1=((id5,0),ms5) from hj));have H5:=q_ h1;clear h1 hj;go_wp2;go_roundw;case rel=>exact⟨2,rfl,(.inr (.inr (.inl ⟨rfl,_,_,Hkr5.out,(hST H5.out.swap 1 _).swap⟩)))⟩
    case measure=>simp [intOf]
   ·have hb5:(e5 != 0)=true:=(by simpa using he5);have HF5:=q_ (fin4_bad (s:=s) o_ Hkr.out (show (fun ms k=>join s ms (cornerK o ((nodeOf s ns id).get k) (3 - k))) ms 1=((id5,e5),ms5) from hj) he5);have H5:=q_ h1;clear h1 hj he5;go_wp2;go_ret2;rw [HF5.out];exact⟨rfl,(hST H5.out.swap 1 _).drop⟩
  ·obtain⟨ids,ms,hkr,h⟩:=hz;have hl:=kr_len hkr;obtain⟨i0,i1,rfl⟩:=len2 hl;have Hkr:=q_ hkr;have c0:_=some (Value.int .i64 ((nodeOf s ns id).get 2)):=(hCE h.swap).1 2;have cz:=(hCE h.swap).2.1 2;have cl:=(hCE h.swap).2.2;have H:=q_ h;clear h hkr hl;go_wp2_with fail;refine (Join_has (H.out.step (Fr.t)) _ _ _ _).mono ?_;obtain⟨id5,e5,ms5,hj⟩:∃ id5 e5 ms5,join s ms (cornerK o ((nodeOf s ns id).get 2) (3 - 2))=((id5,e5),ms5):=⟨_,_,_,rfl⟩;rintro e w5 ⟨rfl,h1⟩;rw [show (⟨o,(nodeOf s ns id).get 2,o,o⟩:K4)=cornerK o ((nodeOf s ns id).get 2) (3 - 2) from rfl,hj] at h1 ⊢;clear c0 cz cl;have c0:_=some (Value.int .i64 ((nodeOf s ns id).get 2)):=(hCE h1.swap).1 2;have cz:=(hCE h1.swap).2.1 2;have cl:=(hCE h1.swap).2.2;by_cases he5:e5=0;·
    subst he5;have hb5:((0:Int) != 0)=false:=rfl;have Hkr5:=q_ (kr_ok Hkr.out (show (fun ms k=>join s ms (cornerK o ((nodeOf s ns id).get k) (3 - k))) ms 2=((id5,0),ms5) from hj));have H5:=q_ h1;clear h1 hj;go_wp2;go_roundw;case rel=>exact⟨3,rfl,(.inr (.inr (.inr (.inl ⟨rfl,_,_,Hkr5.out,(hST H5.out.swap 2 _).swap⟩))))⟩
    case measure=>simp [intOf]
   ·have hb5:(e5 != 0)=true:=(by simpa using he5);have HF5:=q_ (fin4_bad (s:=s) o_ Hkr.out (show (fun ms k=>join s ms (cornerK o ((nodeOf s ns id).get k) (3 - k))) ms 2=((id5,e5),ms5) from hj) he5);have H5:=q_ h1;clear h1 hj he5;go_wp2;go_ret2;rw [HF5.out];exact⟨rfl,(hST H5.out.swap 2 _).drop⟩
  ·obtain⟨ids,ms,hkr,h⟩:=hz;have hl:=kr_len hkr;obtain⟨i0,i1,i2,rfl⟩:=len3 hl;have Hkr:=q_ hkr;have c0:_=some (Value.int .i64 ((nodeOf s ns id).get 3)):=(hCE h.swap).1 3;have cz:=(hCE h.swap).2.1 3;have cl:=(hCE h.swap).2.2;have H:=q_ h;clear h hkr hl;go_wp2_with fail;refine (Join_has (H.out.step (Fr.t)) _ _ _ _).mono ?_;obtain⟨id5,e5,ms5,hj⟩:∃ id5 e5 ms5,join s ms (cornerK o ((nodeOf s ns id).get 3) (3 - 3))=((id5,e5),ms5):=⟨_,_,_,rfl⟩;rintro e w5 ⟨rfl,h1⟩;rw [show (⟨(nodeOf s ns id).get 3,o,o,o⟩:K4)=cornerK o ((nodeOf s ns id).get 3) (3 - 3) from rfl,hj] at h1 ⊢;clear c0 cz cl;have c0:_=some (Value.int .i64 ((nodeOf s ns id).get 3)):=(hCE h1.swap).1 3;have cz:=(hCE h1.swap).2.1 3;have cl:=(hCE h1.swap).2.2;by_cases he5:e5=0;·
    subst he5;have hb5:((0:Int) != 0)=false:=rfl;have Hkr5:=q_ (kr_ok Hkr.out (show (fun ms k=>join s ms (cornerK o ((nodeOf s ns id).get k) (3 - k))) ms 3=((id5,0),ms5) from hj));have H5:=q_ h1;clear h1 hj;go_wp2;go_roundw;case rel=>exact⟨4,rfl,(.inr (.inr (.inr (.inr ⟨rfl,_,_,Hkr5.out,(hST H5.out.swap 3 _).swap⟩))))⟩
    case measure=>simp [intOf]
   ·have hb5:(e5 != 0)=true:=(by simpa using he5);have HF5:=q_ (fin4_bad (s:=s) o_ Hkr.out (show (fun ms k=>join s ms (cornerK o ((nodeOf s ns id).get k) (3 - k))) ms 3=((id5,e5),ms5) from hj) he5);have H5:=q_ h1;clear h1 hj he5;go_wp2;go_ret2;rw [HF5.out];exact⟨rfl,(hST H5.out.swap 3 _).drop⟩
  ·obtain⟨ids,ms,hkr,h⟩:=hz;obtain⟨i0,i1,i2,i3,rfl⟩:=len4 (kr_len hkr);have c0:_=some (Value.int .i64 i0):=(hCE h.swap).1 0;have c1:_=some (Value.int .i64 i1):=(hCE h.swap).1 1;have c2:_=some (Value.int .i64 i2):=(hCE h.swap).1 2;have c3:_=some (Value.int .i64 i3):=(hCE h.swap).1 3;have cl:=(hCE h.swap).2.2;have HF:=q_ (fin4_ok (s:=s) hkr);have H:=q_ h;clear h hkr;go_wp2_with fail;refine (Join_has H.out _ _ _ _).mono ?_;rintro e w5 ⟨rfl,h1⟩;have H5:=q_ h1;clear h1;go_wp2;go_ret2;rw [HF.out];exact⟨rfl,H5.out.swap.drop⟩
end Go.Proofs.YtebolidfbflkmaaGreat
end
