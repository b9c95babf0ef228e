/- Own texts of this claim, part 31: no condition. -/
import Derived.Test.YtdanghnadbkhfaaGreatZG27
import Derived.Test.YtdanghnadbkhfaaGreatZG26
import Derived.Test.YtdanghnadbkhfaaGreatZG5
import Derived.Test.YtdanghnadbkhfaaGreatZG17
import Derived.Test.YtdanghnadbkhfaaGreatZG29
import Derived.Test.YtdanghnadbkhfaaGreatZG20
set_option linter.unusedVariables false
set_option linter.unusedSimpArgs false
section
namespace Go.Proofs.YtdanghnadbkhfaaGreat
open Go Go.RowKit Rg Mp Hp Qs
set_option maxHeartbeats 2000000 in
theorem RLevel_calls {w:World} {b:Nat} {s:Int} {ns:List K4} {F:List Nat} (hS:RefAt w b s ns F) (id:Int) :
  Calls Tryz.prog 43 #[.pointer (some ⟨b,0,none⟩),.int .i64 id] w fun e w'=>e=.returned (.int .i64 (lvl s (levs s ns) id))∧Fr [] w w':=by
 obtain⟨hgood,nv,hI,rfl⟩:=hS
 obtain⟨na,nc,rfl,_,_⟩:=oFM hI.nodes
 have b0:=hEC hI.blk 0
 have b1:=hEC hI.blk 1
 have HI:=Lib.hid hI
 have Hgood:=Lib.hid hgood
 clear hI hgood
 go_enter Tryz.func43,Tryz.ntmps43
 go_wp2_with fail
 refine (level_ref Hgood.out (Reads.of_owns HI.out.nodes) id).mono ?_
 rintro e w' ⟨rfl,o,rfl⟩
 go_wp2
 go_ret
 exact⟨rfl,by (repeat first|exact Fr.refl _ _|assumption|apply Fr.n|apply Fr.d|apply Fr.a|refine Fr.s ?_ (.inr (by simp;try omega)) _)⟩
set_option maxHeartbeats 2000000 in
theorem RKids_calls {w:World} {b:Nat} {s:Int} {ns:List K4} {F:List Nat} (hS:RefAt w b s ns F) (id:Int) :
  Calls Tryz.prog 44 #[.pointer (some ⟨b,0,none⟩),.int .i64 id] w fun e w'=>e=.returned (.tuple #[kv (kidsOf s ns id).1,.bool (kidsOf s ns id).2])∧Fr [] w w':=by
 obtain⟨hgood,nv,hI,rfl⟩:=hS
 obtain⟨na,nc,rfl,hna,_⟩:=oFM hI.nodes
 have b0:=hEC hI.blk 0
 have b1:=hEC hI.blk 1
 have hb:=lBk hI.blk
 have hs1:2≤s:=hgood.1
 have hs2:s≤8:=hgood.2.1
 have hn:ns.length≤1048576:=by have:=hgood.2.2.1;omega
 have HI:=Lib.hid hI
 have Hna:=Lib.hid hna
 clear hI hgood hna
 unfold kidsOf
 by_cases hst:id<s
 ·rw [if_pos hst]
  unfold kv
  go_enter Tryz.func44,Tryz.ntmps44
  go_wp2
  (refine wRT (by kernel_rfl) (by kernel_rfl) ?_)
  go_wp2
  refine Strict.intro rfl ?_
  go_wp2
  exact bodyPost_ret (v:=.tuple #[.agg #[.int .i64 0,.int .i64 0,.int .i64 0,.int .i64 0],.bool false]) (by simp [results,Tryz.results44,go_sem]) rfl ⟨rfl,by (repeat first|exact Fr.refl _ _|assumption|apply Fr.n|apply Fr.d|apply Fr.a|refine Fr.s ?_ (.inr (by simp;try omega)) _)⟩
 ·rw [if_neg hst]
  by_cases hfar:s+ns.length≤id
  ·rw [List.getElem?_eq_none (by omega)]
   unfold kv
   go_enter Tryz.func44,Tryz.ntmps44
   go_wp2
   (refine wRT (by kernel_rfl) (by kernel_rfl) ?_)
   go_wp2
   refine Strict.intro rfl ?_
   go_wp2
   exact bodyPost_ret (v:=.tuple #[.agg #[.int .i64 0,.int .i64 0,.int .i64 0,.int .i64 0],.bool false]) (by simp [results,Tryz.results44,go_sem]) rfl ⟨rfl,by (repeat first|exact Fr.refl _ _|assumption|apply Fr.n|apply Fr.d|apply Fr.a|refine Fr.s ?_ (.inr (by simp;try omega)) _)⟩
  ·obtain⟨i,rfl⟩:∃ i:Nat,id=s+i:=⟨(id - s).toNat,by omega⟩
   have hi:i<ns.length:=by omega
   rw [show (s+(i:Int) - s).toNat=i by omega,List.getElem?_eq_getElem hi]
   obtain⟨g,rfl⟩:=Hna.out (by omega)
   obtain⟨f0,f1,f2,f3⟩:=flat_get (List.getElem?_eq_getElem hi)
   rw [Nat.mul_comm] at f0 f1 f2 f3
   obtain⟨k,hk⟩:∃ k,k=ns[i]:=⟨_,rfl⟩
   rw [← hk] at f0 f1 f2 f3 ⊢
   have e0:=owns_cell HI.out.nodes rfl f0
   have e1:=owns_cell HI.out.nodes rfl f1
   have e2:=owns_cell HI.out.nodes rfl f2
   have e3:=owns_cell HI.out.nodes rfl f3
   have hg:=oLT HI.out.nodes rfl
   have hw1:IntKind.i64.wrap (s+↑i - s)=↑i:=IntWalk.i64_in _ (by omega) |>.trans (by omega)
   clear f0 f1 f2 f3 hk hst hfar
   unfold kv
   go_enter Tryz.func44,Tryz.ntmps44
   go_wp2
   (refine wRT (by kernel_rfl) (by kernel_rfl) ?_)
   go_wp2
   refine Strict.intro rfl ?_
   go_wp2
   (refine wRT (by kernel_rfl) (by kernel_rfl) ?_)
   go_wp2
   refine Strict.intro rfl ?_
   go_wp2
   exact bodyPost_ret (v:=.tuple #[.agg #[.int .i64 k.a,.int .i64 k.b,.int .i64 k.c,.int .i64 k.d],.bool true]) (by simp [results,Tryz.results44,go_sem]) rfl ⟨rfl,by (repeat first|exact Fr.refl _ _|assumption|apply Fr.n|apply Fr.d|apply Fr.a|refine Fr.s ?_ (.inr (by simp;try omega)) _)⟩
set_option maxHeartbeats 2000000 in
theorem RData_calls {w:World} {b:Nat} {s:Int} {ns:List K4} {F:List Nat} (hS:RefAt w b s ns F) :
  Calls Tryz.prog 24 #[.pointer (some ⟨b,0,none⟩)] w (CopyPost w s ns):=by
 obtain⟨hgood,nv,hI,rfl⟩:=hS
 obtain⟨na,nc,rfl,_,_⟩:=oFM hI.nodes
 have b0:=hEC hI.blk 0
 have b1:=hEC hI.blk 1
 have hb:=lBk hI.blk
 have HI:=Lib.hid hI
 have Hgood:=Lib.hid hgood
 clear hI hgood
 go_enter Tryz.func24,Tryz.ntmps24
 go_wp2_with fail
 refine (copied_ref (s:=s) (by have:=Hgood.out.2.2.1;omega) ((Reads.of_owns HI.out.nodes).fr (by (repeat first|exact Fr.refl _ _|assumption|apply Fr.n|apply Fr.d|apply Fr.a|refine Fr.s ?_ (.inr (by simp;try omega)) _)))).mono ?_
 rintro e w1 ⟨v,rfl,ho,hf⟩
 have hl:w1.heap[w.heap.size]?=some (.cells #[.int .i64 0,.slice none 0 0] 24 (0,0)):=(hf.block _ (by rw [hAz];omega) (by simp)).trans (by (repeat first|rw [if_pos (by omega)]|rw [if_neg (by omega)]|rw [hDR]|rw [hDN]|rw [hAz]|rw [hSz]|rw [hAC]|rw [hSC]|rw [oMS]|rw [uPC]|rw [lSZ]|rw [lSS]|rfl))
 have l0:=hEC hl 0
 have l1:=hEC hl 1
 have g0:=hEF hl 0
 have g1:=hEF hl 1
 obtain⟨va,vc,rfl,hva,hvn⟩:=oFM ho
 have hne:(Value.slice va ns.length vc).ownBlock≠some w.heap.size:=fun e=>by
  have:=owns_ge ho e;rw [hAz] at this;omega
 have Ho:=Lib.hid ho
 have Hne:=Lib.hid hne
 have Hf:=Lib.hid (((Fr.refl [] w).alloc _).trans0 hf)
 clear ho hva hvn hf hl hne
 go_wp2
 exact bodyPost_ret (v:=.agg #[.int .i64 s,.slice va ns.length vc]) (by simp [results,Tryz.results24,go_sem,l0,l1]) rfl
  ⟨_,rfl,oOB (base:=w.heap.size) (owns_base Ho.out (by rw [hAz];omega)) fun x hx=>heap_setCell2 _ _ _ _ _ _ (fun e=>Hne.out (by rw [hx,e])),by repeat (first|exact Hf.out|apply Fr.drewN|apply Fr.drew|apply Fr.alloc|refine Fr.setCell ?_ (Or.inr (by simp)) _)⟩
end Go.Proofs.YtdanghnadbkhfaaGreat
end
section
namespace Go.Proofs.YtdanghnadbkhfaaGreat
open Go Go.RowKit Rg Mp Hp Qs Ev
def refR (b:Nat) (s:Int) (ns:List K4):Res where
 holds w F:=RefAt w b s ns F
 keep:=fun h hk=>h.keep hk
 lt:=fun h=>h.lt
def LoadedPost (w:World) (s:Int) (ns:List K4) (e:Ending) (w':World):Prop :=
 (ns.length≤100∧GoodQ s ns→∃ b r,e=.returned (.tuple #[.pointer (some ⟨b,0,none⟩),.pointer (some ⟨r,0,none⟩),.bool true])∧Has w w' [sTR b s ns,refR r s ns]) ∧
 (¬ (ns.length≤100∧GoodQ s ns)→e=.returned (.tuple #[.pointer none,.pointer none,.bool false])∧Fr [] w w')
set_option maxHeartbeats 4000000 in
theorem loaded_q {w:World} {s:Int} {ns:List K4} {v:Value} (hv:Reads w v ns.length 4 (flat ns)) :
  Calls Tryz.prog 7 #[.agg #[.int .i64 s,v]] w (LoadedPost w s ns):=by
 have hvk:=hv
 obtain⟨_,a,c,rfl,_⟩:=hv
 have Hv:=Lib.hid hvk
 clear hvk
 by_cases hl:100<ns.length
 ·have hd:decide ((100:Int)<↑ns.length)=true:=by simp;omega
  have hd2:decide (100<ns.length)=true:=by simpa using hl
  have Hl:=Lib.hid hl
  clear hl
  go_enter Tryz.func7,Tryz.ntmps7
  go_wp2
  go_ret3
  exact⟨fun h=>by have:=Hl.out;omega,fun _=>⟨rfl,by (repeat first|exact Fr.refl _ _|assumption|apply Fr.n|apply Fr.d|apply Fr.a|refine Fr.s ?_ (.inr (by simp;try omega)) _)⟩⟩
 have hd:decide ((100:Int)<↑ns.length)=false:=by simp;omega
 have hd2:decide (100<ns.length)=false:=by simpa using hl
 have Hl:=Lib.hid hl
 clear hl
 by_cases hg:GoodQ s ns
 ·have Hg:=Lib.hid hg
  clear hg
  go_enter Tryz.func7,Tryz.ntmps7
  go_wp2_with fail
  refine (R25Right_calls (s:=s) (by have:=Hl.out;omega) (Hv.out.fr (by (repeat first|exact Fr.refl _ _|assumption|apply Fr.n|apply Fr.d|apply Fr.a|refine Fr.s ?_ (.inr (by simp;try omega)) _)))).mono ?_
  rintro e w1 ⟨rfl,hf⟩
  rw [decide_eq_true Hg.out]
  have hb:=(hf.block w.heap.size (by simp) (by simp)).trans (show _=some (.cells #[.int .i64 s,.slice a ns.length c] 24 (0,0)) by (repeat first|rw [if_pos (by omega)]|rw [if_neg (by omega)]|rw [hDR]|rw [hDN]|rw [hAz]|rw [hSz]|rw [hAC]|rw [hSC]|rw [oMS]|rw [uPC]|rw [lSZ]|rw [lSS]|rfl))
  have c0:=hEC hb 0
  have c1:=hEC hb 1
  have hbl:=lBk hb
  have Hb:=Lib.hid hb
  have Hf:=Lib.hid (Fr.trans0 (by (repeat first|exact Fr.refl _ _|assumption|apply Fr.n|apply Fr.d|apply Fr.a|refine Fr.s ?_ (.inr (by simp;try omega)) _):Fr [] w _) hf)
  clear hf hb
  go_wp2_with fail
  refine (Load_calls (s:=s) (by have:=Hl.out;omega) (Hv.out.fr Hf.out)).mono ?_
  rintro e w2 ⟨h1,_⟩
  obtain⟨b,F,rfl,hS,hf,hF⟩:=h1 Hg.out
  have h2:Has w w2 [sTR b s ns]:=(Has.nil Hf.out).new hf hS hF
  have hb:=(hf.block _ (lBk Hb.out) (by simp)).trans Hb.out
  clear c0 c1 hbl
  have c0:=hEC hb 0
  have c1:=hEC hb 1
  have hbl:=lBk hb
  have H2:=Lib.hid h2
  clear h1 hS hf hF h2 hb
  go_wp2_with fail
  refine (RLoad_calls (s:=s) (by have:=Hl.out;omega) (Hv.out.fr H2.out.fr)).mono ?_
  rintro e w3 ⟨h1,_⟩
  obtain⟨r,G,rfl,hR,hf,hG⟩:=h1 Hg.out
  have H3:=Lib.hid (show Has w w3 [refR r s ns,sTR b s ns] from H2.out.new hf hR hG)
  clear h1 hR hf hG c0 c1 hbl
  go_wp2
  go_ret3
  exact⟨fun _=>⟨b,r,rfl,H3.out.swap⟩,fun h=>absurd ⟨by have:=Hl.out;omega,Hg.out⟩ h⟩
 ·have Hg:=Lib.hid hg
  clear hg
  go_enter Tryz.func7,Tryz.ntmps7
  go_wp2_with fail
  refine (R25Right_calls (s:=s) (by have:=Hl.out;omega) (Hv.out.fr (by (repeat first|exact Fr.refl _ _|assumption|apply Fr.n|apply Fr.d|apply Fr.a|refine Fr.s ?_ (.inr (by simp;try omega)) _)))).mono ?_
  rintro e w1 ⟨rfl,hf⟩
  rw [decide_eq_false Hg.out]
  have Hf:=Lib.hid (Fr.trans0 (by (repeat first|exact Fr.refl _ _|assumption|apply Fr.n|apply Fr.d|apply Fr.a|refine Fr.s ?_ (.inr (by simp;try omega)) _):Fr [] w _) hf)
  clear hf
  go_wp2
  go_ret3
  exact⟨fun h=>absurd h.2 Hg.out,fun _=>⟨rfl,Hf.out⟩⟩
end Go.Proofs.YtdanghnadbkhfaaGreat
end
section
namespace Go.Proofs.YtdanghnadbkhfaaGreat
open Go Go.RowKit Rg Hp Pt
theorem place_p (x y:Int) (w:World):Calls Tryz.prog 100 #[.int .i64 x,.int .i64 y] w fun e w'=>e=.returned (.bool (placeB x y))∧w'=w:=by
 have hb:placeB x y=(((decide (x ≥ -1048576) && decide (x≤1048576)) && decide (y ≥ -1048576)) && decide (y≤1048576)):=by
  unfold placeB
  rw [Bool.eq_iff_iff]
  simp only [Bool.and_eq_true,decide_eq_true_eq];omega
 rw [hb]
 clear hb
 obtain⟨a,ha⟩:∃ a,decide (x ≥ -1048576)=a:=⟨_,rfl⟩
 obtain⟨b,hb⟩:∃ a,decide (x≤1048576)=a:=⟨_,rfl⟩
 obtain⟨c,hc⟩:∃ a,decide (y ≥ -1048576)=a:=⟨_,rfl⟩
 obtain⟨d,hd⟩:∃ a,decide (y≤1048576)=a:=⟨_,rfl⟩
 rw [ha,hb,hc,hd]
 cases a with
 | false =>
  go_enter Tryz.func100,Tryz.ntmps100
  go_wp2
  go_ret
  exact⟨by simp,rfl⟩
 | true =>
  cases b with
  | false =>
   go_enter Tryz.func100,Tryz.ntmps100
   go_wp2
   go_ret
   exact⟨by simp,rfl⟩
  | true =>
   cases c with
   | false =>
    go_enter Tryz.func100,Tryz.ntmps100
    go_wp2
    go_ret
    exact⟨by simp,rfl⟩
   | true =>
    go_enter Tryz.func100,Tryz.ntmps100
    go_wp2
    go_ret
    exact⟨by simp,rfl⟩
theorem before_p (p q:PC) (w:World):Calls Tryz.prog 102 #[pcV p,pcV q] w fun e w'=>e=.returned (.bool (pBef p q))∧Fr [] w w':=by
 obtain⟨x,y,s⟩:=p
 obtain⟨u,v,t⟩:=q
 unfold pcV pBef
 simp only
 by_cases h:y<v
 ·have hb:decide (y<v)=true:=by simpa using h
  rw [show decide (y<v∨y=v∧x<u)=true by simp [h]]
  clear h
  go_enter Tryz.func102,Tryz.ntmps102
  go_wp2
  go_ret
  exact⟨rfl,by (repeat first|exact Fr.refl _ _|assumption|apply Fr.n|apply Fr.d|apply Fr.a|refine Fr.s ?_ (.inr (by simp;try omega)) _)⟩
 ·have hb:decide (y<v)=false:=by simpa using h
  by_cases he:y=v
  ·subst he
   rw [show decide (y<y∨y=y∧x<u)=decide (x<u) by simp]
   obtain⟨c,hc⟩:∃ c,decide (x<u)=c:=⟨_,rfl⟩
   rw [hc]
   clear h
   have heq:(y == y)=true:=by simp
   go_enter Tryz.func102,Tryz.ntmps102
   go_wp2
   go_ret
   exact⟨rfl,by (repeat first|exact Fr.refl _ _|assumption|apply Fr.n|apply Fr.d|apply Fr.a|refine Fr.s ?_ (.inr (by simp;try omega)) _)⟩
  ·have heq:(y == v)=false:=by simpa using he
   rw [show decide (y<v∨y=v∧x<u)=false by simp [h,he]]
   clear h he
   go_enter Tryz.func102,Tryz.ntmps102
   go_wp2
   go_ret
   exact⟨rfl,by (repeat first|exact Fr.refl _ _|assumption|apply Fr.n|apply Fr.d|apply Fr.a|refine Fr.s ?_ (.inr (by simp;try omega)) _)⟩
set_option maxHeartbeats 8000000 in
set_option maxRecDepth 100000 in
theorem RRight_p {w:World} {l:List PC} {a:Option Addr} {c:Nat} (hl:CellsAt w (.slice a l.length c) l) (hlen:l.length≤4000000000000000000) :
  Calls Tryz.prog 66 #[.slice a l.length c] w fun e w'=>e=.returned (.bool (rightP l))∧Fr [] w w':=by
 have Hl:=Lib.hid hl
 clear hl
 go_enter Tryz.func66,Tryz.ntmps66
 go_wp2
 go_loopw [3] (fun x wr=>∃ k:Nat,x=.int .i64 k∧k≤l.length∧(∀ j,j<k→rgtAt l j=true)∧Fr [] w wr) (fun x _=>l.length - (intOf x).toNat)
 case atStart=>exact⟨0,rfl,by omega,by omega,Fr.refl _ _⟩
 case round =>
  obtain⟨k,rfl,hk,hn,hf⟩:=hrel
  have Hk:=Lib.hid hn
  have Hf:=Lib.hid hf
  clear hn hf
  by_cases hlt:k<l.length
  ·obtain⟨⟨x,y,st⟩,hp⟩:∃ p,l[k]?=some p:=⟨_,List.getElem?_eq_getElem hlt⟩
   obtain⟨g,off,rfl,hg,e0,e1,e2⟩:=(Hl.out.fr Hf.out).cell hp
   simp only at e0 e1 e2
   have HPL:=Lib.hid (place_p x y)
   cases k with
   | zero =>
    have HA:=Lib.hid (rgt_zero hp)
    clear hp
    simp only [Nat.zero_mul,Nat.add_zero] at e0 e1 e2
    unfold cellB at HA
    simp only at HA
    generalize placeB x y=pl at HA HPL
    cases pl with
    | false =>
     go_wp2
     (refine wRT (by kernel_rfl) (by kernel_rfl) ?_)
     go_wp2_with fail
     refine (HPL.out _).mono ?_
     rintro e w1 ⟨rfl,rfl⟩
     go_wp2
     refine Strict.intro rfl ?_
     go_wp2
     go_ret
     exact⟨ret_bool' (rgt_false (by omega) (HA.out.trans (by simp ))).symm,by have:=Hf.out;(repeat first|exact Fr.refl _ _|assumption|apply Fr.n|apply Fr.d|apply Fr.a|refine Fr.s ?_ (.inr (by simp;try omega)) _)⟩
    | true =>
     by_cases h1:st<1
     ·have hd1:decide (st<1)=true:=by simpa using h1
      go_wp2
      (refine wRT (by kernel_rfl) (by kernel_rfl) ?_)
      go_wp2_with fail
      refine (HPL.out _).mono ?_
      rintro e w1 ⟨rfl,rfl⟩
      go_wp2
      refine Strict.intro rfl ?_
      go_wp2
      go_ret
      exact⟨ret_bool' (rgt_false (by omega) (HA.out.trans (by simp ;omega))).symm,by have:=Hf.out;(repeat first|exact Fr.refl _ _|assumption|apply Fr.n|apply Fr.d|apply Fr.a|refine Fr.s ?_ (.inr (by simp;try omega)) _)⟩
     ·have hd1:decide (st<1)=false:=by simpa using h1
      by_cases h8:st ≥ 8
      ·have hd8:decide (st ≥ 8)=true:=by simpa using h8
       go_wp2
       (refine wRT (by kernel_rfl) (by kernel_rfl) ?_)
       go_wp2_with fail
       refine (HPL.out _).mono ?_
       rintro e w1 ⟨rfl,rfl⟩
       go_wp2
       refine Strict.intro rfl ?_
       go_wp2
       go_ret
       exact⟨ret_bool' (rgt_false (by omega) (HA.out.trans (by simp ;omega))).symm,by have:=Hf.out;(repeat first|exact Fr.refl _ _|assumption|apply Fr.n|apply Fr.d|apply Fr.a|refine Fr.s ?_ (.inr (by simp;try omega)) _)⟩
      ·have hd8:decide (st ≥ 8)=false:=by simpa using h8
       go_wp2
       (refine wRT (by kernel_rfl) (by kernel_rfl) ?_)
       go_wp2_with fail
       refine (HPL.out _).mono ?_
       rintro e w1 ⟨rfl,rfl⟩
       go_wp2
       refine Strict.intro rfl ?_
       go_wp2
       go_roundw
       case rel =>
        refine⟨0+1,by go_num,by omega,fun j hj=>?_,by have:=Hf.out;(repeat first|exact Fr.refl _ _|assumption|apply Fr.n|apply Fr.d|apply Fr.a|refine Fr.s ?_ (.inr (by simp;try omega)) _)⟩
        rcases Nat.lt_or_ge j (0) with h|h
        ·exact Hk.out j h
        ·obtain rfl:j=0:=by omega
         exact HA.out.trans (by simp ;omega)
       case measure=>simp [intOf];omega
   | succ k =>
    obtain⟨⟨u,v,su⟩,hq⟩:∃ p,l[k]?=some p:=⟨_,List.getElem?_eq_getElem (by omega)⟩
    obtain⟨g',off',he,_,e3,e4,e5⟩:=(Hl.out.fr Hf.out).cell hq
    cases he
    simp only at e3 e4 e5
    have HA:=Lib.hid (rgt_succ hp hq)
    have HOR:=Lib.hid (before_p ⟨u,v,su⟩ ⟨x,y,st⟩)
    unfold cellB at HA
    unfold pcV at HOR
    simp only at HA HOR
    generalize placeB x y=pl at HA HPL
    generalize pBef ⟨u,v,su⟩ ⟨x,y,st⟩=be at HA HOR
    clear hp hq
    cases pl with
    | false =>
     go_wp2
     (refine wRT (by kernel_rfl) (by kernel_rfl) ?_)
     go_wp2_with fail
     refine (HPL.out _).mono ?_
     rintro e w1 ⟨rfl,rfl⟩
     go_wp2
     refine Strict.intro rfl ?_
     go_wp2
     go_ret
     exact⟨ret_bool' (rgt_false (by omega) (HA.out.trans (by simp ))).symm,by have:=Hf.out;(repeat first|exact Fr.refl _ _|assumption|apply Fr.n|apply Fr.d|apply Fr.a|refine Fr.s ?_ (.inr (by simp;try omega)) _)⟩
    | true =>
     by_cases h1:st<1
     ·have hd1:decide (st<1)=true:=by simpa using h1
      go_wp2
      (refine wRT (by kernel_rfl) (by kernel_rfl) ?_)
      go_wp2_with fail
      refine (HPL.out _).mono ?_
      rintro e w1 ⟨rfl,rfl⟩
      go_wp2
      refine Strict.intro rfl ?_
      go_wp2
      go_ret
      exact⟨ret_bool' (rgt_false (by omega) (HA.out.trans (by simp ;omega))).symm,by have:=Hf.out;(repeat first|exact Fr.refl _ _|assumption|apply Fr.n|apply Fr.d|apply Fr.a|refine Fr.s ?_ (.inr (by simp;try omega)) _)⟩
     ·have hd1:decide (st<1)=false:=by simpa using h1
      by_cases h8:st ≥ 8
      ·have hd8:decide (st ≥ 8)=true:=by simpa using h8
       go_wp2
       (refine wRT (by kernel_rfl) (by kernel_rfl) ?_)
       go_wp2_with fail
       refine (HPL.out _).mono ?_
       rintro e w1 ⟨rfl,rfl⟩
       go_wp2
       refine Strict.intro rfl ?_
       go_wp2
       go_ret
       exact⟨ret_bool' (rgt_false (by omega) (HA.out.trans (by simp ;omega))).symm,by have:=Hf.out;(repeat first|exact Fr.refl _ _|assumption|apply Fr.n|apply Fr.d|apply Fr.a|refine Fr.s ?_ (.inr (by simp;try omega)) _)⟩
      ·have hd8:decide (st ≥ 8)=false:=by simpa using h8
       cases be with
       | true =>
        go_wp2
        (refine wRT (by kernel_rfl) (by kernel_rfl) ?_)
        go_wp2_with fail
        refine (HPL.out _).mono ?_
        rintro e w1 ⟨rfl,rfl⟩
        go_wp2_with fail
        refine (HOR.out _).mono ?_
        rintro e w3 ⟨rfl,hf3⟩
        have Hf:=Lib.hid (Fr.trans0 (by have:=Hf.out;(repeat first|exact Fr.refl _ _|assumption|apply Fr.n|apply Fr.d|apply Fr.a|refine Fr.s ?_ (.inr (by simp;try omega)) _)) hf3:Fr [] w w3)
        clear hf3
        go_wp2
        refine Strict.intro rfl ?_
        go_wp2
        go_roundw
        case rel =>
         refine⟨k+1+1,by go_num,by omega,fun j hj=>?_,by have:=Hf.out;(repeat first|exact Fr.refl _ _|assumption|apply Fr.n|apply Fr.d|apply Fr.a|refine Fr.s ?_ (.inr (by simp;try omega)) _)⟩
         rcases Nat.lt_or_ge j (k+1) with h|h
         ·exact Hk.out j h
         ·obtain rfl:j=k+1:=by omega
          exact HA.out.trans (by simp ;omega)
        case measure=>simp [intOf];omega
       | false =>
        go_wp2
        (refine wRT (by kernel_rfl) (by kernel_rfl) ?_)
        go_wp2_with fail
        refine (HPL.out _).mono ?_
        rintro e w1 ⟨rfl,rfl⟩
        go_wp2_with fail
        refine (HOR.out _).mono ?_
        rintro e w3 ⟨rfl,hf3⟩
        have Hf:=Lib.hid (Fr.trans0 (by have:=Hf.out;(repeat first|exact Fr.refl _ _|assumption|apply Fr.n|apply Fr.d|apply Fr.a|refine Fr.s ?_ (.inr (by simp;try omega)) _)) hf3:Fr [] w w3)
        clear hf3
        go_wp2
        refine Strict.intro rfl ?_
        go_wp2
        go_ret
        exact⟨ret_bool' (rgt_false (by omega) (HA.out.trans (by simp ))).symm,by have:=Hf.out;(repeat first|exact Fr.refl _ _|assumption|apply Fr.n|apply Fr.d|apply Fr.a|refine Fr.s ?_ (.inr (by simp;try omega)) _)⟩
  ·obtain rfl:k=l.length:=by omega
   by_cases h5:l.length≤5000
   ·have hd5:decide (((l.length:Nat):Int)≤5000)=true:=by simp;omega
    have HT:=Lib.hid (rgt_true h5 Hk.out)
    go_wp2
    go_ret
    exact⟨ret_bool' HT.out.symm,Hf.out⟩
   ·have hd5:decide (((l.length:Nat):Int)≤5000)=false:=by simp;omega
    have HT:=Lib.hid (show rightP l=false by unfold rightP;rw [decide_eq_false h5,Bool.false_and])
    go_wp2
    go_ret
    exact⟨ret_bool' HT.out.symm,Hf.out⟩
end Go.Proofs.YtdanghnadbkhfaaGreat
end
section
namespace Go.Proofs.Hp
open Go Go.RowKit
theorem Seps.join {w:World}:∀ {Qs Ps:List Res} {G F:List Nat},Seps w Qs G→Seps w Ps F→(∀ x∈G,x∉F)→Seps w (Qs++Ps) (G++F)
 | [],_,_,_,h,k,_=>by rw [show _=[] from h];exact k
 | Q::Qs,Ps,G,F,⟨G1,G2,h1,h2,h3,h4⟩,k,hd=>by
  subst h4
  refine⟨G1,G2++F,h1,Seps.join h2 k fun x hx=>hd x (by simp [hx]),fun x hx hm=>?_,List.append_assoc _ _ _⟩
  rw [List.mem_append] at hm
  rcases hm with hm|hm
  ·exact h3 x hx hm
  ·exact hd x (by simp [hx]) hm
theorem has_join {W w w':World} {Ps Qs:List Res} (h:Has W w Ps) (k:Has w w' Qs):Has W w' (Qs++Ps):=by
 obtain⟨F,h1,h2,h3⟩:=h
 obtain⟨G,k1,k2,k3⟩:=k
 refine⟨G++F,Seps.join k1 (h1.keep fun x hx=>k2.block x (h1.lt x hx) (by simp)) fun x hx hm=>?_,h2.trans0 k2,fun x hx=>?_⟩
 ·have:=k3 x hx;have:=h1.lt x hm;omega
 ·rw [List.mem_append] at hx
  rcases hx with hx|hx
  ·have:=k3 x hx;have:=h2.size;omega
  ·exact h3 x hx
theorem Seps.mem {w:World}:∀ {Ps:List Res} {F:List Nat},Seps w Ps F→∀ Q∈Ps,∃ G,Q.holds w G∧∀ x∈G,x∈F
 | [],_,_,_,hm=>by cases hm
 | P::Ps,F,⟨F1,F2,h1,h2,h3,h4⟩,Q,hm=>by
  subst h4
  rw [List.mem_cons] at hm
  rcases hm with rfl|hm
  ·exact⟨F1,h1,fun x hx=>by simp [hx]⟩
  ·obtain⟨G,g1,g2⟩:=Seps.mem h2 Q hm
   exact⟨G,g1,fun x hx=>by simp [g2 x hx]⟩
theorem Has.updO {W w:World} {P P':Res} {Ps:List Res} (h:Has W w (P::Ps)) {R:Ending→Prop} {Pr:Program} {f:FuncId} {args:Array Value}
  (hc:∀ F,P.holds w F→(∀ Q∈Ps,∃ G,Q.holds w G∧∀ x∈G,x∉F)→Calls Pr f args w fun e w'=>R e∧∃ F',P'.holds w' F'∧Fr F w w'∧∀ x∈F',x∈F∨w.heap.size≤x):Calls Pr f args w fun e w'=>R e∧Has W w' (P'::Ps):=by
 obtain⟨F,⟨F1,F2,h1,h2,h3,rfl⟩,hf,hge⟩:=h
 refine (hc F1 h1 fun Q hQ=>?_).mono ?_
 ·obtain⟨G,g1,g2⟩:=h2.mem Q hQ
  exact⟨G,g1,fun x hx hm=>h3 x hm (g2 x hx)⟩
 rintro e w' ⟨hR,F',hP,hf',hs⟩
 refine⟨hR,F'++F2,⟨F',F2,hP,h2.keep fun x hx=>hf'.block x (h2.lt x hx) fun hx'=>h3 x hx' hx,fun x hx hx'=>?_,rfl⟩,hf.trans hf' fun x hx=>.inr (hge x (by simp [hx])),fun x hx=>?_⟩
 ·rcases hs x hx with h|h
  ·exact h3 x h hx'
  ·have:=h2.lt x hx';omega
 ·rw [List.mem_append] at hx
  rcases hx with hx|hx
  ·rcases hs x hx with h|h
   ·exact hge x (by simp [h])
   ·have:=hf.size;omega
  ·exact hge x (by simp [hx])
end Go.Proofs.Hp
namespace Go.Proofs.YtdanghnadbkhfaaGreat
open Go Go.RowKit Rg Mp Hp Qs Ev Bn Pt
section
variable {W w:World} {b:Nat} {s:Int} {ns:List K4} {Ps:List Res}
theorem ref_good (h:Has W w (refR b s ns::Ps)):GoodQ s ns:=by obtain⟨F,hS⟩:=h.head;exact hS.1
theorem RLevel_has (h:Has W w (refR b s ns::Ps)) (id:Int) :
  Calls Tryz.prog 43 #[.pointer (some ⟨b,0,none⟩),.int .i64 id] w fun e w'=>e=.returned (.int .i64 (lvl s (levs s ns) id))∧Fr [] w w':=by
 obtain⟨F,hS⟩:=h.head
 exact RLevel_calls hS id
theorem RData_has (h:Has W w (refR b s ns::Ps)) :
  Calls Tryz.prog 24 #[.pointer (some ⟨b,0,none⟩)] w fun e w'=>∃ v,e=.returned (.agg #[.int .i64 s,v])∧Has W w' (Hp.row 105 4 v ns.length (flat ns)::refR b s ns::Ps):=by
 obtain⟨F,hS⟩:=h.head
 refine (RData_calls hS).mono ?_
 rintro e w' ⟨v,rfl,ho,hf⟩
 exact⟨v,rfl,h.newRow hf ho⟩
end
theorem run_field_states (w:World) (s:Int) (a:Option Addr) (n c:Nat):(Instr.field 24 (.agg #[.int .i64 s,.slice a n c]) 0).run Tryz.prog w=.ok (.int .i64 s) w:=by
 simp [Instr.field,Sem.run_bind,run_underlying,Tryz.underlying24,part,go_sem,asAgg,isAgg,Tryz.underlying3]
theorem Rtop_p {w:World} {l:List PC} {a:Option Addr} {c:Nat} (hl:CellsAt w (.slice a l.length c) l) (hlen:l.length≤60000) :
  Calls Tryz.prog 69 #[.slice a l.length c] w fun e w'=>e=.returned (.int .i64 (topP l))∧Fr [] w w':=by
 have HL:=Lib.hid hl
 obtain⟨m,hm⟩:∃ m,l.length=m:=⟨_,rfl⟩
 rw [hm]
 have HM:=Lib.hid hm
 have hm6:m≤60000:=by omega
 obtain⟨T,hT⟩:∃ T,topP l=T:=⟨_,rfl⟩
 rw [hT]
 have HTT:=Lib.hid hT
 clear hl hlen hm hT
 go_enter Tryz.func69,Tryz.ntmps69
 go_wp2
 go_loopw [3,4] (fun x3 x4 wr=>∃ (k:Nat),(x3=.int .i64 (topP (l.take k))∧x4=.int .i64 (k:Nat))∧k≤m∧Fr [] w wr) (fun _ x _=>m - (intOf x).toNat)
 case atStart=>exact⟨0,⟨rfl,rfl⟩,by omega,Fr.refl _ _⟩
 case round =>
  obtain⟨k,⟨rfl,rfl⟩,hk,hf⟩:=hrel
  have Hf:=Lib.hid hf
  clear hf
  by_cases hlt:k<m
  ·obtain⟨⟨cx,cy,st⟩,hp⟩:∃ c,l[k]?=some c:=⟨_,List.getElem?_eq_getElem (by rw [HM.out];exact hlt)⟩
   obtain⟨g,off,rfl,hg,e0,e1,e2⟩:=(HL.out.fr Hf.out).cell hp
   simp only at e0 e1 e2
   have HT:=Lib.hid (show topP (l.take (k+1))=max (topP (l.take k)) st by
    rw [List.take_add_one,hp]
    exact topP_snoc _ _)
   obtain⟨T,hT⟩:∃ T,topP (l.take k)=T:=⟨_,rfl⟩
   rw [hT] at HT ⊢
   clear hp e0 e1 hT
   go_wp2
   go_roundw
   case rel=>exact⟨k+1,⟨by rw [HT.out],by go_num⟩,by omega,by have:=Hf.out;(repeat first|exact Fr.refl _ _|assumption|apply Fr.n|apply Fr.d|apply Fr.a|refine Fr.s ?_ (.inr (by simp;try omega)) _)⟩
   case measure=>simp [intOf];omega
  ·obtain rfl:k=m:=by omega
   rw [List.take_of_length_le (by rw [HM.out];exact Nat.le_refl _),HTT.out]
   go_wp2
   go_ret
   exact⟨rfl,by have:=Hf.out;(repeat first|exact Fr.refl _ _|assumption|apply Fr.n|apply Fr.d|apply Fr.a|refine Fr.s ?_ (.inr (by simp;try omega)) _)⟩
end Go.Proofs.YtdanghnadbkhfaaGreat
end
