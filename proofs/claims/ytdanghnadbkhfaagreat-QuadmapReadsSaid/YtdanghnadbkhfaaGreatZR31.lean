/- Own texts of this claim, part 32: no condition. -/
import Derived.ProofKit
import Derived.OpenShut
import Derived.Deep.Slices
import Derived.Test.YtdanghnadbkhfaaGreatZR29
import Derived.Test.YtdanghnadbkhfaaGreatZR24
import Derived.Test.YtdanghnadbkhfaaGreatZR20
import Derived.Test.YtdanghnadbkhfaaGreatZR30
import Derived.Test.YtdanghnadbkhfaaGreatZR15
import Derived.Test.YtdanghnadbkhfaaGreatZR1
import Derived.Test.YtdanghnadbkhfaaGreatZR7
import Derived.Test.YtdanghnadbkhfaaGreatZR3
import Derived.Test.YtdanghnadbkhfaaGreatZR10
set_option linter.unusedVariables false
set_option linter.unusedSimpArgs false
section
namespace Go.Proofs.YtdanghnadbkhfaaGreat
open Go Go.RowKit Rg Mp Hp Qs Ev Bn Pt
theorem frok_same {o:Option Frm} {f g:FV} (hf:FrOk o f) (hg:FrOk o g):sameB f g 4=true∧f.1=g.1:=by
 obtain⟨a1,a2,a3,a4,a5⟩:=hf
 obtain⟨b1,b2,b3,b4,b5⟩:=hg
 refine⟨?_,a1.trans b1.symm⟩
 unfold sameB
 simp only [Bool.and_eq_true,decide_eq_true_eq]
 refine⟨⟨⟨?_,?_⟩,?_⟩,?_⟩<;>omega
theorem frq_zok {s:Int} {ns:List K4} (hg:GoodQ s ns) {id:Int} {f:FV} (hf:FrOk (frQ s ns id) f):Zok (f.2.1.1:Int)∧Zok (f.2.2.1.1:Int)∧Zok (f.2.2.2.1.1:Int)∧Zok (f.2.2.2.2.1:Int):=by
 have key:∃ n,n≤256∧∀ x,frQ s ns id=some x→inF ((2 ^ n:Nat):Int) x:=by
  unfold frQ
  by_cases h0:lvl s (levs s ns) id<0
  ·rw [if_pos h0];exact⟨0,by omega,by simp⟩
  ·rw [if_neg h0]
   obtain⟨n,_,hn,hi⟩:=level_nat hg (id:=id) (by omega)
   rw [full_ht n hi.2.2.1]
   exact⟨n,hn,frT_in⟩
 obtain⟨n,hn,hx⟩:=key
 have hp:(0:Int)<((2 ^ n:Nat):Int):=by have:=Nat.pow_pos (n:=n) (show 0<2 by omega);omega
 obtain⟨h1,h2,h3,h4⟩:=frok_lt hp hx hf
 exact⟨zok_lt (k:=n) (by omega) (by omega),zok_lt (k:=n) (by omega) (by omega),zok_lt (k:=n) (by omega) (by omega),zok_lt (k:=n) (by omega) (by omega)⟩
theorem popq_zok {s:Int} {ns:List K4} (hg:GoodQ s ns) {id:Int}:Zok ((popQ s ns id:Nat):Int):=by
 unfold popQ
 by_cases h0:lvl s (levs s ns) id<0
 ·rw [if_pos h0];exact zok_int (by omega) (by omega)
 ·rw [if_neg h0]
  obtain⟨n,_,hn,hi⟩:=level_nat hg (id:=id) (by omega)
  exact pop_zok hn hi.2.2.1
theorem four_of {W w:World} {L:List BV} {Ps:List Res} (h:Has W w Ps) (hm:poolR L∈Ps) {f:FV} (hl:InL L f) (hz:Zok (f.2.1.1:Int)∧Zok (f.2.2.1.1:Int)∧Zok (f.2.2.2.1.1:Int)∧Zok (f.2.2.2.2.1:Int)):Four w f :=
 ⟨pool_in h hm hl.1,pool_in h hm hl.2.1,pool_in h hm hl.2.2.1,pool_in h hm hl.2.2.2,hz.1,hz.2.1,hz.2.2.1,hz.2.2.2⟩
set_option maxHeartbeats 16000000 in
set_option maxRecDepth 100000 in
theorem QuadmapReads_calls {W:World} {s:Int} {ns:List K4} {a:Option Addr} {c:Nat} (hv:Reads W (.slice a ns.length c) ns.length 4 (flat ns)) (node st:Int) {nx ny:Bool} {dx dy:List Nat} {ax ay:Option Addr} {cx cy:Nat} (hx:BigIn W nx dx ax cx) (hy:BigIn W ny dy ay cy) :
  Calls Tryz.prog 3 #[.agg #[.int .i64 s,.slice a ns.length c,.int .i64 node,.bool nx,.slice ax dx.length cx,.bool ny,.slice ay dy.length cy,.int .i64 st]] W fun e w'=>e=.returned (.bool true)∧Fr [] W w':=by
 have HLD:=Lib.hid (fun w1 (hf:Fr [] W w1)=>loaded_q (s:=s) (hv.fr hf))
 have HX:=Lib.hid hx
 have HY:=Lib.hid hy
 clear hv hx hy
 by_cases hok:ns.length≤100∧GoodQ s ns
 case neg =>
  have Hok:=Lib.hid hok
  clear hok
  go_enter Tryz.func3,Tryz.ntmps3
  go_wp2_with fail
  refine (HLD.out _ (by (repeat first|exact Fr.refl _ _|assumption|apply Fr.n|apply Fr.d|apply Fr.a|refine Fr.s ?_ (.inr (by simp;try omega)) _))).mono ?_
  rintro e w1 ⟨_,h1⟩
  obtain⟨rfl,hf1⟩:=h1 Hok.out
  have Hf1:=Lib.hid hf1
  clear h1 hf1
  go_wp2_with fail
  refine (awake_q _).mono ?_
  rintro e w9 ⟨rfl,hf9⟩
  have Hf9:=Lib.hid (Fr.trans0 (by (repeat first|exact Fr.refl _ _|assumption|apply Fr.n|apply Fr.d|apply Fr.a|refine Fr.s ?_ (.inr (by simp;try omega)) _):Fr [] W _) (Hf1.out.trans0 (Fr.trans0 (by (repeat first|exact Fr.refl _ _|assumption|apply Fr.n|apply Fr.d|apply Fr.a|refine Fr.s ?_ (.inr (by simp;try omega)) _)) hf9)))
  clear hf9
  go_wp2
  go_ret
  exact⟨rfl,Hf9.out⟩
 obtain⟨hlen,hg⟩:=hok
 have Hok:=Lib.hid (And.intro hlen hg)
 obtain⟨⟨g1,g2⟩,hG⟩:∃ r,getQ s ns node nx dx ny dy=r:=⟨_,rfl⟩
 obtain⟨P,hP⟩:∃ r,popQ s ns node=r:=⟨_,rfl⟩
 obtain⟨K,hK⟩:∃ r,knownQ s ns node=r:=⟨_,rfl⟩
 have HGG:=Lib.hid hG
 have HPP:=Lib.hid hP
 have HKK:=Lib.hid hK
 have HGD:=Lib.hid hg
 have hi1:(g1 == g1)=true:=by simp
 have hi2:(g2 == g2)=true:=by simp
 have hi3:(K == K)=true:=by simp
 clear hlen hg hG hP hK
 go_enter Tryz.func3,Tryz.ntmps3
 go_wp2_with fail
 refine (HLD.out _ (by (repeat first|exact Fr.refl _ _|assumption|apply Fr.n|apply Fr.d|apply Fr.a|refine Fr.s ?_ (.inr (by simp;try omega)) _))).mono ?_
 rintro e w1 ⟨h1,_⟩
 obtain⟨b,r,rfl,h9⟩:=h1 Hok.out
 (try clear x0 x1 x2 x3 x4 x5 x6 x7 xl Hx)
 have hx_:=(h9.fr.block (W.heap.size) (by first|(simp;done)|(simp;omega)) (by simp)).trans (show _=some (.cells #[.int .i64 s,.slice a ns.length c,.int .i64 node,.bool nx,.slice ax dx.length cx,.bool ny,.slice ay dy.length cy,.int .i64 st] 29 (0,0)) by (repeat first|rw [if_pos (by omega)]|rw [if_neg (by omega)]|rw [hDR]|rw [hDN]|rw [hAz]|rw [hSz]|rw [hAC]|rw [hSC]|rw [oMS]|rw [uPC]|rw [lSZ]|rw [lSS]|rfl))
 have x0:=hEC hx_ 0
 have x1:=hEC hx_ 1
 have x2:=hEC hx_ 2
 have x3:=hEC hx_ 3
 have x4:=hEC hx_ 4
 have x5:=hEC hx_ 5
 have x6:=hEC hx_ 6
 have x7:=hEC hx_ 7
 have xl:=lBk hx_
 have Hx:=Lib.hid hx_
 clear hx_
 have H1:=Lib.hid h9
 clear h1 h9
 go_wp2_with fail
 refine (Get_q H1.out node (HX.out.fr (Fr.trans0 (by (repeat first|exact Fr.refl _ _|assumption|apply Fr.n|apply Fr.d|apply Fr.a|refine Fr.s ?_ (.inr (by simp;try omega)) _)) H1.out.fr)) (HY.out.fr (Fr.trans0 (by (repeat first|exact Fr.refl _ _|assumption|apply Fr.n|apply Fr.d|apply Fr.a|refine Fr.s ?_ (.inr (by simp;try omega)) _)) H1.out.fr))).mono ?_
 rw [HGG.out]
 rintro e w2 ⟨rfl,h9,_⟩
 (try clear x0 x1 x2 x3 x4 x5 x6 x7 xl Hx)
 have hx_:=(h9.fr.block (W.heap.size) (by first|(simp;done)|(simp;omega)) (by simp)).trans (show _=some (.cells #[.int .i64 s,.slice a ns.length c,.int .i64 node,.bool nx,.slice ax dx.length cx,.bool ny,.slice ay dy.length cy,.int .i64 st] 29 (0,0)) by (repeat first|rw [if_pos (by omega)]|rw [if_neg (by omega)]|rw [hDR]|rw [hDN]|rw [hAz]|rw [hSz]|rw [hAC]|rw [hSC]|rw [oMS]|rw [uPC]|rw [lSZ]|rw [lSS]|rfl))
 have x0:=hEC hx_ 0
 have x1:=hEC hx_ 1
 have x2:=hEC hx_ 2
 have x3:=hEC hx_ 3
 have x4:=hEC hx_ 4
 have x5:=hEC hx_ 5
 have x6:=hEC hx_ 6
 have x7:=hEC hx_ 7
 have xl:=lBk hx_
 have Hx:=Lib.hid hx_
 clear hx_
 have H2:=Lib.hid h9.swap
 clear h9 H1
 go_wp2_with fail
 refine (RGet_q H2.out node (HX.out.fr (Fr.trans0 (by (repeat first|exact Fr.refl _ _|assumption|apply Fr.n|apply Fr.d|apply Fr.a|refine Fr.s ?_ (.inr (by simp;try omega)) _)) H2.out.fr)) (HY.out.fr (Fr.trans0 (by (repeat first|exact Fr.refl _ _|assumption|apply Fr.n|apply Fr.d|apply Fr.a|refine Fr.s ?_ (.inr (by simp;try omega)) _)) H2.out.fr))).mono ?_
 rw [HGG.out]
 rintro e w3 ⟨rfl,hf⟩
 have h9:=H2.out.step hf
 (try clear x0 x1 x2 x3 x4 x5 x6 x7 xl Hx)
 have hx_:=(h9.fr.block (W.heap.size) (by first|(simp;done)|(simp;omega)) (by simp)).trans (show _=some (.cells #[.int .i64 s,.slice a ns.length c,.int .i64 node,.bool nx,.slice ax dx.length cx,.bool ny,.slice ay dy.length cy,.int .i64 st] 29 (0,0)) by (repeat first|rw [if_pos (by omega)]|rw [if_neg (by omega)]|rw [hDR]|rw [hDN]|rw [hAz]|rw [hSz]|rw [hAC]|rw [hSC]|rw [oMS]|rw [uPC]|rw [lSZ]|rw [lSS]|rfl))
 have x0:=hEC hx_ 0
 have x1:=hEC hx_ 1
 have x2:=hEC hx_ 2
 have x3:=hEC hx_ 3
 have x4:=hEC hx_ 4
 have x5:=hEC hx_ 5
 have x6:=hEC hx_ 6
 have x7:=hEC hx_ 7
 have xl:=lBk hx_
 have Hx:=Lib.hid hx_
 clear hx_
 have H3:=Lib.hid h9.swap
 clear h9 H2 hf
 go_wp2_with fail
 refine (Population_q H3.out node).mono ?_
 rw [HPP.out,HKK.out]
 rintro e w4 ⟨ac,cc,rfl,h9⟩
 simp only [bvV]
 (try clear x0 x1 x2 x3 x4 x5 x6 x7 xl Hx)
 have hx_:=(h9.fr.block (W.heap.size) (by first|(simp;done)|(simp;omega)) (by simp)).trans (show _=some (.cells #[.int .i64 s,.slice a ns.length c,.int .i64 node,.bool nx,.slice ax dx.length cx,.bool ny,.slice ay dy.length cy,.int .i64 st] 29 (0,0)) by (repeat first|rw [if_pos (by omega)]|rw [if_neg (by omega)]|rw [hDR]|rw [hDN]|rw [hAz]|rw [hSz]|rw [hAC]|rw [hSC]|rw [oMS]|rw [uPC]|rw [lSZ]|rw [lSS]|rfl))
 have x0:=hEC hx_ 0
 have x1:=hEC hx_ 1
 have x2:=hEC hx_ 2
 have x3:=hEC hx_ 3
 have x4:=hEC hx_ 4
 have x5:=hEC hx_ 5
 have x6:=hEC hx_ 6
 have x7:=hEC hx_ 7
 have xl:=lBk hx_
 have Hx:=Lib.hid hx_
 clear hx_
 have h9:=hAL h9 #[.bool false,.slice ac (zd (P:Int)).length cc] 27
 have h9:=h9.ord 4 [3,0,1,2]
 simp only [List.filterMap_cons,List.filterMap_nil,List.getElem?_cons_zero,List.getElem?_cons_succ,List.drop_succ_cons,List.drop_zero,List.cons_append,List.nil_append,List.take_succ_cons,List.take_zero,List.eraseIdx_cons_succ,List.eraseIdx_zero,List.eraseIdx_cons_zero,List.tail_cons,Option.toList_some] at h9
 have H4:=Lib.hid h9
 clear h9 H3
 go_wp2_with fail
 refine (RPopulation_q H4.out node).mono ?_
 rw [HPP.out,HKK.out]
 rintro e w5 ⟨ad,cd,rfl,h9⟩
 simp only [bvV]
 obtain⟨cb,hcb⟩:∃ b,w4.heap.size=b:=⟨_,rfl⟩
 rw [hcb] at h9 ⊢
 (try clear x0 x1 x2 x3 x4 x5 x6 x7 xl Hx)
 have hx_:=(h9.fr.block (W.heap.size) (by first|(simp;done)|(simp;omega)) (by simp)).trans (show _=some (.cells #[.int .i64 s,.slice a ns.length c,.int .i64 node,.bool nx,.slice ax dx.length cx,.bool ny,.slice ay dy.length cy,.int .i64 st] 29 (0,0)) by (repeat first|rw [if_pos (by omega)]|rw [if_neg (by omega)]|rw [hDR]|rw [hDN]|rw [hAz]|rw [hSz]|rw [hAC]|rw [hSC]|rw [oMS]|rw [uPC]|rw [lSZ]|rw [lSS]|rfl))
 have x0:=hEC hx_ 0
 have x1:=hEC hx_ 1
 have x2:=hEC hx_ 2
 have x3:=hEC hx_ 3
 have x4:=hEC hx_ 4
 have x5:=hEC hx_ 5
 have x6:=hEC hx_ 6
 have x7:=hEC hx_ 7
 have xl:=lBk hx_
 have Hx:=Lib.hid hx_
 clear hx_
 have h9:=hAL h9 #[.bool false,.slice ad (zd (P:Int)).length cd] 27
 have h9:=h9.ord 6 [4,0,1,2,3,5]
 simp only [List.filterMap_cons,List.filterMap_nil,List.getElem?_cons_zero,List.getElem?_cons_succ,List.drop_succ_cons,List.drop_zero,List.cons_append,List.nil_append,List.take_succ_cons,List.take_zero,List.eraseIdx_cons_succ,List.eraseIdx_zero,List.eraseIdx_cons_zero,List.tail_cons,Option.toList_some] at h9
 have H5:=Lib.hid h9
 clear h9 H4 hcb
 go_wp2_with fail
 refine (Bounds_q H5.out node).mono ?_
 rintro e w6 ⟨⟨ok,f0,f1,f2,f3⟩,L,he6,h9,hfo,hin⟩
 rw [HKK.out] at he6
 subst he6
 simp only [lcells]
 obtain⟨db,hdb⟩:∃ b,w5.heap.size=b:=⟨_,rfl⟩
 rw [hdb] at h9 ⊢
 (try clear x0 x1 x2 x3 x4 x5 x6 x7 xl Hx)
 have hx_:=(h9.fr.block (W.heap.size) (by first|(simp;done)|(simp;omega)) (by simp)).trans (show _=some (.cells #[.int .i64 s,.slice a ns.length c,.int .i64 node,.bool nx,.slice ax dx.length cx,.bool ny,.slice ay dy.length cy,.int .i64 st] 29 (0,0)) by (repeat first|rw [if_pos (by omega)]|rw [if_neg (by omega)]|rw [hDR]|rw [hDN]|rw [hAz]|rw [hSz]|rw [hAC]|rw [hSC]|rw [oMS]|rw [uPC]|rw [lSZ]|rw [lSS]|rfl))
 have x0:=hEC hx_ 0
 have x1:=hEC hx_ 1
 have x2:=hEC hx_ 2
 have x3:=hEC hx_ 3
 have x4:=hEC hx_ 4
 have x5:=hEC hx_ 5
 have x6:=hEC hx_ 6
 have x7:=hEC hx_ 7
 have xl:=lBk hx_
 have Hx:=Lib.hid hx_
 clear hx_
 have h9:=hAL h9 (lcells (ok,f0,f1,f2,f3)) 42
 have h9:=h9.ord 8 [4,0,1,2,3,5,6,7]
 simp only [List.filterMap_cons,List.filterMap_nil,List.getElem?_cons_zero,List.getElem?_cons_succ,List.drop_succ_cons,List.drop_zero,List.cons_append,List.nil_append,List.take_succ_cons,List.take_zero,List.eraseIdx_cons_succ,List.eraseIdx_zero,List.eraseIdx_cons_zero,List.tail_cons,Option.toList_some] at h9
 simp only [lcells] at h9
 have H6:=Lib.hid h9
 have HF6:=Lib.hid (And.intro hfo hin)
 clear h9 H5 hdb hfo hin
 go_wp2_with fail
 refine (RBounds_q H6.out node).mono ?_
 rintro e w7 ⟨⟨ok2,u0,u1,u2,u3⟩,L2,he7,h9,hfo,hin⟩
 rw [HKK.out] at he7
 subst he7
 simp only [lcells]
 obtain⟨lb,hlb⟩:∃ b,w6.heap.size=b:=⟨_,rfl⟩
 rw [hlb] at h9 ⊢
 obtain rfl:ok=ok2:=(frok_same HF6.out.1 hfo).2
 have HS:=Lib.hid (frok_same HF6.out.1 hfo).1
 have h9:=hAL h9 (lcells (ok,u0,u1,u2,u3)) 42
 simp only [lcells] at h9
 obtain⟨mb,hmb⟩:∃ b,w7.heap.size=b:=⟨_,rfl⟩
 have H7:=Lib.hid h9
 have HF7:=Lib.hid (And.intro hfo hin)
 have hb:=(h9.ord 9 [8]).blk
 have c0:=hEC hb 0
 have c1:=hEC hb 1
 have cl:=lBk hb
 have hb:=(h9.ord 7 [6]).blk
 have d0:=hEC hb 0
 have d1:=hEC hb 1
 have dl:=lBk hb
 have HEQ:=Lib.hid (fun w1 (hf:Fr [] _ w1)=>equal_n (w:=w1) (x:=(P,ac,cc)) (y:=(P,ad,cd)) (big_mem9 (a:=ac) (c:=cc) (neg:=false) (ds:=zd (P:Int)) (h9.step hf) (by simp)) (big_mem9 (a:=ad) (c:=cd) (neg:=false) (ds:=zd (P:Int)) (h9.step hf) (by simp)) (by rw [← HPP.out];exact popq_zok HGD.out))
 simp only [bvV] at HEQ
 have HZ1:=Lib.hid (frq_zok HGD.out HF6.out.1)
 have HZ2:=Lib.hid (frq_zok HGD.out hfo)
 (try clear x0 x1 x2 x3 x4 x5 x6 x7 xl Hx)
 clear hb hfo hin h9 H6 hlb hmb
 go_wp2_with fail
 refine (HEQ.out _ (by (repeat first|exact Fr.refl _ _|assumption|apply Fr.n|apply Fr.d|apply Fr.a|refine Fr.s ?_ (.inr (by simp;try omega)) _))).mono ?_
 rintro e w8 ⟨he,hf8⟩
 obtain rfl:e=.returned (.bool true):=by rw [he];simp
 have h9:=H7.out.step (Fr.trans0 (by (repeat first|exact Fr.refl _ _|assumption|apply Fr.n|apply Fr.d|apply Fr.a|refine Fr.s ?_ (.inr (by simp;try omega)) _)) hf8)
 clear c0 c1 cl d0 d1 dl he hf8 H7
 have hb:=(h9.ord 4 [3]).blk
 have c0:=hEC hb 0
 have c1:=hEC hb 1
 have c2:=hEC hb 2
 have c3:=hEC hb 3
 have c4:=hEC hb 4
 have c5:=hEC hb 5
 have c6:=hEC hb 6
 have c7:=hEC hb 7
 have cl:=lBk hb
 have hb:=h9.blk
 have d0:=hEC hb 0
 have d1:=hEC hb 1
 have d2:=hEC hb 2
 have d3:=hEC hb 3
 have d4:=hEC hb 4
 have d5:=hEC hb 5
 have d6:=hEC hb 6
 have d7:=hEC hb 7
 have dl:=lBk hb
 have HSM:=Lib.hid (fun w1 (hf:Fr [] w8 w1)=>same_q (w:=w1) (f:=(ok,f0,f1,f2,f3)) (g:=(ok,u0,u1,u2,u3)) (four_of (L:=L) (h9.step hf) (by simp) HF6.out.2 HZ1.out) (four_of (L:=L2) (h9.step hf) (by simp) HF7.out.2 HZ2.out))
 simp only [lcells] at HSM
 have H8:=Lib.hid h9
 clear hb h9
 go_wp2_with fail
 refine (HSM.out _ (by (repeat first|exact Fr.refl _ _|assumption|apply Fr.n|apply Fr.d|apply Fr.a|refine Fr.s ?_ (.inr (by simp;try omega)) _))).mono ?_
 rintro e w9 ⟨he,hf9⟩
 obtain rfl:e=.returned (.bool true):=by rw [he,HS.out]
 have H9:=Lib.hid (H8.out.step (Fr.trans0 (by (repeat first|exact Fr.refl _ _|assumption|apply Fr.n|apply Fr.d|apply Fr.a|refine Fr.s ?_ (.inr (by simp;try omega)) _)) hf9))
 have hok:(ok == ok)=true:=by simp
 clear c0 c1 c2 c3 c4 c5 c6 c7 cl d0 d1 d2 d3 d4 d5 d6 d7 dl he hf9 H8 HSM HEQ
 go_wp2_with fail
 refine (awake_q _).mono ?_
 rintro e w9 ⟨rfl,hf9⟩
 have Hf9:=Lib.hid (Fr.trans0 (by (repeat first|exact Fr.refl _ _|assumption|apply Fr.n|apply Fr.d|apply Fr.a|refine Fr.s ?_ (.inr (by simp;try omega)) _):Fr [] W _) (H9.out.fr.trans0 (Fr.trans0 (by (repeat first|exact Fr.refl _ _|assumption|apply Fr.n|apply Fr.d|apply Fr.a|refine Fr.s ?_ (.inr (by simp;try omega)) _)) hf9)))
 clear hf9
 go_wp2
 go_ret
 exact⟨rfl,Hf9.out⟩
end Go.Proofs.YtdanghnadbkhfaaGreat
end
section
namespace Go.Proofs.Lw
open Go Go.ChangeShapes Go.WideShapes Go.ChangeAt Go.RowKit Hp
theorem args_stay {H:Type} {enc:TypeId×Value→H} {P:Program} (hl:laidOutB P=true) {W W':World} (hb:Below W.heap.size W W') :
  ∀ {ts:List TypeId} {vs:List Value} {ds:List (DataW H)} {ps:List MemPlace},ts.all (fun t=>P.readableRec t && decide (t<P.types.size))=true→DataW.TrodAll enc P W 0 (fun _=>true) true ts vs ds ps →
   (∀ x∈ps,x.block<W.heap.size)→DataW.TrodAll enc P W' 0 (fun b=>decide (b<W.heap.size)) true ts vs ds ps:=by
 intro ts
 induction ts with
 | nil=>intro vs ds ps _ h _;obtain⟨rfl,rfl,rfl⟩:=trodAll_nil h;exact trodAll_mk0
 | cons t ts ih =>
  intro vs ds ps hok h hlt
  obtain⟨v,vs1,d,ds1,p,q,rfl,rfl,rfl,h1,h2⟩:=trodAll_cons h
  simp only [List.all_cons,Bool.and_eq_true,decide_eq_true_eq] at hok
  exact trodAll_cons_mk (Below.trod hl hok.1.1 hok.1.2 h1 hb fun x hx=>hlt x (List.mem_append_left _ hx)) (ih (by simpa only [List.all_eq_true,Bool.and_eq_true,decide_eq_true_eq] using hok.2) h2 fun x hx=>hlt x (List.mem_append_right _ hx))
theorem law_post {H:Type} {enc:TypeId×Value→H} {P:Program} (hl:laidOutB P=true) {f:Func} {s:ChangeSpec} {ts:List TypeId} {tb:TypeId} (hf:f.params.toList=ts) (hr:f.resultTypes=#[tb])
  (hb:P.underlying tb=some .bool) (hv:s.vars=[]) (hok:ts.all (fun t=>P.readableRec t && decide (t<P.types.size))=true)
  (hfn:∀ ds:List (DataW H),ds.length=ts.length→s.fn H ds={ results:=[.lit (.bool true)],args:=ds }) {W W':World} {args:Array Value} {ds gs:List (DataW H)} {before:List MemPlace}
  (hW:DataW.Whole enc P f.params.toList s.vars false W args.toList ds gs before) (hB:Fr [] W W'):s.post enc P f false true false false W args (.bool true) W':=by
 have hW':=hW
 obtain⟨p,q,hA,hV,rfl,hfz,hnd⟩:=hW
 rw [hf] at hA
 rw [hv] at hV
 obtain⟨rfl,rfl⟩:=trodVars_none hV
 have hlen:∀ {ts:List TypeId} {vs:List Value} {ds:List (DataW H)} {ps:List MemPlace},DataW.TrodAll enc P W 0 (fun _=>true) true ts vs ds ps→ds.length=ts.length:=by
  intro ts
  induction ts with
  | nil=>intro vs ds ps h;obtain⟨rfl,rfl,rfl⟩:=trodAll_nil h;rfl
  | cons t ts ih=>intro vs ds ps h;obtain⟨v,vs1,d,ds1,p,q,rfl,rfl,rfl,h1,h2⟩:=trodAll_cons h;simp [ih h2]
 have e:=hfn (ds++[]) (by simpa using hlen hA)
 refine⟨ds,[],p++[],[],p,[],hW',?_,?_,?_,hB.below.frame _ |> World.keptBut_mono (w:=W) (w':=W') (fun x hx=>hx),fun h=>by cases h⟩
 ·rw [e,hr]
  exact trodAll_mk1 (shut_bool hb true)
 ·rw [e,hf,List.append_nil]
  exact args_stay hl hB.below hok hA fun x hx=>by simpa using hW'.lt x (by simpa using hx)
 ·rw [e,hv]
  exact rfl
theorem open_rows {H:Type} {enc:TypeId×Value→H} {P:Program} {W:World} {t e:TypeId} {sz fuel n c:Nat} {a:Option Addr} {x:DataW H×List MemPlace} (ht:P.underlying t=some (.slice e)) (hsz:P.cellsOf e=sz) (hpos:0<sz)
  (h:DataW.trod enc P W 0 (fun _=>true) true fuel t [.slice a n c]=some x) :
  n≤c∧c≤maxLen∧∃ xs:List (List Value),xs.length=n∧(∀ cs'∈xs,cs'.length=sz∧∃ fuel y,DataW.trod enc P W 0 (fun _=>true) true fuel e cs'=some y) ∧
   (a=none→n=0∧c=0)∧(0<n→∃ g off,a=some ⟨g,off,none⟩∧g<W.heap.size∧∀ j u,xs.flatten[j]?=some u→W.cell? ⟨g,off+j,none⟩=some u):=by
 rcases Go.Deep.open_slice ht h with ⟨h0,_⟩|⟨ad,len,cap,m,k,D,Pl,hcs,_,hlc,hcm,hm,_,hx⟩
 ·simp only [List.cons.injEq,Value.slice.injEq,and_true] at h0
  obtain⟨rfl,rfl,rfl⟩:=h0
  exact⟨Nat.le_refl _,Nat.zero_le _,[],rfl,by simp,by simp,by omega⟩
 ·simp only [List.cons.injEq,Value.slice.injEq,and_true] at hcs
  obtain⟨rfl,rfl,rfl⟩:=hcs
  simp only [if_true] at hm
  subst hm
  rw [hsz] at hx
  obtain⟨C,hC⟩:=Go.Deep.choose_lt (α:=List Value) (n:=m) (p:=fun i cs'=>W.cells? 0 (ad.add (i*sz)) sz=some cs'∧DataW.trod enc P W 0 (fun _=>true) true k e cs'=some (D i,Pl i)) hx
  have hlen:∀ i,i<n→(C i).length=sz:=fun i hi=>(World.cells?_some (hC i (by omega)).1).2.1
  refine⟨hlc,hcm,(List.range n).map C,by simp,?_,by simp,?_⟩
  ·intro cs' hm'
   obtain⟨i,hi,rfl⟩:=List.mem_map.1 hm'
   have hi':=List.mem_range.1 hi
   exact⟨hlen i hi',k,_,(hC i (by omega)).2⟩
  ·intro hn
   have h0:=(hC 0 (by omega)).1
   have hblock:=World.cells?_block h0 hpos
   obtain⟨g,off,spot⟩:=ad
   have hsp:spot=none:=by
    have hl0:=(World.cells?_some h0).2.1
    have hc0:=(World.cells?_some h0).2.2 0 (by omega)
    rw [List.getElem?_eq_getElem (by omega)] at hc0
    simpa [Addr.add] using World.cell?_spot hc0
   subst hsp
   refine⟨g,off,rfl,by simpa [Addr.add] using hblock,?_⟩
   have key:∀ k,k≤n→∀ j u,((List.range k).map C).flatten[j]?=some u→W.cell? ⟨g,off+j,none⟩=some u:=by
    intro k
    induction k with
    | zero=>intro _ j u hj;simp at hj
    | succ k ih =>
     intro hk j u hj
     have hfl:∀ q,q≤n→((List.range q).map C).flatten.length=q*sz:=by
      intro q
      induction q with
      | zero=>intro _;simp
      | succ q iq=>intro hq;rw [List.range_succ,List.map_append,List.flatten_append,List.length_append,iq (by omega)];simp [hlen q (by omega),Nat.succ_mul]
     rw [List.range_succ,List.map_append,List.flatten_append] at hj
     rcases Nat.lt_or_ge j (k*sz) with h1|h1
     ·rw [List.getElem?_append_left (by rw [hfl k (by omega)];exact h1)] at hj
      exact ih (by omega) j u hj
     ·rw [List.getElem?_append_right (by rw [hfl k (by omega)];exact h1),hfl k (by omega)] at hj
      simp only [List.map_cons,List.map_nil,List.flatten_cons,List.flatten_nil,List.append_nil] at hj
      have hjl:=(List.getElem?_eq_some_iff.1 hj).1
      rw [hlen k (by omega)] at hjl
      have:=(World.cells?_some (hC k (by omega)).1).2.2 (j - k*sz) (by omega)
      rw [hj,add_plain,add_plain] at this
      rw [show off+j=off+k*sz+(j - k*sz) by omega]
      exact this
   exact key n (Nat.le_refl _)
theorem map_of_all {α β:Type} {f:β→α}:∀ {xs:List α},(∀ x∈xs,∃ k,x=f k)→∃ ks:List β,xs=ks.map f
 | [],_=>⟨[],rfl⟩
 | x::xs,h=>by
  obtain⟨k,rfl⟩:=h x (by simp)
  obtain⟨ks,rfl⟩:=map_of_all (xs:=xs) fun y hy=>h y (by simp [hy])
  exact⟨k::ks,rfl⟩
end Go.Proofs.Lw
end
section
namespace Go.Proofs.YtdanghnadbkhfaaGreat
open Go Go.ChangeShapes Go.WideShapes Go.ChangeAt Go.RowKit Hp Lw Bn
theorem flat_u32s (L:List Nat):(L.map (fun (k:Nat)=>[Value.int .u32 k])).flatten=u32s L:=by
 induction L with
 | nil=>rfl
 | cons x L ih=>rw [List.map_cons,List.flatten_cons,ih];rfl
end Go.Proofs.YtdanghnadbkhfaaGreat
end
section
namespace Go.Proofs.YtdanghnadbkhfaaGreat
open Go Go.ChangeShapes Go.WideShapes Go.RowKit Hp Qs Lw
set_option maxRecDepth 100000
theorem open_quad {H:Type} {enc:TypeId×Value→H} {W:World} {fuel:Nat} {cs:List Value} {x:DataW H×List MemPlace} (h:DataW.trod enc Tryz.prog W 0 (fun _=>true) true fuel 105 cs=some x) :
  ∃ k:K4,cs=[.int .i64 k.a,.int .i64 k.b,.int .i64 k.c,.int .i64 k.d]:=by
 obtain⟨xs,n,rfl,rfl,hl,hn,hf⟩:=DataW.trod_struct Tryz.underlying105 h
 have hl4:cs.length=4:=hl.trans (by kernel_rfl)
 have h0:=hf 0 _ rfl
 have hx0:xs.length=1:=hn
 rw [List.getElem?_eq_getElem (by omega)] at h0
 have hc4:Tryz.prog.cellsOf 81=4:=by kernel_rfl
 have hc1:Tryz.prog.cellsOf 3=1:=by kernel_rfl
 change DataW.trod enc Tryz.prog W 0 (fun _=>true) true n 81 ((cs.drop 0).take (Tryz.prog.cellsOf 81))=some _ at h0
 rw [hc4,List.drop_zero,List.take_of_length_le (by omega)] at h0
 obtain⟨ys,m,rfl,_,_,hy,hg⟩:=DataW.trod_array Tryz.underlying81 h0
 rw [hc1] at hg
 have hi:∀ i,i<4→∃ z,(cs.drop i).take 1=[.int .i64 z]:=fun i hi=>by
  have:=hg i hi
  rw [List.getElem?_eq_getElem (by omega),Nat.mul_one] at this
  obtain⟨z,hz,_⟩:=DataW.trod_int Tryz.underlying3 this
  exact⟨z,hz⟩
 match cs,hl4 with
 | [c0,c1,c2,c3],_ =>
  obtain⟨a,ha⟩:=hi 0 (by omega)
  obtain⟨b,hb⟩:=hi 1 (by omega)
  obtain⟨c,hc⟩:=hi 2 (by omega)
  obtain⟨d,hd⟩:=hi 3 (by omega)
  simp at ha hb hc hd
  exact⟨⟨a,b,c,d⟩,by rw [ha,hb,hc,hd]⟩
theorem flat_map (ns:List K4):(ns.map fun k:K4=>[Value.int .i64 k.a,.int .i64 k.b,.int .i64 k.c,.int .i64 k.d]).flatten=flat ns:=by
 rw [flat,List.flatMap_def]
end Go.Proofs.YtdanghnadbkhfaaGreat
end
section
namespace Go.Proofs.YtdanghnadbkhfaaGreat
open Go Go.ChangeShapes Go.WideShapes Go.ChangeAt Go.RowKit Hp Lw Qs Bn
set_option maxRecDepth 100000
theorem cells_big {H:Type} {enc:TypeId×Value→H} {W:World} {fuel:Nat} {c0 c1:Value} {x:DataW H×List MemPlace}
  (hf:DataW.trod enc Tryz.prog W 0 (fun _=>true) true fuel 27 [c0,c1]=some x) :
  ∃ (neg:Bool) (a:Option Addr) (c:Nat) (L:List Nat),c0=.bool neg∧c1=.slice a L.length c∧BigIn W neg L a c:=by
 obtain⟨xs,n,rfl,_,_,hn,hf⟩:=DataW.trod_struct Tryz.underlying27 hf
 have hc1:Tryz.prog.cellsOf 4=1:=by kernel_rfl
 have hc2:Tryz.prog.cellsOf 25=1:=by kernel_rfl
 have hx2:xs.length=2:=hn
 have h0:=hf 0 _ rfl
 have h1:=hf 1 _ rfl
 rw [List.getElem?_eq_getElem (by omega)] at h0 h1
 change DataW.trod enc Tryz.prog W 0 (fun _=>true) true n 4 (([c0,c1].drop 0).take (Tryz.prog.cellsOf 4))=some _ at h0
 change DataW.trod enc Tryz.prog W 0 (fun _=>true) true n 25 (([c0,c1].drop 1).take (Tryz.prog.cellsOf 25))=some _ at h1
 rw [hc1] at h0
 rw [hc2] at h1
 simp only [List.drop_zero,List.drop_succ_cons,List.take_succ_cons,List.take_zero] at h0 h1
 obtain⟨s,hs,_⟩:=DataW.trod_bool Tryz.underlying4 h0
 simp only [List.cons.injEq,and_true] at hs
 subst hs
 have hform:∃ a n c,c1=.slice a n c:=by
  rcases DataW.trod_slice Tryz.underlying25 h1 with ⟨h,_⟩|⟨a,len,cap,_,_,_,_,h,_⟩
  ·simp only [List.cons.injEq,and_true] at h;exact⟨_,_,_,h⟩
  ·simp only [List.cons.injEq,and_true] at h;exact⟨_,_,_,h⟩
 obtain⟨a,len,c,rfl⟩:=hform
 obtain⟨hlc,hcm,xs,hxl,hxs,hnone,hcell⟩:=open_rows Tryz.underlying25 (sz:=1) (by kernel_rfl) (by omega) h1
 obtain⟨L,hL,hLx⟩:∃ L:List Nat,xs=L.map (fun (k:Nat)=>[Value.int .u32 k])∧∀ x∈L,x<4294967296:=by
  have key:∀ ys:List (List Value),(∀ y∈ys,y∈xs)→∃ L:List Nat,ys=L.map (fun (k:Nat)=>[Value.int .u32 k])∧∀ x∈L,x<4294967296:=by
   intro ys
   induction ys with
   | nil=>intro _;exact⟨[],rfl,by simp⟩
   | cons y ys ih =>
    intro hy
    obtain⟨L,rfl,hL⟩:=ih fun z hz=>hy z (by simp [hz])
    obtain⟨_,fuel,q,hq⟩:=hxs y (hy y (by simp))
    obtain⟨z,hz,_,hwf⟩:=DataW.trod_int Tryz.underlying106 hq
    have hb:0≤z∧z≤4294967295:=by simpa [Lit.wf,IntKind.min,IntKind.max,IntKind.signed,IntKind.bits] using hwf
    refine⟨z.toNat::L,?_,?_⟩
    ·rw [hz]
     show [Value.int .u32 z]::_=[Value.int .u32 ((z.toNat:Nat):Int)]::_
     rw [Int.toNat_of_nonneg hb.1]
    ·intro x hx
     rw [List.mem_cons] at hx
     rcases hx with rfl|hx
     ·omega
     ·exact hL x hx
  exact key xs fun _ h=>h
 subst hL
 obtain rfl:L.length=len:=by simpa using hxl
 have hfl:=flat_u32s L
 rw [hfl] at hcell
 exact⟨s,a,c,L,rfl,rfl,⟨by simp [u32s],a,c,rfl,hcell⟩,hLx,hlc,Nat.le_trans hlc hcm⟩
theorem cells_quads {H:Type} {enc:TypeId×Value→H} {W:World} {fuel:Nat} {c0 c1:Value} {x:DataW H×List MemPlace}
  (hf:DataW.trod enc Tryz.prog W 0 (fun _=>true) true fuel 24 [c0,c1]=some x) :
  ∃ s a c ns,c0=.int .i64 s∧c1=.slice a ns.length c∧Reads W (.slice a ns.length c) ns.length 4 (flat ns):=by
 obtain⟨xs,n,rfl,_,_,hn,hf⟩:=DataW.trod_struct Tryz.underlying24 hf
 have hc1:Tryz.prog.cellsOf 3=1:=by kernel_rfl
 have hc2:Tryz.prog.cellsOf 22=1:=by kernel_rfl
 have hx2:xs.length=2:=hn
 have h0:=hf 0 _ rfl
 have h1:=hf 1 _ rfl
 rw [List.getElem?_eq_getElem (by omega)] at h0 h1
 change DataW.trod enc Tryz.prog W 0 (fun _=>true) true n 3 (([c0,c1].drop 0).take (Tryz.prog.cellsOf 3))=some _ at h0
 change DataW.trod enc Tryz.prog W 0 (fun _=>true) true n 22 (([c0,c1].drop 1).take (Tryz.prog.cellsOf 22))=some _ at h1
 rw [hc1] at h0
 rw [hc2] at h1
 simp only [List.drop_zero,List.drop_succ_cons,List.take_succ_cons,List.take_zero] at h0 h1
 obtain⟨s,hs,_⟩:=DataW.trod_int Tryz.underlying3 h0
 simp only [List.cons.injEq,and_true] at hs
 subst hs
 have hform:∃ a n c,c1=.slice a n c:=by
  rcases DataW.trod_slice Tryz.underlying22 h1 with ⟨h,_⟩|⟨a,len,cap,_,_,_,_,h,_⟩
  ·simp only [List.cons.injEq,and_true] at h;exact⟨_,_,_,h⟩
  ·simp only [List.cons.injEq,and_true] at h;exact⟨_,_,_,h⟩
 obtain⟨a,len,c,rfl⟩:=hform
 obtain⟨_,_,xs,hxl,hxs,_,hcell⟩:=open_rows Tryz.underlying22 (sz:=4) (by kernel_rfl) (by omega) h1
 obtain⟨ns,rfl⟩:=map_of_all (f:=fun k:K4=>[Value.int .i64 k.a,.int .i64 k.b,.int .i64 k.c,.int .i64 k.d]) fun x hx=>by
  obtain⟨_,fuel,y,hy⟩:=hxs x hx
  exact open_quad hy
 obtain rfl:ns.length=len:=by simpa using hxl
 rw [flat_map] at hcell
 exact⟨s,a,c,ns,rfl,rfl,flat_length ns,a,c,rfl,hcell⟩
theorem open_square {H:Type} {enc:TypeId×Value→H} {W:World} {base:Nat} {v:Value} {d:DataW H} {ps:List MemPlace} (hval:Value.okWide Tryz.prog W .any base 29 v)
  (h:DataW.Trod enc Tryz.prog W 0 (fun _=>true) true 29 v d ps) :
  ∃ s a c ns node nx ax cx dx ny ay cy dy st,v=.agg #[.int .i64 s,.slice a (List.length ns) c,.int .i64 node,.bool nx,.slice ax (List.length dx) cx,.bool ny,.slice ay (List.length dy) cy,.int .i64 st]∧Reads W (.slice a ns.length c) ns.length 4 (flat ns)∧BigIn W nx dx ax cx∧BigIn W ny dy ay cy:=by
 obtain⟨cs,rfl,hsz⟩:=okWide_struct Tryz.underlying29 hval
 have hs8:cs.size=8:=hsz.trans (by kernel_rfl)
 obtain⟨fuel,hf⟩:=h
 obtain⟨xs,n,rfl,_,_,hn,hf⟩:=DataW.trod_struct Tryz.underlying29 hf
 obtain⟨c0,c1,c2,c3,c4,c5,c6,c7,rfl⟩:∃ c0 c1 c2 c3 c4 c5 c6 c7,cs=#[c0,c1,c2,c3,c4,c5,c6,c7]:=⟨cs[0],cs[1],cs[2],cs[3],cs[4],cs[5],cs[6],cs[7],by apply Array.ext<;>simp [hs8];intro i hi;match i,hi with|0,_=>intro _;rfl|1,_=>intro _;rfl|2,_=>intro _;rfl|3,_=>intro _;rfl|4,_=>intro _;rfl|5,_=>intro _;rfl|6,_=>intro _;rfl|7,_=>intro _;rfl⟩
 have k0:Tryz.prog.cellsOf 24=2:=by kernel_rfl
 have k1:Tryz.prog.cellsOf 3=1:=by kernel_rfl
 have k2:Tryz.prog.cellsOf 27=2:=by kernel_rfl
 have hx5:xs.length=5:=hn
 have h0:=hf 0 _ rfl
 have h1:=hf 1 _ rfl
 have h2:=hf 2 _ rfl
 have h3:=hf 3 _ rfl
 have h4:=hf 4 _ rfl
 rw [List.getElem?_eq_getElem (by omega)] at h0 h1 h2 h3 h4
 change DataW.trod enc Tryz.prog W 0 (fun _=>true) true n 24 (([c0,c1,c2,c3,c4,c5,c6,c7].drop 0).take (Tryz.prog.cellsOf 24))=some _ at h0
 change DataW.trod enc Tryz.prog W 0 (fun _=>true) true n 3 (([c0,c1,c2,c3,c4,c5,c6,c7].drop 2).take (Tryz.prog.cellsOf 3))=some _ at h1
 change DataW.trod enc Tryz.prog W 0 (fun _=>true) true n 27 (([c0,c1,c2,c3,c4,c5,c6,c7].drop 3).take (Tryz.prog.cellsOf 27))=some _ at h2
 change DataW.trod enc Tryz.prog W 0 (fun _=>true) true n 27 (([c0,c1,c2,c3,c4,c5,c6,c7].drop 5).take (Tryz.prog.cellsOf 27))=some _ at h3
 change DataW.trod enc Tryz.prog W 0 (fun _=>true) true n 3 (([c0,c1,c2,c3,c4,c5,c6,c7].drop 7).take (Tryz.prog.cellsOf 3))=some _ at h4
 rw [k0] at h0
 rw [k1] at h1 h4
 rw [k2] at h2 h3
 simp only [List.drop_zero,List.drop_succ_cons,List.take_succ_cons,List.take_zero] at h0 h1 h2 h3 h4
 obtain⟨s,a,c,ns,rfl,rfl,hr⟩:=cells_quads h0
 obtain⟨nx,ax,cx,dx,rfl,rfl,hbx⟩:=cells_big h2
 obtain⟨ny,ay,cy,dy,rfl,rfl,hby⟩:=cells_big h3
 obtain⟨node,hs,_⟩:=DataW.trod_int Tryz.underlying3 h1
 simp only [List.cons.injEq,and_true] at hs
 subst hs
 obtain⟨st,hs,_⟩:=DataW.trod_int Tryz.underlying3 h4
 simp only [List.cons.injEq,and_true] at hs
 subst hs
 exact⟨s,a,c,ns,node,nx,ax,cx,dx,ny,ay,cy,dy,st,rfl,hr,hbx,hby⟩
end Go.Proofs.YtdanghnadbkhfaaGreat
end
