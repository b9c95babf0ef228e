/- Own texts of this claim, part 25: no condition. -/
import Derived.Test.YtdanghnadbkhfaaGreatZR6
import Derived.Test.YtdanghnadbkhfaaGreatZR22
import Derived.Test.YtdanghnadbkhfaaGreatZR23
import Derived.Test.YtdanghnadbkhfaaGreatZR19
import Derived.Test.YtdanghnadbkhfaaGreatZR20
import Derived.Test.YtdanghnadbkhfaaGreatZR11
import Derived.Test.YtdanghnadbkhfaaGreatZR3
set_option linter.unusedVariables false
set_option linter.unusedSimpArgs false
section
namespace Go.Proofs.YtdanghnadbkhfaaGreat
open Go Go.RowKit Rg Hp Bn
def RBigCall (w:World) (z:Int) (e:Ending) (w':World):Prop:=∃ v,e=.returned (.tuple #[v,.int .i64 0])∧BigZ w' (w.heap.size≤·) v z∧Fr [] w w'
def RBigCall1 (w:World) (z:Int) (e:Ending) (w':World):Prop:=∃ v,e=.returned v∧BigZ w' (w.heap.size≤·) v z∧Fr [] w w'
section
variable {w:World} {A B:Nat→Prop} {va vb:Value} {x y:Int}
theorem RAdd_z (ha:BigZ w A va x) (hb:BigZ w B vb y) (hx:Zok x) (hy:Zok y) (hs:Zok (x+y)):Calls Tryz.prog 89 #[va,vb] w (RBigCall w (x+y)):=by
 obtain⟨a,c,rfl,_,_,h3⟩:=ha
 obtain⟨a',c',rfl,_,_,k3⟩:=hb
 refine (RAdd_calls h3 k3 (zd_dig x) (zd_dig y) (by have:=zd_len hx;omega) (by have:=zd_len hy;omega)).mono ?_
 rw [addS_z hx hy hs]
 rintro e w' ⟨a,c,⟨h1,h2⟩,rfl,h3,hf⟩
 exact⟨_,rfl,⟨a,c,rfl,h1,h2,h3⟩,hf⟩
theorem RCompare_z (ha:BigZ w A va x) (hb:BigZ w B vb y) (hx:Zok x) (hy:Zok y):Calls Tryz.prog 37 #[va,vb] w fun e w'=>e=.returned (.int .i64 (cmpI x y))∧Fr [] w w':=by
 obtain⟨a,c,rfl,_,_,h3⟩:=ha
 obtain⟨a',c',rfl,_,_,k3⟩:=hb
 have:=RCompare_calls (na:=decide (x<0)) (nb:=decide (y<0)) h3 k3 (zd_dig x) (zd_dig y) (by have:=zd_len hx;omega) (by have:=zd_len hy;omega)
 rwa [cmpS_z hx hy] at this
theorem RFrom_z (h1:-9223372036854775808≤x) (h2:x<9223372036854775808):Calls Tryz.prog 35 #[.int .i64 x] w (RBigCall1 w x):=by
 refine (RFrom_calls h1 h2).mono ?_
 rw [fromS_z (zok_int h1 h2)]
 rintro e w' ⟨a,c,⟨h1,h2⟩,rfl,h3,hf⟩
 exact⟨_,rfl,⟨a,c,rfl,h1,h2,h3⟩,hf⟩
theorem RShift_z {n:Nat} (ha:BigZ w A va 1) (hn:n≤2047):Calls Tryz.prog 91 #[va,.int .i64 n] w (RBigCall w ((2 ^ n:Nat):Int)):=by
 obtain⟨a,c,rfl,h0,_,h3⟩:=ha
 refine (RShift_calls (neg:=decide ((1:Int)<0)) h3 (zd_dig 1) (by have:=zd_len (z:=1) (zok_int (by omega) (by omega));omega) (by omega) (by omega)).mono ?_
 rw [show decide ((1:Int)<0)=false from rfl,shift_one hn]
 rintro e w' ⟨a,c,⟨h1,h2⟩,rfl,h3,hf⟩
 refine⟨_,rfl,⟨a,c,?_,h1,h2,h3⟩,hf⟩
 rw [decide_eq_false (Int.not_lt.2 (Int.natCast_nonneg _))]
end
end Go.Proofs.YtdanghnadbkhfaaGreat
end
section
namespace Go.Proofs.YtdanghnadbkhfaaGreat
open Go Go.RowKit Rg Mp Hp Qs Ev Bn Pt
theorem New_has {W w:World} {Ps:List Res} (h:Has W w Ps) (s:Int) (h1:2≤s) (h2:s≤8) :
  Calls Tryz.prog 34 #[.int .i64 s] w fun e w'=>∃ b,e=.returned (.tuple #[.pointer (some ⟨b,0,none⟩),.int .i64 0])∧Has W w' (sTR b s []::Ps):=by
 refine (New_ok s w h1 h2).mono ?_
 rintro e w' ⟨b,F,rfl,hS,hf,hF⟩
 exact⟨b,rfl,h.new hf hS hF⟩
theorem big_mem {W w:World} {Ps:List Res} {neg:Bool} {ds:List Nat} {a:Option Addr} {c:Nat} (h:Has W w Ps) (hm:bigR neg ds a c∈Ps):BigIn w neg ds a c:=by
 obtain⟨G,h1,_⟩:=has_mem h hm
 exact h1
theorem zd_one:zd 1=[1]:=by
 unfold zd
 rw [show (1:Int).natAbs=1 from rfl,dg_succ (by omega) (by omega),show 1 / 4294967296=0 from rfl,dg_zero]
theorem zd_zero:zd 0=[]:=by unfold zd;rw [show (0:Int).natAbs=0 from rfl,dg_zero]
theorem zok1n:Zok ((1:Nat):Int):=zok_int (by decide) (by decide)
theorem zok0n:Zok ((0:Nat):Int):=zok_int (by decide) (by decide)
theorem zd1n:zd ((1:Nat):Int)=[1]:=zd_one
theorem zd0n:zd ((0:Nat):Int)=[]:=zd_zero
set_option maxHeartbeats 16000000 in
set_option maxRecDepth 100000 in
theorem awake_q (w:World):Calls Tryz.prog 8 #[] w fun e w'=>e=.returned (.bool true)∧Fr [] w w':=by
 have h0:Has w w []:=⟨[],rfl,Fr.refl _ _,by simp⟩
 have H0:=Lib.hid h0
 clear h0
 go_enter Tryz.func8,Tryz.ntmps8
 go_wp2_with fail
 refine (New_has H0.out 2 (by omega) (by omega)).mono ?_
 rintro e w1 ⟨b,rfl,h1⟩
 have h2:=(hAL h1 #[.int .i64 1,.int .i64 0,.int .i64 1] 75).swap
 obtain⟨pb,hpb⟩:∃ pb,w1.heap.size=pb:=⟨_,rfl⟩
 rw [hpb] at h2
 have H2:=Lib.hid h2
 have HF1:=Lib.hid (From_q h2 (p:=awP) (a:=some ⟨pb,0,none⟩) (c:=1) (reads_blk h2.swap.blk rfl) (by decide) 0 0 1 (by omega) (by omega))
 rw [aw_from1] at HF1
 clear h1 h2
 go_wp2_with fail
 refine HF1.out.mono ?_
 rintro e w2 ⟨rfl,h2⟩
 clear hpb H2
 have HF2:=Lib.hid (From_q h2 (p:=awP) (a:=some ⟨pb,0,none⟩) (c:=1) (reads_blk h2.swap.blk rfl) (by decide) 0 0 2 (by omega) (by omega))
 rw [aw_from2] at HF2
 clear h2 HF1
 go_wp2_with fail
 refine HF2.out.mono ?_
 rintro e w3 ⟨rfl,h3⟩
 have H3:=Lib.hid h3
 clear h3 HF2
 go_wp2_with fail
 refine (RFrom_z (x:=1) (by omega) (by omega)).mono ?_
 rintro e w4 ⟨v1,rfl,hb1,hf1⟩
 obtain⟨a1,c1,rfl,h4⟩:=has_big H3.out hf1 hb1 (zok_int (by omega) (by omega))
 rw [show decide ((1:Int)<0)=false from rfl,zd_one] at h4 ⊢
 have H4:=Lib.hid h4
 clear h4 hb1 hf1 H3
 go_wp2_with fail
 refine (RFrom_z (x:=0) (by omega) (by omega)).mono ?_
 rintro e w5 ⟨v2,rfl,hb2,hf2⟩
 obtain⟨a2,c2,rfl,h5⟩:=has_big H4.out hf2 hb2 (zok_int (by omega) (by omega))
 rw [show decide ((0:Int)<0)=false from rfl,zd_zero] at h5 ⊢
 have H5:=Lib.hid h5
 clear h5 hb2 hf2 H4
 go_wp2_with fail
 have h6:=(hAL (hAL H5.out #[.bool false,.slice a1 1 c1] 27) #[.bool false,.slice a2 0 c2] 27).ord 6 [4,1,0,3,2,5]
 simp only [List.filterMap_cons,List.filterMap_nil,List.getElem?_cons_zero,List.getElem?_cons_succ,List.drop_succ_cons,List.drop_zero,List.cons_append,List.nil_append,List.take_succ_cons,List.take_zero,List.eraseIdx_cons_succ,List.eraseIdx_zero,List.eraseIdx_cons_zero,List.tail_cons,Option.toList_some] at h6
 obtain⟨x8,hx8⟩:∃ x,w5.heap.size=x:=⟨_,rfl⟩
 rw [show (w5.alloc (.cells #[.bool false,.slice a1 1 c1] 27)).heap.size=w5.heap.size+1 by simp,hx8] at h6
 rw [hx8]
 obtain⟨x9,hx9⟩:∃ x,x8+1=x:=⟨_,rfl⟩
 rw [hx9] at h6 ⊢
 have HG:=Lib.hid (Get_q h6 4 (nx:=false) (dx:=[1]) (ny:=false) (dy:=[]) (big_mem (a:=a1) (c:=c1) h6 (by simp)) (big_mem (a:=a2) (c:=c2) h6 (by simp)))
 rw [aw_get] at HG
 clear H5 h6 hx8 hx9
 refine HG.out.mono ?_
 rintro e w7 ⟨rfl,h7,_⟩
 have HB:=Lib.hid (Bounds_q h7 4)
 clear HG h7
 go_wp2_with fail
 refine HB.out.mono ?_
 unfold BoundsPost
 rintro e w8 ⟨⟨ok,f0,f1,f2,f3⟩,L,rfl,h8,hok,hin⟩
 rw [aw_fr] at hok
 rw [aw_kn]
 simp only [FrOk,coF,Option.getD_some,Option.isSome_some] at hok
 obtain⟨rfl,e0,e1,e2,e3⟩:=hok
 have h9:=(hAL h8 (lcells (true,f0,f1,f2,f3)) 42).ord 3 [1,0,2]
 simp only [List.filterMap_cons,List.filterMap_nil,List.getElem?_cons_zero,List.getElem?_cons_succ,List.drop_succ_cons,List.drop_zero,List.cons_append,List.nil_append,List.take_succ_cons,List.take_zero,List.eraseIdx_cons_succ,List.eraseIdx_zero,List.eraseIdx_cons_zero,List.tail_cons,Option.toList_some] at h9
 obtain⟨x12,hx12⟩:∃ x,w8.heap.size=x:=⟨_,rfl⟩
 rw [hx12] at h9
 have HFE:=Lib.hid (And.intro hin (And.intro e0 (And.intro e1 (And.intro e2 e3))))
 have HP:=Lib.hid (Population_q h9 4)
 rw [aw_kn,aw_pop] at HP
 clear HB h8 h9 hin e0 e1 e2 e3
 simp only [lcells] at HP ⊢
 go_wp2_with fail
 refine HP.out.mono ?_
 rintro e w9 ⟨pa,pc,rfl,h10⟩
 have h11:=(hAL h10 #[.bool false,.slice pa (zd ((1:Nat):Int)).length pc] 27).ord 3 [1,0,2]
 simp only [List.filterMap_cons,List.filterMap_nil,List.getElem?_cons_zero,List.getElem?_cons_succ,List.drop_succ_cons,List.drop_zero,List.cons_append,List.nil_append,List.take_succ_cons,List.take_zero,List.eraseIdx_cons_succ,List.eraseIdx_zero,List.eraseIdx_cons_zero,List.tail_cons,Option.toList_some] at h11
 obtain⟨x15,hx15⟩:∃ x,w9.heap.size=x:=⟨_,rfl⟩
 rw [hx15] at h11
 have HE:=Lib.hid (Expand_q h11 2)
 rw [aw_exp] at HE
 clear HP h10 h11 hx12
 simp only [bvV]
 go_wp2_with fail
 refine HE.out.mono ?_
 rintro e w10 ⟨rfl,h12⟩
 have HC:=Lib.hid (Centre_q h12 awX)
 rw [aw_ctr] at HC
 clear HE h12 hx15
 go_wp2_with fail
 refine HC.out.mono ?_
 rintro e w11 ⟨rfl,h13⟩
 have HPT:=Lib.hid (Pattern_q h13 4 0 0 (by omega) (by omega))
 rw [aw_pat] at HPT
 clear HC h13
 go_wp2_with fail
 refine HPT.out.mono ?_
 rintro e w12 ⟨qv,rfl,h14⟩
 obtain⟨_,qa,qc,rfl,_⟩:=Reads.of_owns h14.swap.row
 have HS:=Lib.hid (Set_q h14 4 (nx:=false) (dx:=[1]) (ny:=false) (dy:=[]) (BigSrc.thing (a:=a1) (c:=c1) (by simp)) (BigSrc.thing (a:=a2) (c:=c2) (by simp)) 0)
 rw [aw_set] at HS
 have hb8:=h14.ord 11 [6]
 simp only [List.filterMap_cons,List.filterMap_nil,List.getElem?_cons_zero,List.getElem?_cons_succ,List.drop_succ_cons,List.drop_zero,List.cons_append,List.nil_append,List.take_succ_cons,List.take_zero,List.eraseIdx_cons_succ,List.eraseIdx_zero,List.eraseIdx_cons_zero,List.tail_cons,Option.toList_some] at hb8
 have hb8:=hb8.blk
 have a0:=hEC hb8 0
 have a1':=hEC hb8 1
 have al:=lBk hb8
 have hb9:=h14.ord 11 [7]
 simp only [List.filterMap_cons,List.filterMap_nil,List.getElem?_cons_zero,List.getElem?_cons_succ,List.drop_succ_cons,List.drop_zero,List.cons_append,List.nil_append,List.take_succ_cons,List.take_zero,List.eraseIdx_cons_succ,List.eraseIdx_zero,List.eraseIdx_cons_zero,List.tail_cons,Option.toList_some] at hb9
 have hb9:=hb9.blk
 have b0:=hEC hb9 0
 have b1:=hEC hb9 1
 have bl:=lBk hb9
 clear HPT h14 hb8 hb9
 go_wp2_with fail
 refine HS.out.mono ?_
 rintro e w13 ⟨rfl,h15⟩
 have HEM:=Lib.hid (Empty_has h15 2)
 rw [aw_empty] at HEM
 clear HS h15 a0 a1' al b0 b1 bl
 go_wp2_with fail
 refine HEM.out.mono ?_
 rintro e w14 ⟨rfl,h16⟩
 have hfg:Four w14 (true,(1,a1,c1),(0,a2,c2),(1,a1,c1),(0,a2,c2)):=by
  have h1:BvIn w14 (1,a1,c1):=by
   show BigIn w14 false (zd ((1:Nat):Int)) a1 c1
   rw [zd1n];exact big_mem h16 (by simp)
  have h2:BvIn w14 (0,a2,c2):=by
   show BigIn w14 false (zd ((0:Nat):Int)) a2 c2
   rw [zd0n];exact big_mem h16 (by simp)
  exact⟨h1,h2,h1,h2,zok1n,zok0n,zok1n,zok0n⟩
 obtain⟨⟨i0,i1,i2,i3⟩,e0,e1,e2,e3⟩:=HFE.out
 simp only at i0 i1 i2 i3 e0 e1 e2 e3
 have hff:Four w14 (true,f0,f1,f2,f3):=⟨pool_in h16 (by simp) i0,pool_in h16 (by simp) i1,pool_in h16 (by simp) i2,pool_in h16 (by simp) i3,zok_int (by simp only;omega) (by simp only;omega),zok_int (by simp only;omega) (by simp only;omega),zok_int (by simp only;omega) (by simp only;omega),zok_int (by simp only;omega) (by simp only;omega)⟩
 have hsb:sameB (true,f0,f1,f2,f3) (true,(1,a1,c1),(0,a2,c2),(1,a1,c1),(0,a2,c2)) 4=true:=by
  simp only [sameB,Bool.and_eq_true,decide_eq_true_eq];omega
 have HSM:=Lib.hid (fun w' (hf:Fr [] w14 w')=>same_q (hff.fr hf) (hfg.fr hf))
 rw [hsb] at HSM
 simp only [lcells,zd1n,zd0n,List.length_cons,List.length_nil,Nat.zero_add] at HSM
 have hpop:BigIn w14 false (zd ((1:Nat):Int)) pa pc:=big_mem h16 (by simp)
 have hone:BigIn w14 false [1] a1 c1:=big_mem h16 (by simp)
 have HCM:=Lib.hid (fun w' (hf:Fr [] w14 w')=>RCompare_z (in_z (hpop.fr hf)) (in_z (V:=1) (a:=a1) (c:=c1) ((show BigIn w14 false (zd ((1:Nat):Int)) a1 c1 by rw [zd1n];exact hone).fr hf)) (zok_int (by decide) (by decide)) (zok_int (by decide) (by decide)))
 simp only [zd1n,List.length_cons,List.length_nil,Nat.zero_add] at HCM
 have hrow:=Reads.of_owns h16.swap.row
 have hpat:=h16.ord 11 [10]
 simp only [List.filterMap_cons,List.filterMap_nil,List.getElem?_cons_zero,List.getElem?_cons_succ,List.drop_succ_cons,List.drop_zero,List.cons_append,List.nil_append,List.take_succ_cons,List.take_zero,List.eraseIdx_cons_succ,List.eraseIdx_zero,List.eraseIdx_cons_zero,List.tail_cons,Option.toList_some] at hpat
 have HSP:=Lib.hid (fun w' (hf:Fr [] w14 w')=>Same_p (l:=awP) (m:=awP) (a:=qa) (ca:=qc) (b:=some ⟨pb,0,none⟩) (cb:=1) (Reads.fr hrow hf) (Reads.fr (reads_blk hpat.blk rfl) hf) (by decide) (by decide))
 have HFR:=Lib.hid h16.fr
 clear hrow hpat
 have hb8:=h16.ord 11 [6]
 simp only [List.filterMap_cons,List.filterMap_nil,List.getElem?_cons_zero,List.getElem?_cons_succ,List.drop_succ_cons,List.drop_zero,List.cons_append,List.nil_append,List.take_succ_cons,List.take_zero,List.eraseIdx_cons_succ,List.eraseIdx_zero,List.eraseIdx_cons_zero,List.tail_cons,Option.toList_some] at hb8
 have hb8:=hb8.blk
 have a0:=hEC hb8 0
 have a1':=hEC hb8 1
 have al:=lBk hb8
 have hb9:=h16.ord 11 [7]
 simp only [List.filterMap_cons,List.filterMap_nil,List.getElem?_cons_zero,List.getElem?_cons_succ,List.drop_succ_cons,List.drop_zero,List.cons_append,List.nil_append,List.take_succ_cons,List.take_zero,List.eraseIdx_cons_succ,List.eraseIdx_zero,List.eraseIdx_cons_zero,List.tail_cons,Option.toList_some] at hb9
 have hb9:=hb9.blk
 have b0:=hEC hb9 0
 have b1:=hEC hb9 1
 have bl:=lBk hb9
 have hb2:=h16.ord 11 [4]
 simp only [List.filterMap_cons,List.filterMap_nil,List.getElem?_cons_zero,List.getElem?_cons_succ,List.drop_succ_cons,List.drop_zero,List.cons_append,List.nil_append,List.take_succ_cons,List.take_zero,List.eraseIdx_cons_succ,List.eraseIdx_zero,List.eraseIdx_cons_zero,List.tail_cons,Option.toList_some] at hb2
 have hb2:=hb2.blk
 have r0:=hEC hb2 0
 have r1:=hEC hb2 1
 have r2:=hEC hb2 2
 have r3:=hEC hb2 3
 have r4:=hEC hb2 4
 have r5:=hEC hb2 5
 have r6:=hEC hb2 6
 have r7:=hEC hb2 7
 have rl:=lBk hb2
 have hb5:=h16.ord 11 [2]
 simp only [List.filterMap_cons,List.filterMap_nil,List.getElem?_cons_zero,List.getElem?_cons_succ,List.drop_succ_cons,List.drop_zero,List.cons_append,List.nil_append,List.take_succ_cons,List.take_zero,List.eraseIdx_cons_succ,List.eraseIdx_zero,List.eraseIdx_cons_zero,List.tail_cons,Option.toList_some] at hb5
 have hb5:=hb5.blk
 rw [zd1n] at hb5
 have q0:=hEC hb5 0
 have q1:=hEC hb5 1
 have ql:=lBk hb5
 clear h16 HEM hff hfg hpop hone hsb e0 e1 e2 e3 i0 i1 i2 i3
 go_wp2_with fail
 refine (HSM.out _ (Fr.refl _ _)).mono ?_
 rintro e w15 ⟨rfl,hf15⟩
 have q0':=(hf15.cell (p:=⟨x15,0,none⟩) ql (by simp)).trans q0
 have q1':=(hf15.cell (p:=⟨x15,1,none⟩) ql (by simp)).trans q1
 have a0':=(hf15.cell (p:=⟨x8,0,none⟩) al (by simp)).trans a0
 have a1'':=(hf15.cell (p:=⟨x8,1,none⟩) al (by simp)).trans a1'
 have Hf15:=Lib.hid hf15
 have hlx:x8<w15.heap.size:=by
  have:=hf15.size;omega
 have hlq:x15<w15.heap.size:=by
  have:=hf15.size;omega
 clear r0 r1 r2 r3 r4 r5 r6 r7 rl a0 a1' al b0 b1 bl q0 q1 ql hf15
 go_wp2_with fail
 refine (HCM.out _ (by have:=Hf15.out;(repeat first|exact Fr.refl _ _|assumption|apply Fr.n|apply Fr.d|apply Fr.a|refine Fr.s ?_ (.inr (by simp;try omega)) _))).mono ?_
 rintro e w16 ⟨rfl,hf16⟩
 have Hf16:=Lib.hid (Hf15.out.trans0 hf16)
 clear hf16 q0' q1' a0' a1''
 simp only [show cmpI ((1:Nat):Int) ((1:Nat):Int)=0 from rfl]
 go_wp2_with fail
 refine (HSP.out _ Hf16.out).mono ?_
 rintro e w17 ⟨rfl,hf17⟩
 have Hf17:=Lib.hid (Hf16.out.trans0 hf17)
 clear hf17
 simp only [show decide (awP=awP)=true from by decide]
 go_wp2
 go_ret
 exact⟨rfl,HFR.out.trans0 Hf17.out⟩
end Go.Proofs.YtdanghnadbkhfaaGreat
end
