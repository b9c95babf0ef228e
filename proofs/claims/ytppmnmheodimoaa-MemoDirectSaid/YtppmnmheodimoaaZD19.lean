/- Own texts of this claim, part 20: no condition. -/
import Derived.Test.YtppmnmheodimoaaZD6
import Derived.Test.YtppmnmheodimoaaZD16
set_option linter.unusedVariables false
set_option linter.unusedSimpArgs false
section
namespace Go.Proofs.Ytppmnmheodimoaa
open Go Go.RowKit Rg Mp Hp Qs
def RTwo (w:World) (b:Nat) (s:Int) (r:(Int×Int)×List K4) (F:List Nat) (e:Ending) (w':World):Prop :=
 e=.returned (.tuple #[.int .i64 r.1.1,.int .i64 r.1.2])∧∃ F',RefAt w' b s r.2 F'∧Fr F w w'∧(∀ x∈F',x∈F∨w.heap.size≤x)
theorem RTwo.same {w w':World} {b:Nat} {s:Int} {ns:List K4} {F:List Nat} {r e:Int} {t:(Int×Int)×List K4} (hS:RefAt w b s ns F) (hf:Fr [] w w') (ht:t=((r,e),ns)):RTwo w b s t F (.returned (.tuple #[.int .i64 r,.int .i64 e])) w':=by
 subst ht
 exact⟨rfl,F,hS.fr hf (by simp),hf.mono (by simp),fun x hx=>.inl hx⟩
set_option maxHeartbeats 16000000 in
set_option maxRecDepth 100000 in
theorem RJoin_calls {w:World} {b:Nat} {s:Int} {ns:List K4} {F:List Nat} (hS:RefAt w b s ns F) (hlen:ns.length<90000) (x:K4) :
  Calls Try.prog 69 #[.pointer (some ⟨b,0,none⟩),.int .i64 x.a,.int .i64 x.b,.int .i64 x.c,.int .i64 x.d] w (RTwo w b s (join s ns x) F):=by
 have HS:=Lib.hid hS
 have Hlen:=Lib.hid hlen
 clear hlen
 obtain⟨hgood,nv,hI,rfl⟩:=hS
 obtain⟨na,nc,rfl,_,_⟩:=oFM hI.nodes
 have hs1:2≤s:=hgood.1
 have hs2:s≤8:=hgood.2.1
 have Hgood:=Lib.hid hgood
 have HI:=Lib.hid hI
 clear hgood hI
 have hblt:b<w.heap.size:=lBk HI.out.blk
 obtain⟨la,hla⟩:∃ la,la=lvl s (levs s ns) x.a:=⟨_,rfl⟩
 obtain⟨lb,hlb⟩:∃ lb,lb=lvl s (levs s ns) x.b:=⟨_,rfl⟩
 obtain⟨lc,hlc⟩:∃ lc,lc=lvl s (levs s ns) x.c:=⟨_,rfl⟩
 obtain⟨ld,hld⟩:∃ ld,ld=lvl s (levs s ns) x.d:=⟨_,rfl⟩
 obtain⟨fi,hfi⟩:∃ fi,fi=findR ns x:=⟨_,rfl⟩
 have Hla:=Lib.hid hla
 have Hlb:=Lib.hid hlb
 have Hlc:=Lib.hid hlc
 have Hld:=Lib.hid hld
 have Hfi:=Lib.hid hfi
 clear hla hlb hlc hld hfi
 have hj1:(la<0∨lb<0∨lc<0∨ld<0)→join s ns x=((0,13),ns):=fun h=>by
  rw [Hla.out,Hlb.out,Hlc.out,Hld.out] at h
  unfold join;rw [if_pos h]
 have hj2:¬ (la<0∨lb<0∨lc<0∨ld<0)→¬ (la<256∧lb=la∧lc=la∧ld=la)→join s ns x=((0,18),ns):=fun h h'=>by
  rw [Hla.out,Hlb.out,Hlc.out,Hld.out] at h
  rw [Hla.out,Hlb.out,Hlc.out,Hld.out] at h'
  unfold join;rw [if_neg h,if_pos fun hf=>h' ⟨hf.2.1,hf.2.2.1,hf.2.2.2.1,hf.2.2.2.2⟩]
 have hj3:0≤la→la<256→lb=la→lc=la→ld=la→Fits s ns x∧join s ns x=joinIn s ns x:=fun h0 h1 h2 h3 h4=>by
  have ha:=Hla.out
  have hb:=Hlb.out
  have hc:=Hlc.out
  have hd:=Hld.out
  have hfit:Fits s ns x:=⟨by omega,by omega,by omega,by omega,by omega⟩
  refine⟨hfit,?_⟩
  unfold join;rw [if_neg (by omega),if_neg fun hn=>hn hfit]
 have Hj1:=Lib.hid hj1
 have Hj2:=Lib.hid hj2
 have Hj3:=Lib.hid hj3
 clear hj1 hj2 hj3
 go_enter Try.func69,Try.ntmps69
 go_wp2
 have hk3:(w.alloc (.cells #[.int .i64 x.a,.int .i64 x.b,.int .i64 x.c,.int .i64 x.d] 75)).heap[w.heap.size]?=some (.cells #[.int .i64 x.a,.int .i64 x.b,.int .i64 x.c,.int .i64 x.d] 75 (0,0)):=by (repeat first|rw [if_pos (by omega)]|rw [if_neg (by omega)]|rw [hDR]|rw [hDN]|rw [hAz]|rw [hSz]|rw [hAC]|rw [hSC]|rw [oMS]|rw [uPC]|rw [lSZ]|rw [lSS]|rfl)
 have hf3:Fr [] w (w.alloc (.cells #[.int .i64 x.a,.int .i64 x.b,.int .i64 x.c,.int .i64 x.d] 75)):=by (repeat first|exact Fr.refl _ _|assumption|apply Fr.n|apply Fr.d|apply Fr.a|refine Fr.s ?_ (.inr (by simp;try omega)) _)
 generalize w.alloc (.cells #[.int .i64 x.a,.int .i64 x.b,.int .i64 x.c,.int .i64 x.d] 75)=w3 at *
 have hcells:∀ w',Fr [] w3 w'→w'.cell? ⟨b,0,none⟩=some (.int .i64 s)∧w'.cell? ⟨b,1,none⟩=some (.slice na ns.length nc)∧w'.cell? ⟨w.heap.size,0,none⟩=some (.int .i64 x.a)∧w'.cell? ⟨w.heap.size,1,none⟩=some (.int .i64 x.b) ∧
   w'.cell? ⟨w.heap.size,2,none⟩=some (.int .i64 x.c)∧w'.cell? ⟨w.heap.size,3,none⟩=some (.int .i64 x.d):=fun w' hf'=>by
  have hp:=((hf3.trans0 hf').block _ (lBk HI.out.blk) (by simp)).trans HI.out.blk
  have hq:=(hf'.block _ (lBk hk3) (by simp)).trans hk3
  exact⟨hEC hp 0,hEC hp 1,hEC hq 0,hEC hq 1,hEC hq 2,hEC hq 3⟩
 have hR:∀ w1,Fr [] w3 w1→Reads w1 (.slice na ns.length nc) ns.length 4 (flat ns):=fun w1 hf1=>(Reads.of_owns HI.out.nodes).fr (hf3.trans0 hf1)
 have hLev:∀ (w1:World) (id l:Int),l=lvl s (levs s ns) id→Fr [] w3 w1→Calls Try.prog 65 #[.agg #[.int .i64 s,.slice na ns.length nc],.int .i64 id] w1 fun e w'=>e=.returned (.int .i64 l)∧Fr [] w3 w'∧w'.cell? ⟨b,0,none⟩=some (.int .i64 s)∧w'.cell? ⟨b,1,none⟩=some (.slice na ns.length nc)∧w'.cell? ⟨w.heap.size,0,none⟩=some (.int .i64 x.a)∧w'.cell? ⟨w.heap.size,1,none⟩=some (.int .i64 x.b) ∧
   w'.cell? ⟨w.heap.size,2,none⟩=some (.int .i64 x.c)∧w'.cell? ⟨w.heap.size,3,none⟩=some (.int .i64 x.d):=fun w1 id l hl1 hf1=>by
  refine (level_ref Hgood.out (hR w1 hf1) id).mono ?_
  rintro e w' ⟨rfl,o,rfl⟩
  exact⟨by rw [hl1],hf1.alloc o,hcells _ (hf1.alloc o)⟩
 have hFind:∀ (w1:World),Fr [] w3 w1→Calls Try.prog 66 #[.agg #[.int .i64 s,.slice na ns.length nc],.agg #[.int .i64 x.a,.int .i64 x.b,.int .i64 x.c,.int .i64 x.d]] w1 fun e w'=>e=.returned (.int .i64 fi)∧Fr [] w3 w'∧w'.cell? ⟨b,0,none⟩=some (.int .i64 s)∧w'.cell? ⟨b,1,none⟩=some (.slice na ns.length nc)∧w'.cell? ⟨w.heap.size,0,none⟩=some (.int .i64 x.a)∧w'.cell? ⟨w.heap.size,1,none⟩=some (.int .i64 x.b) ∧
   w'.cell? ⟨w.heap.size,2,none⟩=some (.int .i64 x.c)∧w'.cell? ⟨w.heap.size,3,none⟩=some (.int .i64 x.d):=fun w1 hf1=>by
  refine (find_ref (s:=s) (by have:=Hlen.out;omega) (hR w1 hf1) x).mono ?_
  rintro e w' ⟨rfl,o1,o2,n,rfl⟩
  exact⟨by rw [Hfi.out],((hf1.alloc o1).alloc o2).drewN n,hcells _ (((hf1.alloc o1).alloc o2).drewN n)⟩
 have hcs:=hcells w3 (Fr.refl _ _)
 have HLev:=Lib.hid hLev
 have HFind:=Lib.hid hFind
 have Hf3:=Lib.hid hf3
 have Hk3:=Lib.hid hk3
 clear hLev hFind hcells hf3 hk3 hR
 obtain⟨b0,b1,k0,k1,k2,k3⟩:=hcs
 refine wp_loop_rounds 5 ?_
 rw [rounds_succ]
 go_wp2
 (refine wRT (by kernel_rfl) (by kernel_rfl) ?_)
 go_wp2_with fail
 clear b0 b1 k0 k1 k2 k3
 refine (HLev.out _ _ _ Hla.out (Fr.refl _ _).drew).mono ?_
 rintro e w4 ⟨rfl,hf,b0,b1,k0,k1,k2,k3⟩
 have Hf_w4:=Lib.hid hf
 clear hf
 go_wp2
 refine Strict.intro rfl ?_
 go_wp2
 any_goals (go_ret2;exact RTwo.same HS.out (Hf3.out.trans0 Hf_w4.out) (Hj1.out (by omega)))
 rw [rounds_succ]
 go_wp2
 (refine wRT (by kernel_rfl) (by kernel_rfl) ?_)
 go_wp2_with fail
 clear b0 b1 k0 k1 k2 k3
 refine (HLev.out _ _ _ Hlb.out Hf_w4.out.drew).mono ?_
 rintro e w5 ⟨rfl,hf,b0,b1,k0,k1,k2,k3⟩
 have Hf_w5:=Lib.hid hf
 clear hf
 go_wp2
 refine Strict.intro rfl ?_
 go_wp2
 any_goals (go_ret2;exact RTwo.same HS.out (Hf3.out.trans0 Hf_w5.out) (Hj1.out (by omega)))
 rw [rounds_succ]
 go_wp2
 (refine wRT (by kernel_rfl) (by kernel_rfl) ?_)
 go_wp2_with fail
 clear b0 b1 k0 k1 k2 k3
 refine (HLev.out _ _ _ Hlc.out Hf_w5.out.drew).mono ?_
 rintro e w6 ⟨rfl,hf,b0,b1,k0,k1,k2,k3⟩
 have Hf_w6:=Lib.hid hf
 clear hf
 go_wp2
 refine Strict.intro rfl ?_
 go_wp2
 any_goals (go_ret2;exact RTwo.same HS.out (Hf3.out.trans0 Hf_w6.out) (Hj1.out (by omega)))
 rw [rounds_succ]
 go_wp2
 (refine wRT (by kernel_rfl) (by kernel_rfl) ?_)
 go_wp2_with fail
 clear b0 b1 k0 k1 k2 k3
 refine (HLev.out _ _ _ Hld.out Hf_w6.out.drew).mono ?_
 rintro e w7 ⟨rfl,hf,b0,b1,k0,k1,k2,k3⟩
 have Hf_w7:=Lib.hid hf
 clear hf
 go_wp2
 refine Strict.intro rfl ?_
 go_wp2
 any_goals (go_ret2;exact RTwo.same HS.out (Hf3.out.trans0 Hf_w7.out) (Hj1.out (by omega)))
 rw [rounds_succ]
 go_wp2_with fail
 clear b0 b1 k0 k1 k2 k3
 refine (HLev.out _ _ _ Hla.out Hf_w7.out).mono ?_
 rintro e w8 ⟨rfl,hf,b0,b1,k0,k1,k2,k3⟩
 have Hf_w8:=Lib.hid hf
 clear hf
 go_wp2_with fail
 any_goals (go_ret2;exact RTwo.same HS.out (Hf3.out.trans0 Hf_w8.out) (Hj2.out (by omega) (by omega)))
 clear b0 b1 k0 k1 k2 k3
 refine (HLev.out _ _ _ Hlb.out Hf_w8.out).mono ?_
 rintro e w9 ⟨rfl,hf,b0,b1,k0,k1,k2,k3⟩
 have Hf_w9:=Lib.hid hf
 clear hf
 go_wp2_with fail
 any_goals (go_ret2;exact RTwo.same HS.out (Hf3.out.trans0 Hf_w9.out) (Hj2.out (by omega) (by omega)))
 clear b0 b1 k0 k1 k2 k3
 refine (HLev.out _ _ _ Hlc.out Hf_w9.out).mono ?_
 rintro e w10 ⟨rfl,hf,b0,b1,k0,k1,k2,k3⟩
 have Hf_w10:=Lib.hid hf
 clear hf
 go_wp2_with fail
 any_goals (go_ret2;exact RTwo.same HS.out (Hf3.out.trans0 Hf_w10.out) (Hj2.out (by omega) (by omega)))
 clear b0 b1 k0 k1 k2 k3
 refine (HLev.out _ _ _ Hld.out Hf_w10.out).mono ?_
 rintro e w11 ⟨rfl,hf,b0,b1,k0,k1,k2,k3⟩
 have Hf_w11:=Lib.hid hf
 clear hf
 go_wp2_with fail
 any_goals (go_ret2;exact RTwo.same HS.out (Hf3.out.trans0 Hf_w11.out) (Hj2.out (by omega) (by (first|omega|(simp only [bne_iff_ne,ne_eq,beq_iff_eq,bne_eq_false_iff_eq,beq_eq_false_iff_ne,decide_eq_true_eq,decide_eq_false_iff_not] at *;omega)))))
 have h9:la<256∧(ld != la)=false:=by assumption
 have h8:ld=la:=by simpa using h9.2
 obtain⟨hfit,hjoin⟩:=Hj3.out (by omega) h9.1 (by assumption) (by assumption) h8
 clear h9
 have H8:=Lib.hid h8
 clear h8
 have Hfit:=Lib.hid hfit
 have Hjoin:=Lib.hid hjoin
 clear hfit hjoin Hj1 Hj2 Hj3
 (refine wRT (by kernel_rfl) (by kernel_rfl) ?_)
 go_wp2_with fail
 clear b0 b1 k0 k1 k2 k3
 refine (HFind.out _ Hf_w11.out.drew).mono ?_
 rintro e w12 ⟨rfl,hf,b0,b1,k0,k1,k2,k3⟩
 have Hf12:=Lib.hid hf
 clear hf
 go_wp2
 refine Strict.intro rfl ?_
 have hhit:0≤fi→join s ns x=((s+fi,0),ns)∧fi<90000:=fun h=>by
  have h1:=Hfi.out
  unfold findR at h1
  cases hfind:ns.idxOf? x with
  | some i =>
   rw [hfind] at h1
   simp only at h1
   rw [List.idxOf?_eq_some_iff] at hfind
   have:=hfind.1
   have:=Hlen.out
   refine⟨?_,by omega⟩
   rw [Hjoin.out,joinIn_hit (i:=i),h1]
   rw [List.idxOf?_eq_some_iff];exact hfind
  | none=>rw [hfind] at h1;simp only at h1;omega
 have hmiss:fi<0→join s ns x=((s+ns.length,0),ns++[x])∧x∉ns:=fun h=>by
  have h1:=Hfi.out
  unfold findR at h1
  cases hfind:ns.idxOf? x with
  | some i=>rw [hfind] at h1;simp only at h1;omega
  | none =>
   have:=Hlen.out
   exact⟨by rw [Hjoin.out,joinIn_new hfind (by omega)],by simpa using hfind⟩
 have hd:decide ((100000:Int)≤↑ns.length)=false:=by have:=Hlen.out;simp;omega
 obtain⟨i0,hi0,hi1,hi2,hi3⟩:=info_parts info_quad
 have hblk:=((Hf3.out.trans0 Hf12.out).block _ (lBk HI.out.blk) (by simp)).trans HI.out.blk
 have p1:=hEF hblk 1
 have hown:=oOB HI.out.nodes fun y hy=>(Hf3.out.trans0 Hf12.out).block y (oLT HI.out.nodes hy) (by simp)
 have hb12:b<w12.heap.size:=lBk hblk
 have Hblk:=Lib.hid hblk
 have Hown:=Lib.hid hown
 have Hhit:=Lib.hid hhit
 have Hmiss:=Lib.hid hmiss
 clear hblk hown hhit hmiss
 by_cases hfi:0≤fi
 ·obtain⟨hj,hlt⟩:=Hhit.out hfi
  have Hj:=Lib.hid hj
  clear hj
  go_wp2
  go_ret2
  exact RTwo.same HS.out (by have:=Hf3.out.trans0 Hf12.out;(repeat first|exact Fr.refl _ _|assumption|apply Fr.n|apply Fr.d|apply Fr.a|refine Fr.s ?_ (.inr (by simp;try omega)) _)) Hj.out
 ·obtain⟨hj,hnew⟩:=Hmiss.out (by omega)
  have Hj:=Lib.hid hj
  have Hnew:=Lib.hid hnew
  clear hj hnew
  go_wp2
  (refine wRT (by kernel_rfl) (by kernel_rfl) ?_)
  go_wp2_with (at_builtin;refine append_quad (k:=x) (n:=ns.length) (base:=0) (xs:=flat ns) rfl rfl rfl ?e1 rfl ?e2 ?e3 ?e4 ?_)
  case e1=>exact oOB Hown.out fun y hy=>by simp only [hDR];exact hAE _ _ _ (oLT Hown.out hy)
  case e2=>(repeat first|rw [if_pos (by omega)]|rw [if_neg (by omega)]|rw [hDR]|rw [hDN]|rw [hAz]|rw [hSz]|rw [hAC]|rw [hSC]|rw [oMS]|rw [uPC]|rw [lSZ]|rw [lSS]|rfl)
  case e3=>have:=Hlen.out;omega
  case e4=>omega
  intro g cap w9 hown1 hW1 hF1 hloc1 hg1
  have hb9:w9.heap[b]?=some (.cells #[.int .i64 s,.slice na ns.length nc] 95 (0,0)):=by
   rw [hW1 b (by omega) HI.out.ne]
   show (World.alloc _ _).heap[b]?=_
   rw [hAE _ _ _ hb12]
   exact Hblk.out
  have o0:=hEC hb9 0
  have o1:=hEC hb9 1
  have q1:=hEF hb9 1
  have hlt9:=lBk hb9
  have Hown1:=Lib.hid hown1
  have HW1:=Lib.hid hW1
  have HF1:=Lib.hid hF1
  have Hloc:=Lib.hid hloc1
  have Hb9:=Lib.hid hb9
  have hl9:ns.length<90000:=Hlen.out
  have hgb:g≠b:=fun e=>by
   rcases hloc1 with h|h
   ·rw [e] at h;exact HI.out.ne h
   ·omega
  clear hown1 hW1 hF1 hloc1 hb9
  go_wp2
  refine Strict.intro rfl ?_
  go_wp2
  (refine wRT (by kernel_rfl) (by kernel_rfl) ?_)
  go_wp2
  refine Strict.intro rfl ?_
  go_wp2
  go_ret2
  refine⟨?_,b::[g],⟨?_,.slice (some ⟨g,0,none⟩) (ns.length+1) cap,⟨?_,?_,?_⟩,rfl⟩,?_,?_⟩
  ·rw [Hj.out]
   show Ending.returned (.tuple #[.int .i64 _,.int .i64 0])=Ending.returned (.tuple #[.int .i64 (s+ns.length),.int .i64 0])
   congr;omega
  ·rw [Hj.out]
   exact Hgood.out.snoc Hfit.out Hnew.out (by omega)
  ·(repeat first|rw [if_pos (by omega)]|rw [if_neg (by omega)]|rw [hDR]|rw [hDN]|rw [hAz]|rw [hSz]|rw [hAC]|rw [hSC]|rw [oMS]|rw [uPC]|rw [lSZ]|rw [lSS]|rfl)
   rw [Hb9.out];rfl
  ·rw [Hj.out]
   show World.ownsRow _ _ _ _ _ (ns++[x]).length (flat (ns++[x]))
   rw [flat_snoc,List.length_append]
   refine oOB Hown1.out fun y hy=>?_
   have:g=y:=by simpa [Value.ownBlock] using hy
   rw [hDR,hSC,if_neg (by omega)]
  ·intro e
   have:g=b:=by simpa [Value.ownBlock] using e
   exact hgb this
  ·have h1:Fr (b::(Value.slice na ns.length nc).ownBlock.toList) w w12:=(Hf3.out.trans0 Hf12.out).mono (by simp)
   have h2:=(h1.alloc (.cells #[.int .i64 x.a,.int .i64 x.b,.int .i64 x.c,.int .i64 x.d] 77)).drew.trans HF1.out (fun y hy=>.inl (by simp [hy]))
   repeat (first|exact h2|apply Fr.drewN|apply Fr.drew|refine Fr.setCell ?_ (.inl (by simp)) _)
  ·intro y hy
   simp only [List.mem_cons,List.mem_nil_iff,or_false] at hy
   rcases hy with rfl|rfl
   ·exact .inl (by simp)
   ·rcases Hloc.out with h|h
    ·exact .inl (by simp [h])
    ·right
     have:=(Hf3.out.trans0 Hf12.out).size
     omega
end Go.Proofs.Ytppmnmheodimoaa
end
section
namespace Go.Proofs.Ytppmnmheodimoaa
open Go Go.RowKit Rg Mp Hp Qs
theorem node_down {s:Int} {ns:List K4} (h:GoodQ s ns) {j:Nat} {k:K4} (hj:ns[j]?=some k) :
  ∃ L,1≤L∧L≤256∧lvl s (levs s ns) (s+j)=L∧lvl s (levs s ns) k.a=L - 1∧lvl s (levs s ns) k.b=L - 1∧lvl s (levs s ns) k.c=L - 1∧lvl s (levs s ns) k.d=L - 1∧join s ns k=((s+j,0),ns):=by
 have hs:2≤s:=h.1
 have hlt:j<ns.length:=(List.getElem?_eq_some_iff.1 hj).1
 obtain⟨h0,h1,h2,h3,h4⟩:=h.2.2.2.2 j k hj
 have hlen:(levs s (ns.take j)).length=j:=by rw [levs_length,List.length_take];omega
 have up:∀ id,0≤lvl s (levs s (ns.take j)) id→lvl s (levs s (ns.take j)) id=lvl s (levs s ns) id:=fun id hid=>by
  have:=lvl_known hid
  exact lvl_take (by omega) (by omega)
 have ea:=up k.a h0
 have eb:=up k.b (by omega)
 have ec:=up k.c (by omega)
 have ed:=up k.d (by omega)
 have hd:=(kid_down h hj).2.2
 rw [ea] at h0 h1 h2 h3 h4
 rw [eb] at h2
 rw [ec] at h3
 rw [ed] at h4
 refine⟨_,?_,?_,rfl,?_,?_,?_,?_,?_⟩
 ·omega
 ·omega
 ·omega
 ·omega
 ·omega
 ·omega
 ·unfold join
  rw [if_neg (by omega),if_neg (fun hn=>hn ⟨h0,h1,h2,h3,h4⟩)]
  refine joinIn_hit ?_
  rw [List.idxOf?_eq_some_iff]
  have hk:ns[j]=k:=(List.getElem?_eq_some_iff.1 hj).2
  refine⟨hlt,by simpa using hk,fun i hi=>?_⟩
  intro he
  have he':ns[i]=ns[j]:=by rw [hk];simpa using he
  have:=(List.getElem_inj h.2.2.2.1).1 he'
  omega
end Go.Proofs.Ytppmnmheodimoaa
end
section
namespace Go.Proofs.Ytppmnmheodimoaa
open Go Go.RowKit Rg Mp Hp Qs
theorem climb_grow {s:Int} {ns:List K4} (hg:GoodQ s ns):∀ (m:Nat) (id:Int) (n:Nat),n≤(climb s ns m id n).2∧grow s m id ns=grow s (m - ((climb s ns m id n).2 - n)) (climb s ns m id n).1 ns
 | 0,id,n=>⟨Nat.le_refl _,by simp [climb]⟩
 | m+1,id,n=>by
  unfold climb
  cases hi:ns.idxOf? (four id) with
  | none=>exact⟨Nat.le_refl _,by simp⟩
  | some i =>
   obtain⟨L,_,_,_,_,_,_,_,hj⟩:=node_down hg (idx_get hi)
   obtain⟨h1,h2⟩:=climb_grow hg m (s+i) (n+1)
   refine⟨by show n≤(climb s ns m (s+i) (n+1)).2;omega,?_⟩
   show grow s (m+1) id ns=grow s (m+1 - ((climb s ns m (s+i) (n+1)).2 - n)) (climb s ns m (s+i) (n+1)).1 ns
   rw [show m+1 - ((climb s ns m (s+i) (n+1)).2 - n)=m - ((climb s ns m (s+i) (n+1)).2 - (n+1)) by omega,← h2]
   show grow s m (join s ns (four id)).1.1 (join s ns (four id)).2=_
   rw [hj]
theorem grow_snoc (s:Int):∀ (m:Nat) (id:Int) (ns:List K4),grow s (m+1) id ns=((join s (grow s m id ns).2 (four (grow s m id ns).1)).1.1,(join s (grow s m id ns).2 (four (grow s m id ns).1)).2)
 | 0,_,_=>rfl
 | m+1,id,ns=>by
  show grow s (m+1) (join s ns (four id)).1.1 (join s ns (four id)).2=_
  rw [grow_snoc s m]
  rfl
theorem empty_grow {s:Int} {ns:List K4} (hg:GoodQ s ns) {L:Nat} (hL:L≤256) (hl:ns.length+L≤100000):emptyQ s ns L=(((grow s L 0 ns).1,0),(grow s L 0 ns).2):=by
 obtain⟨_,h⟩:=climb_grow hg L 0 0
 have hk:=climb_le (s:=s) (ns:=ns) L 0 0
 unfold emptyQ
 rw [if_neg (by omega),show (L:Int).toNat=L by omega,if_neg (by omega),h]
 rfl
theorem grow_len (s:Int):∀ (m:Nat) (id:Int) (ns:List K4),(grow s m id ns).2.length≤ns.length+m
 | 0,_,_=>Nat.le_refl _
 | m+1,id,ns=>by
  have h1:=grow_len s m (join s ns (four id)).1.1 (join s ns (four id)).2
  have h2:=join_len s ns (four id)
  show (grow s m (join s ns (four id)).1.1 (join s ns (four id)).2).2.length≤_
  omega
theorem empty_low {s:Int} {ns:List K4} {l:Int} (h:l<0):emptyQ s ns l=((0,18),ns):=by
 unfold emptyQ
 rw [if_pos (.inl h)]
theorem grow_next {s:Int} {ns:List K4} (hg:GoodQ s ns) {i:Nat} (hi:i<256) (hl:ns.length+256≤100000) :
  (∃ j:Nat,(grow s i 0 ns).2.idxOf? (four (grow s i 0 ns).1)=some j∧j<(grow s i 0 ns).2.length∧grow s (i+1) 0 ns=(s+j,(grow s i 0 ns).2)) ∨
  ((grow s i 0 ns).2.idxOf? (four (grow s i 0 ns).1)=none∧grow s (i+1) 0 ns=(s+(grow s i 0 ns).2.length,(grow s i 0 ns).2++[four (grow s i 0 ns).1])):=by
 obtain⟨h1,h2⟩:=grow_chain i (id:=0) (n:=0) hg rfl (by omega) (by omega)
 have hlen:=grow_len s i 0 ns
 have hlv:=Chain_level h1 h2
 rw [grow_snoc]
 have hfit:Fits s (grow s i 0 ns).2 (four (grow s i 0 ns).1):=⟨by show 0≤lvl _ _ (grow s i 0 ns).1;omega,by show lvl _ _ (grow s i 0 ns).1<256;omega,rfl,rfl,rfl⟩
 have hj:join s (grow s i 0 ns).2 (four (grow s i 0 ns).1)=joinIn s (grow s i 0 ns).2 (four (grow s i 0 ns).1):=by
  unfold join
  have h0:0≤lvl s (levs s (grow s i 0 ns).2) (grow s i 0 ns).1:=by omega
  rw [if_neg (by show ¬ (lvl s (levs s (grow s i 0 ns).2) (grow s i 0 ns).1<0∨lvl s (levs s (grow s i 0 ns).2) (grow s i 0 ns).1<0∨lvl s (levs s (grow s i 0 ns).2) (grow s i 0 ns).1<0∨lvl s (levs s (grow s i 0 ns).2) (grow s i 0 ns).1<0);omega),if_neg (fun hh=>hh hfit)]
 rw [hj]
 cases hi2:(grow s i 0 ns).2.idxOf? (four (grow s i 0 ns).1) with
 | some j =>
  left
  refine⟨j,rfl,?_,by rw [joinIn_hit hi2]⟩
  rw [List.idxOf?_eq_some_iff] at hi2
  exact hi2.1
 | none =>
  right
  exact⟨rfl,by rw [joinIn_new hi2 (by omega)]⟩
set_option maxHeartbeats 8000000 in
set_option maxRecDepth 100000 in
theorem REmpty_calls {w:World} {b:Nat} {s:Int} {ns:List K4} {F:List Nat} (hS:RefAt w b s ns F) (hlen:ns.length+256≤90000) (level:Int) :
  Calls Try.prog 78 #[.pointer (some ⟨b,0,none⟩),.int .i64 level] w (RTwo w b s (emptyQ s ns level) F):=by
 by_cases hneg:level<0
 ·have hE:=empty_low (s:=s) (ns:=ns) hneg
  have HE:=Lib.hid hE
  have HS:=Lib.hid hS
  clear hE hS hlen
  go_enter Try.func78,Try.ntmps78
  go_wp2
  go_ret2
  exact RTwo.same HS.out (Fr.refl _ _) HE.out
 by_cases hbig:256<level
 ·have hE:=empty_high (s:=s) (ns:=ns) hbig
  have HE:=Lib.hid hE
  have HS:=Lib.hid hS
  clear hE hS hlen
  go_enter Try.func78,Try.ntmps78
  go_wp2
  go_ret2
  exact RTwo.same HS.out (Fr.refl _ _) HE.out
 obtain⟨L,rfl⟩:∃ L:Nat,level=L:=⟨level.toNat,by omega⟩
 have hL:L≤256:=by omega
 have hE:=empty_grow hS.1 hL (by omega)
 have HE:=Lib.hid hE
 have HS:=Lib.hid hS
 have Hlen:=Lib.hid hlen
 clear hE hlen hneg hbig
 obtain⟨hgood,nv,hI,rfl⟩:=hS
 obtain⟨na,nc,rfl,_,_⟩:=oFM hI.nodes
 have b0:=hEC hI.blk 0
 have b1:=hEC hI.blk 1
 have hs1:2≤s:=hgood.1
 have hs2:s≤8:=hgood.2.1
 have hb:b<w.heap.size:=lBk hI.blk
 have HI:=Lib.hid hI
 have Hgood:=Lib.hid hgood
 clear hI hgood
 obtain⟨i0,hi0,hi1,hi2,hi3⟩:=info_parts info_quad
 go_enter Try.func78,Try.ntmps78
 go_wp2_with fail
 refine (copied_ref (s:=s) (by have:=Hlen.out;omega) (Reads.of_owns HI.out.nodes)).mono ?_
 rintro e w2 ⟨v,rfl,ho,hf⟩
 obtain⟨va,vc,rfl,_,_⟩:=oFM ho
 have hsz2:=hf.size
 have Ho:=Lib.hid ho
 have Hf:=Lib.hid hf
 clear ho hf b0 b1
 go_wp2
 go_loopw [8,7] (fun x y wr=>∃ (i:Nat) (nv:Value),x=.int .i64 i∧y=.int .i64 (grow s i 0 ns).1∧i≤L∧Fr [] w wr∧wr.heap[w2.heap.size]?=some (.cells #[.int .i64 s,nv] 39 (0,0)) ∧
   wr.ownsRow w.heap.size 77 4 nv (grow s i 0 ns).2.length (flat (grow s i 0 ns).2)∧nv.ownBlock≠some w2.heap.size) (fun x _ _=>L - (intOf x).toNat)
 case atStart =>
  refine⟨0,_,rfl,rfl,by omega,Hf.out.alloc _,by (repeat first|rw [if_pos (by omega)]|rw [if_neg (by omega)]|rw [hDR]|rw [hDN]|rw [hAz]|rw [hSz]|rw [hAC]|rw [hSC]|rw [oMS]|rw [uPC]|rw [lSZ]|rw [lSS]|rfl),oOB Ho.out fun x hx=>hAE _ _ _ (oLT Ho.out hx),fun h=>?_⟩
  have:=oLT Ho.out h
  omega
 case round =>
  obtain⟨i,nv,rfl,rfl,hi,hf,hq,hown,hne⟩:=hrel
  have q0:=hEC hq 0
  have q1:=hEC hq 1
  have p1:=hEF hq 1
  have hqlt:w2.heap.size<wr.heap.size:=lBk hq
  have hgl:=grow_len s i 0 ns
  have hnb:∀ x,nv.ownBlock=some x→w.heap.size≤x:=fun x hx=>owns_ge hown hx
  obtain⟨ma,mc,rfl,_,_⟩:=oFM hown
  by_cases hlt:i<L
  ·have hnext:=grow_next Hgood.out (i:=i) (by omega) (by have:=Hlen.out;omega)
   obtain⟨G,hG⟩:∃ G,G=grow s i 0 ns:=⟨_,rfl⟩
   rw [← hG] at hnext hown q1 hgl hq hne hnb
   rw [← hG]
   obtain⟨id,ms⟩:=G
   simp only at hnext hown q1 hgl hq hne hnb
   have hml:ms.length≤1048576:=by have:=Hlen.out;omega
   have Hf':=Lib.hid hf
   have Hq:=Lib.hid hq
   have Hown:=Lib.hid hown
   have Hne:=Lib.hid hne
   have Hgl:=Lib.hid hgl
   have Hnb:=Lib.hid hnb
   have Hnext:=Lib.hid hnext
   clear hf hq hown hne hgl hnb hnext hG
   have hF:∀ w1 fi,fi=findR ms (four id)→Fr [] wr w1→Calls Try.prog 66 #[.agg #[.int .i64 s,.slice ma ms.length mc],.agg #[.int .i64 id,.int .i64 id,.int .i64 id,.int .i64 id]] w1 fun e w'=>e=.returned (.int .i64 fi)∧Fr [] w1 w':=fun w1 fi hfi hf1=>by
    subst hfi
    refine (find_ref (s:=s) (by omega) ((Reads.of_owns Hown.out).fr hf1) (four id)).mono ?_
    rintro e w' ⟨rfl,o1,o2,n,rfl⟩
    exact⟨rfl,(((Fr.refl [] w1).alloc o1).alloc o2).drewN n⟩
   have HF:=Lib.hid hF
   clear hF
   have hfacts:∀ w3,Fr [] (wr.alloc (.cells #[.int .i64 id,.int .i64 id,.int .i64 id,.int .i64 id] 75)) w3→Fr [] w w3∧wr.heap.size<w3.heap.size∧w3.heap[w2.heap.size]?=some (.cells #[.int .i64 s,.slice ma ms.length mc] 39 (0,0)) ∧
     w3.heap[wr.heap.size]?=some (.cells #[.int .i64 id,.int .i64 id,.int .i64 id,.int .i64 id] 75 (0,0))∧w3.ownsRow w.heap.size 77 4 (.slice ma ms.length mc) ms.length (flat ms):=fun w3 hf3=>by
    have hsz:=hf3.size
    rw [hAz] at hsz
    refine⟨((Hf'.out.alloc _).trans0 hf3),by omega,?_,?_,?_⟩
    ·rw [hf3.block _ (by rw [hAz];omega) (by simp),hAE _ _ _ hqlt];exact Hq.out
    ·rw [hf3.block _ (by rw [hAz];omega) (by simp)];(repeat first|rw [if_pos (by omega)]|rw [if_neg (by omega)]|rw [hDR]|rw [hDN]|rw [hAz]|rw [hSz]|rw [hAC]|rw [hSC]|rw [oMS]|rw [uPC]|rw [lSZ]|rw [lSS]|rfl)
    ·exact oOB Hown.out fun y hy=>by
      have:=oLT Hown.out hy
      rw [hf3.block _ (by rw [hAz];omega) (by simp),hAE _ _ _ this]
   have Hfacts:=Lib.hid hfacts
   clear hfacts
   rcases Hnext.out with ⟨j,hj,hjl,hG⟩|⟨hn,hG⟩
   ·have HG:=Lib.hid hG
    have hfi:(j:Int)=findR ms (four id):=by unfold findR;rw [hj]
    have Hfi:=Lib.hid hfi
    clear hG hj hfi Hnext
    go_wp2_with fail
    refine (HF.out _ _ Hfi.out ((Fr.refl _ _).alloc _)).mono ?_
    rintro e w3 ⟨rfl,hf3⟩
    obtain⟨g1,g2,g3,g4,g5⟩:=Hfacts.out w3 hf3
    have q0:=hEC g3 0
    have q1:=hEC g3 1
    have G1:=Lib.hid g1
    have G3:=Lib.hid g3
    have G5:=Lib.hid g5
    clear g1 g3 g4 g5 hf3
    go_wp2
    go_roundw
    case rel=>exact⟨i+1,_,by go_num,by rw [HG.out],by omega,G1.out,G3.out,by rw [HG.out];exact G5.out,Hne.out⟩
    case measure=>simp [intOf];omega
   ·have HG:=Lib.hid hG
    have hfi:(-1:Int)=findR ms (four id):=by unfold findR;rw [hn]
    have Hfi:=Lib.hid hfi
    clear hG hn hfi Hnext
    go_wp2_with fail
    refine (HF.out _ _ Hfi.out ((Fr.refl _ _).alloc _)).mono ?_
    rintro e w3 ⟨rfl,hf3⟩
    obtain⟨g1,g2,g3,g4,g5⟩:=Hfacts.out w3 hf3
    have q0:=hEC g3 0
    have q1:=hEC g3 1
    have p1:=hEF g3 1
    have k0:=hEC g4 0
    have k1:=hEC g4 1
    have k2:=hEC g4 2
    have k3:=hEC g4 3
    have hq3:=lBk g3
    have G1:=Lib.hid g1
    have G3:=Lib.hid g3
    have G5:=Lib.hid g5
    clear g1 g3 g4 g5 hf3
    go_wp2_with (at_builtin;refine append_quad (k:=four id) (n:=ms.length) (base:=w.heap.size) (xs:=flat ms) rfl rfl rfl ?e1 rfl ?e2 ?e3 ?e4 ?_)
    case e1=>exact oOB G5.out fun y hy=>hAE _ _ _ (oLT G5.out hy)
    case e2=>(repeat first|rw [if_pos (by omega)]|rw [if_neg (by omega)]|rw [hDR]|rw [hDN]|rw [hAz]|rw [hSz]|rw [hAC]|rw [hSC]|rw [oMS]|rw [uPC]|rw [lSZ]|rw [lSS]|rfl)
    case e3=>omega
    case e4=>have:=G1.out.size;simp;omega
    intro g cap w9 hown1 hW1 hF1 hloc1 hg1
    have hsz3:=G1.out.size
    have hb9:w9.heap[w2.heap.size]?=some (.cells #[.int .i64 s,.slice ma ms.length mc] 39 (0,0)):=by
     rw [hW1 _ (by omega) Hne.out]
     show (World.alloc _ _).heap[_]?=_
     rw [hAE _ _ _ hq3];exact G3.out
    have o0:=hEC hb9 0
    have o1:=hEC hb9 1
    have r1:=hEF hb9 1
    have hlt9:=lBk hb9
    have hgq:g≠w2.heap.size:=fun e=>by
     rcases hloc1 with h|h
     ·rw [e] at h;exact Hne.out h
     ·omega
    have hgw:w.heap.size≤g:=owns_ge hown1 rfl
    have HF9:=Lib.hid ((G1.out.alloc _).trans hF1 (fun y hy=>.inr (Hnb.out y (by simpa using hy))))
    have Hown1:=Lib.hid hown1
    have Hb9:=Lib.hid hb9
    have Hgw:=Lib.hid hgw
    clear hown1 hW1 hF1 hloc1 hb9 hsz3 hgw
    go_wp2
    go_roundw
    case rel =>
     refine⟨i+1,.slice (some ⟨g,0,none⟩) (ms.length+1) cap,by go_num,?_,by omega,?_,?_,?_,?_⟩
     ·rw [HG.out]
     ·exact HF9.out.setCell (.inr (by show w.heap.size≤w2.heap.size;omega)) _
     ·(repeat first|rw [if_pos (by omega)]|rw [if_neg (by omega)]|rw [hDR]|rw [hDN]|rw [hAz]|rw [hSz]|rw [hAC]|rw [hSC]|rw [oMS]|rw [uPC]|rw [lSZ]|rw [lSS]|rfl)
      rw [Hb9.out];rfl
     ·rw [HG.out]
      show World.ownsRow _ _ _ _ _ (ms++[four id]).length (flat (ms++[four id]))
      rw [flat_snoc,List.length_append]
      refine oOB Hown1.out fun y hy=>?_
      have:g=y:=by simpa [Value.ownBlock] using hy
      rw [hSC,if_neg (by omega)]
     ·intro e
      have:g=w2.heap.size:=by simpa [Value.ownBlock] using e
      exact hgq this
    case measure=>simp [intOf];omega
  ·obtain rfl:i=L:=by omega
   have hbr:wr.heap[b]?=some (.cells #[.int .i64 s,.slice na ns.length nc] 95 (0,0)):=(hf.block b hb (by simp)).trans HI.out.blk
   have c0:=hEC hbr 0
   have c1:=hEC hbr 1
   have d0:=hEF hbr 0
   have d1:=hEF hbr 1
   obtain⟨h1,_⟩:=grow_chain i (id:=0) (n:=0) Hgood.out rfl (by omega) (by have:=Hlen.out;omega)
   have hgood:GoodQ s (grow s i 0 ns).2:=h1
   have hd:decide ((100000:Int)<↑(grow s i 0 ns).2.length)=false:=by have:=Hlen.out;simp;omega
   have Hbr:=Lib.hid hbr
   have Hf':=Lib.hid hf
   have Hown:=Lib.hid hown
   have Hgd:=Lib.hid hgood
   clear hbr hf hown hgood h1 hgl
   obtain⟨G,hG⟩:∃ G,G=grow s i 0 ns:=⟨_,rfl⟩
   rw [← hG] at hd q1
   rw [← hG]
   have HG:=Lib.hid hG
   clear hG
   go_wp2
   go_ret2
   have hE:=HE.out
   rw [← HG.out] at hE
   have hO:=Hown.out
   rw [← HG.out] at hO
   rw [← HG.out] at hnb
   have hgd:=Hgd.out
   rw [← HG.out] at hgd
   rw [hE]
   refine⟨rfl,b::(Value.slice ma G.2.length mc).ownBlock.toList,⟨hgd,.slice ma G.2.length mc,⟨?_,?_,?_⟩,rfl⟩,?_,?_⟩
   ·(repeat first|rw [if_pos (by omega)]|rw [if_neg (by omega)]|rw [hDR]|rw [hDN]|rw [hAz]|rw [hSz]|rw [hAC]|rw [hSC]|rw [oMS]|rw [uPC]|rw [lSZ]|rw [lSS]|rfl)
    rw [Hbr.out];rfl
   ·refine oOB (owns_base hO (Nat.zero_le _)) fun y hy=>?_
    have:=hnb y hy
    rw [heap_setCell2 _ _ _ _ _ _ (by omega)]
   ·intro e;have:=hnb _ e;omega
   ·have h1:Fr (b::(Value.slice na ns.length nc).ownBlock.toList) w wr:=Hf'.out.mono (by simp)
    repeat (first|exact h1|apply Fr.drewN|apply Fr.drew|refine Fr.setCell ?_ (.inl (by simp)) _)
   ·intro y hy
    simp only [List.mem_cons,Option.mem_toList] at hy
    rcases hy with rfl|hy
    ·exact .inl (by simp)
    ·exact .inr (hnb y hy)
end Go.Proofs.Ytppmnmheodimoaa
end
section
namespace Go.Proofs.Ytppmnmheodimoaa
open Go Qs Ev
def treeOf:Nat→List Spot→Tr
 | n,[]=>emptyT n
 | 0,c::_=>.leaf c.st
 | n+1,c::l=>.node (treeOf n (partQ (2 ^ n) 0 (c::l))) (treeOf n (partQ (2 ^ n) 1 (c::l))) (treeOf n (partQ (2 ^ n) 2 (c::l))) (treeOf n (partQ (2 ^ n) 3 (c::l)))
def newT:Nat→List Spot→List Tr
 | _,[]=>[]
 | 0,_::_=>[]
 | n+1,c::l=>treeOf (n+1) (c::l)::(newT n (partQ (2 ^ n) 0 (c::l))++(newT n (partQ (2 ^ n) 1 (c::l))++(newT n (partQ (2 ^ n) 2 (c::l))++newT n (partQ (2 ^ n) 3 (c::l)))))
def emptiesT (n:Nat):List Tr:=(List.range n).map fun i=>emptyT (i+1)
theorem quadOf_lt (h:Nat) (c:Spot):quadOf h c<4:=by unfold quadOf;split<;>split<;>omega
theorem filter_four (f:Spot→Nat) (hf:∀ c,f c<4):∀ l:List Spot,((l.filter fun c=>decide (f c=0))++((l.filter fun c=>decide (f c=1))++((l.filter fun c=>decide (f c=2))++(l.filter fun c=>decide (f c=3))))).Perm l
 | []=>List.Perm.refl _
 | c::l=>by
  have ih:=filter_four f hf l
  have:=hf c
  have h4:f c=0∨f c=1∨f c=2∨f c=3:=by omega
  rcases h4 with e|e|e|e<;>simp only [List.filter_cons,e,decide_true,if_true,show decide ((0:Nat)=1)=false from rfl,show decide ((0:Nat)=2)=false from rfl,show decide ((0:Nat)=3)=false from rfl,
   show decide ((1:Nat)=0)=false from rfl,show decide ((1:Nat)=2)=false from rfl,show decide ((1:Nat)=3)=false from rfl,show decide ((2:Nat)=0)=false from rfl,show decide ((2:Nat)=1)=false from rfl,show decide ((2:Nat)=3)=false from rfl,
   show decide ((3:Nat)=0)=false from rfl,show decide ((3:Nat)=1)=false from rfl,show decide ((3:Nat)=2)=false from rfl,Bool.false_eq_true,if_false]
  ·exact ih.cons c
  ·exact List.perm_middle.trans (ih.cons c)
  ·refine List.Perm.trans ?_ (ih.cons c)
   refine (List.Perm.append_left _ List.perm_middle).trans ?_
   exact List.perm_middle
  ·refine List.Perm.trans ?_ (ih.cons c)
   refine (List.Perm.append_left _ ((List.Perm.append_left _ List.perm_middle).trans List.perm_middle)).trans ?_
   exact List.perm_middle
theorem part_len (h:Nat) (l:List Spot):(partQ h 0 l).length+(partQ h 1 l).length+(partQ h 2 l).length+(partQ h 3 l).length=l.length:=by
 have:=(filter_four (quadOf h) (quadOf_lt h) l).length_eq
 simp only [List.length_append] at this
 simp only [partQ,List.length_map]
 omega
theorem newT_len:∀ (n:Nat) (l:List Spot),(newT n l).length≤l.length*n
 | n,[]=>by cases n<;>simp [newT]
 | 0,c::l=>by simp [newT]
 | n+1,c::l=>by
  have h0:=newT_len n (partQ (2 ^ n) 0 (c::l))
  have h1:=newT_len n (partQ (2 ^ n) 1 (c::l))
  have h2:=newT_len n (partQ (2 ^ n) 2 (c::l))
  have h3:=newT_len n (partQ (2 ^ n) 3 (c::l))
  have hp:=part_len (2 ^ n) (c::l)
  simp only [newT,List.length_cons,List.length_append] at *
  generalize (partQ (2 ^ n) 0 (c::l)).length=a at *
  generalize (partQ (2 ^ n) 1 (c::l)).length=b at *
  generalize (partQ (2 ^ n) 2 (c::l)).length=e at *
  generalize (partQ (2 ^ n) 3 (c::l)).length=d at *
  have hm:a*n+b*n+e*n+d*n=(l.length+1)*n:=by rw [← hp];simp only [Nat.add_mul]
  rw [Nat.mul_succ]
  omega
structure OkS (s:Int) (n:Nat) (l:List Spot):Prop where
 inside:∀ c∈l,c.x<2 ^ n∧c.y<2 ^ n
 state:∀ c∈l,1≤c.st∧c.st<s
 apart:l.Pairwise fun a b=>¬ (a.x=b.x∧a.y=b.y)
theorem OkS.part {s:Int} {n:Nat} {l:List Spot} (h:OkS s (n+1) l) (k:Nat):OkS s n (partQ (2 ^ n) k l) where
 inside c hc:=by
  simp only [partQ,List.mem_map,List.mem_filter,decide_eq_true_eq] at hc
  obtain⟨d,⟨hd,hq⟩,rfl⟩:=hc
  have:=h.inside d hd
  rw [Nat.pow_succ] at this
  simp only [intoQ]
  constructor<;>split<;>omega
 state c hc:=by
  simp only [partQ,List.mem_map,List.mem_filter,decide_eq_true_eq] at hc
  obtain⟨d,⟨hd,hq⟩,rfl⟩:=hc
  exact h.state d hd
 apart:=by
  unfold partQ
  rw [List.pairwise_map]
  refine List.Pairwise.imp_of_mem ?_ (h.apart.filter _)
  intro a b ha hb hab
  simp only [List.mem_filter,decide_eq_true_eq] at ha hb
  have e:quadOf (2 ^ n) a=quadOf (2 ^ n) b:=ha.2.trans hb.2.symm
  unfold quadOf at e
  simp only [intoQ]
  intro hh
  apply hab
  obtain⟨h1,h2⟩:=hh
  by_cases x1:2 ^ n≤a.x<;>by_cases x2:2 ^ n≤b.x<;>by_cases y1:2 ^ n≤a.y<;>by_cases y2:2 ^ n≤b.y<;>simp only [x1,x2,y1,y2,if_true,if_false] at e h1 h2<;>omega
theorem OkS.nil {s:Int} {n:Nat}:OkS s n []:=⟨by simp,by simp,List.Pairwise.nil⟩
theorem OkS.one {s:Int} {c:Spot} {l:List Spot} (h:OkS s 0 (c::l)):l=[]∧c.x=0∧c.y=0:=by
 have hc:=h.inside c (by simp)
 cases l with
 | nil=>exact⟨rfl,by omega,by omega⟩
 | cons d l =>
  have hd:=h.inside d (by simp)
  have:=(List.pairwise_cons.1 h.apart).1 d (by simp)
  simp only [Nat.pow_zero] at hc hd
  exact absurd ⟨by omega,by omega⟩ this
def movS (X Y:Nat) (c:Spot):Spot:=⟨X+c.x,Y+c.y,c.st⟩
theorem cells_treeOf {s:Int}:∀ {n:Nat} {l:List Spot} {X Y:Nat},OkS s n l→(cellsT n (treeOf n l) X Y).Perm (l.map (movS X Y))
 | n,[],X,Y,_=>by
  have:treeOf n []=emptyT n:=by cases n<;>rfl
  rw [this,cellsT_none (empty_full n) (pop_empty n)]
  exact List.Perm.refl _
 | 0,c::l,X,Y,h=>by
  obtain⟨rfl,hx,hy⟩:=h.one
  have:=h.state c (by simp)
  simp only [treeOf,cellsT,List.map_cons,List.map_nil,movS]
  rw [if_neg (by omega),hx,hy]
  exact List.Perm.refl _
 | n+1,c::l,X,Y,h=>by
  have e:∀ k (A B:Nat),(∀ d∈c::l,quadOf (2 ^ n) d=k→A+(intoQ (2 ^ n) d).x=X+d.x∧B+(intoQ (2 ^ n) d).y=Y+d.y) →
    (cellsT n (treeOf n (partQ (2 ^ n) k (c::l))) A B).Perm (((c::l).filter fun d=>decide (quadOf (2 ^ n) d=k)).map (movS X Y)):=by
   intro k A B hk
   refine (cells_treeOf (h.part k)).trans ?_
   have:((partQ (2 ^ n) k (c::l)).map (movS A B))=((c::l).filter fun d=>decide (quadOf (2 ^ n) d=k)).map (movS X Y):=by
    unfold partQ
    rw [List.map_map]
    apply List.map_congr_left
    intro d hd
    simp only [List.mem_filter,decide_eq_true_eq] at hd
    obtain⟨h1,h2⟩:=hk d hd.1 hd.2
    simp only [Function.comp_apply,movS]
    rw [h1,h2];rfl
   rw [this]
  have hq:∀ d:Spot,∀ k,quadOf (2 ^ n) d=k→(k % 2=1↔2 ^ n≤d.x)∧(2≤k↔2 ^ n≤d.y):=by
   intro d k hk
   unfold quadOf at hk
   constructor<;>constructor<;>intro hh<;>(repeat' split at hk)<;>omega
  have hP:=filter_four (quadOf (2 ^ n)) (quadOf_lt (2 ^ n)) (c::l)
  refine List.Perm.trans ?_ (hP.map (movS X Y))
  rw [List.map_append,List.map_append,List.map_append]
  simp only [treeOf,cellsT]
  refine (e 0 X Y ?_).append ((e 1 (X+2 ^ n) Y ?_).append ((e 2 X (Y+2 ^ n) ?_).append (e 3 (X+2 ^ n) (Y+2 ^ n) ?_))) <;>
  ·intro d hd hk
   obtain⟨h1,h2⟩:=hq d _ hk
   simp only [intoQ]
   constructor<;>split<;>omega
theorem treeOf_full:∀ (n:Nat) (l:List Spot),Full n (treeOf n l)
 | n,[]=>by
        have:treeOf n []=emptyT n:=by cases n<;>rfl
        rw [this];exact empty_full n
 | 0,c::l=>trivial
 | n+1,c::l=>⟨treeOf_full n _,treeOf_full n _,treeOf_full n _,treeOf_full n _⟩
theorem grow_room {s:Int} {L:List Tr}:∀ (m:Nat) {id:Int} {n:Nat} {ns:List K4},GoodQ s ns→room s ns L→Is s ns n id (emptyT n)→n+m≤256→(∀ i,i<n+m→emptyT (i+1)∈L) →
  GoodQ s (grow s m id ns).2∧room s (grow s m id ns).2 L∧ns <+: (grow s m id ns).2∧Is s (grow s m id ns).2 (n+m) (grow s m id ns).1 (emptyT (n+m))
 | 0,_,_,_,hg,hr,h,_,_=>⟨hg,hr,List.prefix_refl _,h⟩
 | m+1,id,n,ns,hg,hr,h,hn,hL=>by
  obtain⟨a,ms,hj,hg2,hp2,hr2,hi2⟩:=join_room hg hr (by omega) h h h h (hL n (by omega))
  obtain⟨h1,h2,h3,h4⟩:=grow_room m hg2 hr2 (n:=n+1) hi2 (by omega) (fun i hi=>hL i (by omega))
  unfold grow
  rw [show four id=⟨id,id,id,id⟩ from rfl,hj]
  exact⟨h1,h2,hp2.trans h3,by rw [show n+(m+1)=n+1+m by omega];exact h4⟩
theorem empty_room {s:Int} {L:List Tr} {ns:List K4} (hg:GoodQ s ns) (hr:room s ns L) {n:Nat} (hn:n≤256) (hL:∀ i,i<n→emptyT (i+1)∈L) :
  ∃ id ms,emptyQ s ns n=((id,0),ms)∧GoodQ s ms∧ns <+: ms∧room s ms L∧Is s ms n id (emptyT n):=by
 have hk:=climb_le (s:=s) (ns:=ns) n 0 0
 have hc:=climb_chain (s:=s) (ns:=ns) n (id:=0) (n:=0) rfl
 obtain⟨h1,h2,h3,h4⟩:=grow_room (s:=s) (L:=L) (n - (climb s ns n 0 0).2) hg hr (chain_is hg hc) (by omega) (fun i hi=>hL i (by omega))
 rw [show (climb s ns n 0 0).2+(n - (climb s ns n 0 0).2)=n by omega] at h4
 refine⟨_,_,?_,h1,h3,h2,h4⟩
 have:=hr.len
 unfold emptyQ
 rw [if_neg (by omega),show ((n:Nat):Int).toNat=n by omega,if_neg (by omega)]
theorem buildQ_room {s:Int} {L:List Tr}:∀ {n:Nat} {ns:List K4} {l:List Spot},GoodQ s ns→room s ns L→n≤256→OkS s n l→(∀ i,i<n→emptyT (i+1)∈L)→(∀ u∈newT n l,u∈L) →
  ∃ id ms,buildQ s n ns l=((id,0),ms)∧GoodQ s ms∧ns <+: ms∧room s ms L∧Is s ms n id (treeOf n l)
 | n,ns,[],hg,hr,hn,ho,hE,hN=>by
  rw [buildQ_nil,show treeOf n []=emptyT n by cases n<;>rfl]
  exact empty_room hg hr hn hE
 | 0,ns,c::l,hg,hr,hn,ho,hE,hN=>by
  have:=ho.state c (by simp)
  exact⟨c.st,ns,rfl,hg,List.prefix_refl _,hr,Is.leaf (by omega) this.2⟩
 | n+1,ns,c::l,hg,hr,hn,ho,hE,hN=>by
  have hN':∀ k,k<4→∀ u∈newT n (partQ (2 ^ n) k (c::l)),u∈L:=by
   intro k hk u hu
   apply hN
   simp only [newT,List.mem_cons,List.mem_append]
   have:k=0∨k=1∨k=2∨k=3:=by omega
   rcases this with rfl|rfl|rfl|rfl<;>simp [hu]
  have hE':∀ i,i<n→emptyT (i+1)∈L:=fun i hi=>hE i (by omega)
  obtain⟨i0,m0,b0,g0,p0,r0,s0⟩:=buildQ_room hg hr (by omega) (ho.part 0) hE' (hN' 0 (by omega))
  obtain⟨i1,m1,b1,g1,p1,r1,s1⟩:=buildQ_room g0 r0 (by omega) (ho.part 1) hE' (hN' 1 (by omega))
  obtain⟨i2,m2,b2,g2,p2,r2,s2⟩:=buildQ_room g1 r1 (by omega) (ho.part 2) hE' (hN' 2 (by omega))
  obtain⟨i3,m3,b3,g3,p3,r3,s3⟩:=buildQ_room g2 r2 (by omega) (ho.part 3) hE' (hN' 3 (by omega))
  have k4:=kr_ok (f:=fun ms k=>buildQ s n ms (partQ (2 ^ n) k (c::l))) (kr_ok (kr_ok (kr_ok (k:=0) (ids:=[]) rfl b0) b1) b2) b3
  obtain⟨id,ms,hj,hg2,hp2,hr2,hi2⟩:=join_room g3 r3 (by omega) (((s0.grow p1).grow p2).grow p3) ((s1.grow p2).grow p3) (s2.grow p3) s3 (hN _ (by simp [newT,treeOf]))
  refine⟨id,ms,?_,hg2,(((p0.trans p1).trans p2).trans p3).trans hp2,hr2,hi2⟩
  unfold buildQ
  rw [fin4_ok k4]
  exact hj
end Go.Proofs.Ytppmnmheodimoaa
end
