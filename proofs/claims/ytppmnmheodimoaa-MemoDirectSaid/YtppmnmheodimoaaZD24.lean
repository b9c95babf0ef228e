/- Own texts of this claim, part 25: no condition. -/
import Derived.IntWalk
import Derived.Test.YtppmnmheodimoaaZD23
import Derived.Test.YtppmnmheodimoaaZD20
import Derived.Test.YtppmnmheodimoaaZD2
import Derived.Test.YtppmnmheodimoaaZD22
import Derived.Test.YtppmnmheodimoaaZD17
import Derived.Test.YtppmnmheodimoaaZD16
import Derived.Test.YtppmnmheodimoaaZD8
set_option linter.unusedVariables false
set_option linter.unusedSimpArgs false
section
namespace Go.Proofs.Ytppmnmheodimoaa
open Go Go.RowKit Rg Mp Hp Qs Ev Pt
theorem pts_snoc (l:List (Int×Int)) (q:Int×Int):pts (l++[q])=pts l++[.int .i64 q.1,.int .i64 q.2]:=by simp [pts]
theorem near_next {b:Bx} {j i:Nat} (hj:j<b.h+4) (hi:i<b.w+4):pts ((nearL b).take (j*(b.w+4)+i+1))=pts ((nearL b).take (j*(b.w+4)+i))++[.int .i64 (b.x - 2+(i:Int)),.int .i64 (b.y - 2+(j:Int))]:=by
 have hk:j*(b.w+4)+i<(b.h+4)*(b.w+4):=by
  have:(j+1)*(b.w+4)≤(b.h+4)*(b.w+4):=Nat.mul_le_mul_right _ (by omega)
  rw [Nat.add_mul] at this
  omega
 have e1:(j*(b.w+4)+i) % (b.w+4)=i:=by rw [Nat.mul_comm,Nat.mul_add_mod,Nat.mod_eq_of_lt hi]
 have e2:(j*(b.w+4)+i) / (b.w+4)=j:=by rw [Nat.mul_comm,Nat.mul_add_div (by omega),Nat.div_eq_of_lt hi,Nat.add_zero]
 rw [List.take_add_one,nearL_get hk]
 show pts ((nearL b).take _++[nearAt b (j*(b.w+4)+i)])=_
 rw [pts_snoc]
 unfold nearAt
 rw [e1,e2]
set_option maxHeartbeats 8000000 in
set_option maxRecDepth 100000 in
theorem RNear_calls {W w:World} {Ps:List Res} (h:Has W w Ps) {b:Bx} (hlow:-100≤b.x∧b.x+b.w≤100∧-100≤b.y∧b.y+b.h≤100) {ca:Option Addr} {n:Nat} {la:Option Addr} {lm lc:Nat} :
  Calls Try.prog 95 #[fieldV b ca n la lm lc] w fun e w'=>∃ (va:Option Addr) (vc:Nat),e=.returned (.slice va ((b.h+4)*(b.w+4)) vc)∧Has W w' (Hp.row 87 2 (.slice va ((b.h+4)*(b.w+4)) vc) ((b.h+4)*(b.w+4)) (pts (nearL b))::Ps):=by
 have hnx:=fun (j i:Nat) (hj:j<b.h+4) (hi:i<b.w+4)=>near_next (b:=b) hj hi
 have hnl:=nearL_length b
 obtain⟨bx,by',bw,bh⟩:=b
 unfold fieldV
 simp only at hlow hnx hnl ⊢
 obtain⟨w4,hw4⟩:∃ k,bw+4=k:=⟨_,rfl⟩
 obtain⟨h4,hh4⟩:∃ k,bh+4=k:=⟨_,rfl⟩
 rw [hw4,hh4] at hnx hnl ⊢
 obtain⟨L,hL⟩:∃ L,nearL ⟨bx,by',bw,bh⟩=L:=⟨_,rfl⟩
 rw [hL] at hnx hnl ⊢
 have h1:=(h.newBlk (.cells #[.bool true,.int .i64 bx,.int .i64 by',.int .i64 (bw:Int),.int .i64 (bh:Int),.slice ca n n,.slice la lm lc] 160 (0,0))).nilRow 87 2
 have H1:=Lib.hid h1
 have HNX:=Lib.hid hnx
 have HNL:=Lib.hid hnl
 have hmul:h4*w4≤204*204:=Nat.mul_le_mul (by omega) (by omega)
 have HMUL:=Lib.hid hmul
 clear h h1 hnx hnl hL hmul
 go_enter Try.func95,Try.ntmps95
 have hb:=H1.out.drop.blk
 have v0:_=some _:=hEC hb 0
 have v1:_=some _:=hEC hb 1
 have v2:_=some _:=hEC hb 2
 have v3:_=some _:=hEC hb 3
 have v4:_=some _:=hEC hb 4
 have vl:=lBk hb
 clear hb
 go_wp2
 clear v0 v1 v2 v3 v4 vl
 go_loopg [3,4] h4 (fun gg z3 z4 wr=>∃ (j k:Nat) (va:Option Addr) (vc:Nat) (zy:Int),j≤h4∧h4 - j≤gg∧z3=.slice va k vc∧z4=.int .i64 zy∧Hid (zy=by' - 2+(j:Int))∧Hid (k=j*w4)∧Hid (Has W wr (Hp.row 87 2 (.slice va k vc) k (pts (L.take k))::Hp.blk w.heap.size (.cells #[.bool true,.int .i64 bx,.int .i64 by',.int .i64 (bw:Int),.int .i64 (bh:Int),.slice ca n n,.slice la lm lc] 160 (0,0))::Ps)))
 case atStart=>exact⟨0,0,none,0,_,Nat.zero_le _,by omega,rfl,rfl,Lib.hid (by omega),Lib.hid (by omega),Lib.hid (by rw [List.take_zero];exact H1.out.step (by (repeat first|exact Fr.refl _ _|assumption|apply Fr.n|apply Fr.d|apply Fr.a|refine Fr.s ?_ (.inr (by simp;try omega)) _)))⟩
 case round =>
  obtain⟨j,k,va,vc,zy,hj,hg,rfl,rfl,HZ,HK,HH⟩:=hrel
  clear H1
  have hb:=HH.out.drop.blk
  have v0:_=some _:=hEC hb 0
  have v1:_=some _:=hEC hb 1
  have v2:_=some _:=hEC hb 2
  have v3:_=some _:=hEC hb 3
  have v4:_=some _:=hEC hb 4
  have vl:=lBk hb
  clear hb
  by_cases hjn:j<h4
  ·have hzc:zy<by'+(bh:Int)+2:=by have:=HZ.out;omega
   have hzb:-200≤zy∧zy≤200:=by have:=HZ.out;omega
   go_wp2
   clear v0 v1 v2 v3 v4 vl
   go_loopg [3,5] w4 (fun gg z3 z5 wr2=>∃ (i k2:Nat) (va2:Option Addr) (vc2:Nat) (zx:Int),i≤w4∧w4 - i≤gg∧z3=.slice va2 k2 vc2∧z5=.int .i64 zx∧Hid (zx=bx - 2+(i:Int))∧Hid (k2=j*w4+i)∧Hid (Has W wr2 (Hp.row 87 2 (.slice va2 k2 vc2) k2 (pts (L.take k2))::Hp.blk w.heap.size (.cells #[.bool true,.int .i64 bx,.int .i64 by',.int .i64 (bw:Int),.int .i64 (bh:Int),.slice ca n n,.slice la lm lc] 160 (0,0))::Ps)))
   case atStart=>exact⟨0,k,va,vc,_,Nat.zero_le _,by omega,rfl,rfl,Lib.hid (by omega),Lib.hid (by rw [HK.out,Nat.add_zero]),Lib.hid (HH.out.step (by (repeat first|exact Fr.refl _ _|assumption|apply Fr.n|apply Fr.d|apply Fr.a|refine Fr.s ?_ (.inr (by simp;try omega)) _)))⟩
   case round =>
    obtain⟨i,k2,va2,vc2,zx,hi,hgi,rfl,rfl,HZX,HK2,HI⟩:=hrel
    clear HH
    have hb:=HI.out.drop.blk
    have v0:_=some _:=hEC hb 0
    have v1:_=some _:=hEC hb 1
    have v2:_=some _:=hEC hb 2
    have v3:_=some _:=hEC hb 3
    have v4:_=some _:=hEC hb 4
    have vl:=lBk hb
    clear hb
    by_cases hin:i<w4
    ·have hxc:zx<bx+(bw:Int)+2:=by have:=HZX.out;omega
     have hxb:-200≤zx∧zx≤200:=by have:=HZX.out;omega
     have hk2:k2≤50000:=by
      have h1:=HK2.out
      have h2:=HMUL.out
      have h3:(j+1)*w4≤h4*w4:=Nat.mul_le_mul_right _ hjn
      rw [Nat.add_mul] at h3
      omega
     have hnx:=HNX.out j i hjn hin
     rw [← HK2.out,← HZ.out,← HZX.out] at hnx
     have HNY:=Lib.hid hnx
     have hmaxl:(50001:Nat)≤maxLen:=by decide
     have HLL:=Lib.hid (show k2+1≤maxLen∧(k2+1)*16≤140737488355328 from by omega)
     clear hnx hmaxl
     go_wp2_with (at_builtin;refine append_has (W:=W) (size:=2) (bytes:=16) (z:=.agg #[.int .i64 0,.int .i64 0]) (e:=87) (n:=k2) (xs:=pts (L.take k2)) (news:=[.int .i64 zx,.int .i64 zy]) rfl rfl Try.underlying28 (by kernel_rfl) rfl (by decide) rfl rfl (HI.out.step (by (repeat first|exact Fr.refl _ _|assumption|apply Fr.n|apply Fr.d|apply Fr.a|refine Fr.s ?_ (.inr (by simp;try omega)) _))) (by (repeat first|rw [if_pos (by omega)]|rw [if_neg (by omega)]|rw [hDR]|rw [hDN]|rw [hAz]|rw [hSz]|rw [hAC]|rw [hSC]|rw [oMS]|rw [uPC]|rw [lSZ]|rw [lSS]|rfl)) rfl (by simp [Value.oneCell']) HLL.out.1 HLL.out.2 ?_)
     intro g2 cap2 w5 h5 hf5 hg5
     rw [← HNY.out] at h5
     have H5:=Lib.hid h5
     clear h5 hf5 hg5 HI v0 v1 v2 v3 v4 vl
     go_wp2
     go_roundg (w4 - (i+1))
     case measure=>exact Nat.lt_of_lt_of_le (Nat.sub_succ_lt_self _ _ hin) hgi
     case rel=>exact⟨i+1,k2+1,some ⟨g2,0,none⟩,cap2,zx+1,hin,Nat.le_refl _,by simp,by simp,Lib.hid (by have:=HZX.out;simp;omega),Lib.hid (by have:=HK2.out;omega),Lib.hid (H5.out.step (by (repeat first|exact Fr.refl _ _|assumption|apply Fr.n|apply Fr.d|apply Fr.a|refine Fr.s ?_ (.inr (by simp;try omega)) _)))⟩
    ·obtain rfl:w4=i:=by omega
     have hxc:¬ zx<bx+(bw:Int)+2:=by have:=HZX.out;omega
     have hxb:-200≤zx∧zx≤200:=by have:=HZX.out;omega
     go_wp2
     go_roundg (h4 - (j+1))
     case measure=>exact Nat.lt_of_lt_of_le (Nat.sub_succ_lt_self _ _ hjn) hg
     case rel=>exact⟨j+1,k2,va2,vc2,zy+1,hjn,Nat.le_refl _,rfl,by simp,Lib.hid (by have:=HZ.out;simp;omega),Lib.hid (by rw [HK2.out,Nat.add_mul];omega),Lib.hid (HI.out.step (by (repeat first|exact Fr.refl _ _|assumption|apply Fr.n|apply Fr.d|apply Fr.a|refine Fr.s ?_ (.inr (by simp;try omega)) _)))⟩
  ·obtain rfl:h4=j:=by omega
   have hzc:¬ zy<by'+(bh:Int)+2:=by have:=HZ.out;omega
   have hzb:-200≤zy∧zy≤200:=by have:=HZ.out;omega
   have h5:=HH.out
   rw [List.take_of_length_le (by rw [HNL.out,HK.out];exact Nat.le_refl _)] at h5
   have H5:=Lib.hid h5
   clear h5 HH
   go_wp2
   go_ret
   refine⟨va,vc,by rw [← HK.out];rfl,?_⟩
   rw [← HK.out]
   exact (H5.out.ord 2 [0]).step (by (repeat first|exact Fr.refl _ _|assumption|apply Fr.n|apply Fr.d|apply Fr.a|refine Fr.s ?_ (.inr (by simp;try omega)) _))
end Go.Proofs.Ytppmnmheodimoaa
end
section
namespace Go.Proofs.Ytppmnmheodimoaa
open Go Go.RowKit Rg Mp Hp Qs Ev Pt
set_option maxHeartbeats 8000000 in
set_option maxRecDepth 100000 in
theorem REval12_calls {w:World} {r:Rule} {ha na:Option Addr} {hc nc:Nat} (hr:RuleAt w (.slice ha r.hood.length hc) (.slice na r.nodes.length nc) r) (hR:rightR r=true) {b:Option Addr} {c:Nat} {ss:List Int} (hi:IntsAt w (.slice b ss.length c) ss) (hl:ss.length=r.hood.length) (hs:∀ s∈ss,0≤s∧s<r.S) :
  Calls Try.prog 70 #[.agg #[.int .i64 r.S,.slice ha r.hood.length hc,.slice na r.nodes.length nc],.slice b ss.length c] w fun e w'=>e=.returned (.tuple #[.int .i64 (down r ss),.int .i64 0])∧Fr [] w w':=by
 have hhl:=right_hlen hR
 have hnl:=right_len hR
 have H0:=Lib.hid ((Has.nil (Fr.refl [] w)).newBlk (.cells #[.int .i64 r.S,.slice ha r.hood.length hc,.slice na r.nodes.length nc] 31 (0,0)))
 have hRT:=fun w' (hf:Fr [] w w')=>RTRight_calls (hr.fr hf) (by omega) (by omega)
 rw [hR] at hRT
 have HRT:=Lib.hid hRT
 have HVC:=Lib.hid (fun w' (hf:Fr [] w w')=>RValue_calls (ha:=ha) (hc:=hc) hR (hr.fr hf).2 (hi.fr hf) hl hs)
 have HI:=Lib.hid hi
 have HS:=Lib.hid hs
 obtain⟨m,hm⟩:∃ m,r.hood.length=m:=⟨_,rfl⟩
 rw [hl,hm] at HVC
 rw [hl] at HI
 rw [hm] at hhl H0 HRT HI ⊢
 rw [hl,hm]
 have HL:=Lib.hid (hl.trans hm)
 clear hr hR hi hl hs hm hRT
 go_enter Try.func70,Try.ntmps70
 go_wp2_with fail
 refine (HRT.out _ (by (repeat first|exact Fr.refl _ _|assumption|apply Fr.n|apply Fr.d|apply Fr.a|refine Fr.s ?_ (.inr (by simp;try omega)) _))).mono ?_
 rintro e w1 ⟨rfl,hf1⟩
 obtain⟨tb,htb⟩:∃ t,w.heap.size=t:=⟨_,rfl⟩
 have h1:=H0.out.step (Fr.trans0 (by (repeat first|exact Fr.refl _ _|assumption|apply Fr.n|apply Fr.d|apply Fr.a|refine Fr.s ?_ (.inr (by simp;try omega)) _)) hf1)
 rw [htb] at h1 ⊢
 have H1:=Lib.hid h1
 clear h1 hf1 htb H0 HRT
 have hb:=H1.out.blk
 (try clear v0 v1 v2 vl)
 have v0:_=some _:=hEC hb 0
 have v1:_=some _:=hEC hb 1
 have v2:_=some _:=hEC hb 2
 have vl:=lBk hb
 clear hb
 go_wp2
 go_loopg [6] m (fun gg z wr=>∃ i:Nat,i≤m∧m - i≤gg∧z=.int .i64 (i:Int)∧Hid (Has w wr [Hp.blk tb (.cells #[.int .i64 r.S,.slice ha m hc,.slice na r.nodes.length nc] 31 (0,0))]))
 case atStart=>exact⟨0,Nat.zero_le _,by omega,rfl,Lib.hid (H1.out.step (by (repeat first|exact Fr.refl _ _|assumption|apply Fr.n|apply Fr.d|apply Fr.a|refine Fr.s ?_ (.inr (by simp;try omega)) _)))⟩
 case round =>
  obtain⟨i,hi,hg,rfl,HH⟩:=hrel
  clear H1
  have hb:=HH.out.blk
  (try clear v0 v1 v2 vl)
  have v0:_=some _:=hEC hb 0
  have v1:_=some _:=hEC hb 1
  have v2:_=some _:=hEC hb 2
  have vl:=lBk hb
  clear hb
  by_cases hin:i<m
  ·obtain⟨s,hs⟩:∃ s,ss[i]?=some s:=⟨_,List.getElem?_eq_getElem (by rw [HL.out];exact hin)⟩
   have hsr:=HS.out s (List.mem_of_getElem? hs)
   obtain⟨g,off,rfl,hgl,hc2⟩:=IntsAt.cell (HI.out.fr HH.out.fr) hs
   clear hs
   go_wp2
   (refine wRT (by kernel_rfl) (by kernel_rfl) ?_)
   go_wp2
   refine Strict.intro rfl ?_
   go_wp2
   go_roundg (m - (i+1))
   case measure=>omega
   case rel=>exact⟨i+1,hin,Nat.le_refl _,by simp,Lib.hid (HH.out.step (by (repeat first|exact Fr.refl _ _|assumption|apply Fr.n|apply Fr.d|apply Fr.a|refine Fr.s ?_ (.inr (by simp;try omega)) _)))⟩
  ·obtain rfl:m=i:=by omega
   have HVQ:=Lib.hid (fun w' (hf:Fr [] wr w')=>HVC.out w' (HH.out.step hf).fr)
   clear HVC
   go_wp2_with fail
   refine (HVQ.out _ (by (repeat first|exact Fr.refl _ _|assumption|apply Fr.n|apply Fr.d|apply Fr.a|refine Fr.s ?_ (.inr (by simp;try omega)) _))).mono ?_
   rintro e w3 ⟨rfl,hf3⟩
   have H3:=Lib.hid (HH.out.step (Fr.trans0 (by (repeat first|exact Fr.refl _ _|assumption|apply Fr.n|apply Fr.d|apply Fr.a|refine Fr.s ?_ (.inr (by simp;try omega)) _)) hf3))
   clear hf3 HVQ
   go_wp2
   go_ret2
   exact⟨rfl,(H3.out.step (by (repeat first|exact Fr.refl _ _|assumption|apply Fr.n|apply Fr.d|apply Fr.a|refine Fr.s ?_ (.inr (by simp;try omega)) _))).fr⟩
set_option maxHeartbeats 8000000 in
set_option maxRecDepth 100000 in
theorem RQuiet_calls {w:World} {r:Rule} {ha na:Option Addr} {hc nc:Nat} (hr:RuleAt w (.slice ha r.hood.length hc) (.slice na r.nodes.length nc) r) (hlh:r.hood.length≤1000000) (hln:r.nodes.length≤1000000) :
  Calls Try.prog 52 #[.agg #[.int .i64 r.S,.slice ha r.hood.length hc,.slice na r.nodes.length nc]] w fun e w'=>e=.returned (.bool (quietB r))∧Fr [] w w':=by
 have H0:=Lib.hid ((Has.nil (Fr.refl [] w)).newBlk (.cells #[.int .i64 r.S,.slice ha r.hood.length hc,.slice na r.nodes.length nc] 31 (0,0)))
 have HRT:=Lib.hid (fun w' (hf:Fr [] w w')=>RTRight_calls (hr.fr hf) hlh hln)
 have HRU:=Lib.hid hr
 obtain⟨bR,hbR⟩:∃ b,rightR r=b:=⟨_,rfl⟩
 rw [hbR] at HRT
 have HBR:=Lib.hid hbR
 obtain⟨m,hm⟩:∃ m,r.hood.length=m:=⟨_,rfl⟩
 obtain⟨n,hn⟩:∃ m,r.nodes.length=m:=⟨_,rfl⟩
 rw [hm] at hlh H0 HRT ⊢
 rw [hn] at H0 HRT ⊢
 have HM:=Lib.hid (And.intro hm hn)
 clear hr hm hn hbR hln
 go_enter Try.func52,Try.ntmps52
 go_wp2_with fail
 refine (HRT.out _ (by (repeat first|exact Fr.refl _ _|assumption|apply Fr.n|apply Fr.d|apply Fr.a|refine Fr.s ?_ (.inr (by simp;try omega)) _))).mono ?_
 rintro e w1 ⟨rfl,hf1⟩
 obtain⟨tb,htb⟩:∃ t,w.heap.size=t:=⟨_,rfl⟩
 have h1:=H0.out.step (Fr.trans0 (by (repeat first|exact Fr.refl _ _|assumption|apply Fr.n|apply Fr.d|apply Fr.a|refine Fr.s ?_ (.inr (by simp;try omega)) _)) hf1)
 rw [htb] at h1 ⊢
 have H1:=Lib.hid h1
 clear h1 hf1 htb H0 HRT
 have hb:=H1.out.blk
 (try clear v0 v1 v2 vl)
 have v0:_=some _:=hEC hb 0
 have v1:_=some _:=hEC hb 1
 have v2:_=some _:=hEC hb 2
 have vl:=lBk hb
 clear hb
 cases bR with
 | false =>
  have HQ:=Lib.hid (show quietB r=false from by unfold quietB;rw [HBR.out];rfl)
  go_wp2
  go_ret
  exact⟨by rw [HQ.out];rfl,(H1.out.step (by (repeat first|exact Fr.refl _ _|assumption|apply Fr.n|apply Fr.d|apply Fr.a|refine Fr.s ?_ (.inr (by simp;try omega)) _))).fr⟩
 | true =>
  have hmm:=right_hlen HBR.out
  rw [HM.out.1] at hmm
  have hmaxl:(25:Nat)≤maxLen:=by decide
  have hlm:m≤maxLen:=by omega
  clear hmaxl
  go_wp2
  refine wRS [([0,1,2,3,4],[0]),([5,6,7,8,9,10],[])] (by kernel_rfl) (by kernel_rfl) ?_
  (simp only [wpSegs,pick,Array.getD_eq_getD_getElem?,List.getElem?_toArray,List.getElem?_cons_succ,List.getElem?_cons_zero,Option.getD_some])
  go_wp2_with (refine wpList_make1 (n:=m) (z:=.int .i64 0) (bytes:=8) (e:=3) rfl rfl rfl rfl Try.underlying71 (by kernel_rfl) rfl (by omega) hlm ?_)
  intro w3 hrow3 hf3 hs3
  have hds:w1.drew.heap.size=w1.heap.size:=rfl
  have h3:=(H1.out.step (w':=w1.drew) (by (repeat first|exact Fr.refl _ _|assumption|apply Fr.n|apply Fr.d|apply Fr.a|refine Fr.s ?_ (.inr (by simp;try omega)) _))).newRow hf3 hrow3
  rw [iv_replicate] at h3
  (try rw [hds] at h3)
  (try rw [hds])
  clear hds
  obtain⟨zb,hzb⟩:∃ t,w1.heap.size=t:=⟨_,rfl⟩
  rw [hzb] at h3 ⊢
  have hbk:=(h3.bring 1).blk
  have Hb:=Lib.hid hbk
  have H3:=Lib.hid h3
  clear h3 hrow3 hf3 hs3 hbk v0 v1 v2 vl hzb H1
  have hb:=Hb.out
  have v0:_=some _:=hEC hb 0
  have v1:_=some _:=hEC hb 1
  have v2:_=some _:=hEC hb 2
  have vl:=lBk hb
  clear hb
  go_wp2
  refine Mid.intro ⟨⟨aGR (T:=31) (cs:=[.int .i64 r.S,.slice ha m hc,.slice na n nc]) rfl rfl rfl Try.underlying31 rfl (by kernel_rfl) (fun j v hj=>?rng) rfl,trivial⟩,?_⟩
  case rng =>
   rw [Nat.zero_add,hEC Hb.out,← hj]
   exact (Array.getElem?_toList (xs:=#[Value.int .i64 r.S,.slice ha m hc,.slice na n nc])).symm
  have hia:IntsAt w3 (.slice (some ⟨zb,0,none⟩) (List.replicate m (0:Int)).length m) (List.replicate m 0):=by
   have:=H3.out.rowReads
   unfold IntsAt
   rw [List.length_replicate]
   exact this
  have hEV:=fun w' (hf:Fr [] w3 w')=>REval12_calls (ha:=ha) (na:=na) (hc:=hc) (nc:=nc) (HRU.out.fr (H3.out.step hf).fr) HBR.out (hia.fr hf) (by rw [List.length_replicate,HM.out.1]) (fun s hs=>by
   have hS:=right_S HBR.out
   rw [List.eq_of_mem_replicate hs];omega)
  rw [List.length_replicate,HM.out.1,HM.out.2] at hEV
  have HEV:=Lib.hid hEV
  clear hEV hia
  obtain⟨z,hz⟩:∃ z,down r (List.replicate m 0)=z:=⟨_,rfl⟩
  rw [hz] at HEV
  have HQ:=Lib.hid (show quietB r=(z == 0) from by unfold quietB;rw [HBR.out,HM.out.1,hz];rfl)
  clear hz
  go_wp2_with fail
  refine (HEV.out _ (by (repeat first|exact Fr.refl _ _|assumption|apply Fr.n|apply Fr.d|apply Fr.a|refine Fr.s ?_ (.inr (by simp;try omega)) _))).mono ?_
  rintro e w4 ⟨rfl,hf4⟩
  have H4:=Lib.hid (H3.out.step (Fr.trans0 (by (repeat first|exact Fr.refl _ _|assumption|apply Fr.n|apply Fr.d|apply Fr.a|refine Fr.s ?_ (.inr (by simp;try omega)) _)) hf4))
  clear hf4 HEV H3 Hb v0 v1 v2 vl
  go_wp2
  refine Mid.intro ⟨trivial,Strict.intro rfl ?_⟩
  go_wp2
  go_ret
  exact⟨by rw [HQ.out];rfl,(H4.out.step (by (repeat first|exact Fr.refl _ _|assumption|apply Fr.n|apply Fr.d|apply Fr.a|refine Fr.s ?_ (.inr (by simp;try omega)) _))).fr⟩
def fitsE (r:Rule) (p:List PC):Int:=if quietB r then (if rightP p then (if p.all fun c=>decide (c.st<r.S) then 0 else 10) else 2) else 11
set_option maxHeartbeats 8000000 in
set_option maxRecDepth 100000 in
theorem RFits_calls {w:World} {r:Rule} {ha na:Option Addr} {hc nc:Nat} (hr:RuleAt w (.slice ha r.hood.length hc) (.slice na r.nodes.length nc) r) (hlh:r.hood.length≤1000000) (hln:r.nodes.length≤1000000)
  {p:List PC} {a:Option Addr} {c:Nat} (hp:CellsAtY w (.slice a p.length c) p) (hpl:p.length≤60000) :
  Calls Try.prog 28 #[.agg #[.int .i64 r.S,.slice ha r.hood.length hc,.slice na r.nodes.length nc],.slice a p.length c] w fun e w'=>e=.returned (.int .i64 (fitsE r p))∧Fr [] w w':=by
 have H0:=Lib.hid ((Has.nil (Fr.refl [] w)).newBlk (.cells #[.int .i64 r.S,.slice ha r.hood.length hc,.slice na r.nodes.length nc] 31 (0,0)))
 have HRT:=Lib.hid (fun w' (hf:Fr [] w w')=>RQuiet_calls (hr.fr hf) hlh hln)
 have HRR:=Lib.hid (fun w' (hf:Fr [] w w')=>RRight_p (hp.fr hf) (by omega))
 have HP:=Lib.hid hp
 obtain⟨bq,hbq⟩:∃ b,quietB r=b:=⟨_,rfl⟩
 rw [hbq] at HRT
 obtain⟨br,hbr⟩:∃ b,rightP p=b:=⟨_,rfl⟩
 rw [hbr] at HRR
 have HB:=Lib.hid (And.intro hbq hbr)
 obtain⟨l,hl⟩:∃ m,p.length=m:=⟨_,rfl⟩
 rw [hl] at hpl HP HRR ⊢
 have HL:=Lib.hid hl
 obtain⟨m,hm⟩:∃ m,r.hood.length=m:=⟨_,rfl⟩
 obtain⟨n,hn⟩:∃ m,r.nodes.length=m:=⟨_,rfl⟩
 rw [hm,hn] at H0 HRT ⊢
 clear hr hp hbq hbr hl hm hn hlh hln
 go_enter Try.func28,Try.ntmps28
 go_wp2_with fail
 refine (HRT.out _ (by (repeat first|exact Fr.refl _ _|assumption|apply Fr.n|apply Fr.d|apply Fr.a|refine Fr.s ?_ (.inr (by simp;try omega)) _))).mono ?_
 rintro e w1 ⟨rfl,hf1⟩
 obtain⟨tb,htb⟩:∃ t,w.heap.size=t:=⟨_,rfl⟩
 have h1:=H0.out.step (Fr.trans0 (by (repeat first|exact Fr.refl _ _|assumption|apply Fr.n|apply Fr.d|apply Fr.a|refine Fr.s ?_ (.inr (by simp;try omega)) _)) hf1)
 rw [htb] at h1 ⊢
 have H1:=Lib.hid h1
 clear h1 hf1 htb H0 HRT
 cases bq with
 | false =>
  have HQ:=Lib.hid (show fitsE r p=11 from by unfold fitsE;rw [HB.out.1];rfl)
  go_wp2
  go_ret
  exact⟨by rw [HQ.out];rfl,(H1.out.step (by (repeat first|exact Fr.refl _ _|assumption|apply Fr.n|apply Fr.d|apply Fr.a|refine Fr.s ?_ (.inr (by simp;try omega)) _))).fr⟩
 | true =>
  have HRQ:=Lib.hid (fun w' (hf:Fr [] w1 w')=>HRR.out w' (H1.out.step hf).fr)
  clear HRR
  go_wp2_with fail
  refine (HRQ.out _ (by (repeat first|exact Fr.refl _ _|assumption|apply Fr.n|apply Fr.d|apply Fr.a|refine Fr.s ?_ (.inr (by simp;try omega)) _))).mono ?_
  rintro e w2 ⟨rfl,hf2⟩
  have H2:=Lib.hid (H1.out.step (Fr.trans0 (by (repeat first|exact Fr.refl _ _|assumption|apply Fr.n|apply Fr.d|apply Fr.a|refine Fr.s ?_ (.inr (by simp;try omega)) _)) hf2))
  clear hf2 HRQ H1
  cases br with
  | false =>
   have HQ:=Lib.hid (show fitsE r p=2 from by unfold fitsE;rw [HB.out.1,HB.out.2];rfl)
   go_wp2
   go_ret
   exact⟨by rw [HQ.out];rfl,(H2.out.step (by (repeat first|exact Fr.refl _ _|assumption|apply Fr.n|apply Fr.d|apply Fr.a|refine Fr.s ?_ (.inr (by simp;try omega)) _))).fr⟩
  | true =>
   go_wp2
   go_loopg [5] l (fun gg z wr=>∃ i:Nat,i≤l∧l - i≤gg∧z=.int .i64 (i:Int)∧Hid ((p.take i).all (fun c=>decide (c.st<r.S))=true)∧Hid (Has w wr [Hp.blk tb (.cells #[.int .i64 r.S,.slice ha m hc,.slice na n nc] 31 (0,0))]))
   case atStart=>exact⟨0,Nat.zero_le _,by omega,rfl,Lib.hid (by simp),Lib.hid (H2.out.step (by (repeat first|exact Fr.refl _ _|assumption|apply Fr.n|apply Fr.d|apply Fr.a|refine Fr.s ?_ (.inr (by simp;try omega)) _)))⟩
   case round =>
    obtain⟨i,hi,hg,rfl,HA,HH⟩:=hrel
    clear H2
    have hb:=HH.out.blk
    (try clear v0 v1 v2 vl)
    have v0:_=some _:=hEC hb 0
    have v1:_=some _:=hEC hb 1
    have v2:_=some _:=hEC hb 2
    have vl:=lBk hb
    clear hb
    by_cases hin:i<l
    ·obtain⟨⟨cx,cy,st⟩,hp⟩:∃ c,p[i]?=some c:=⟨_,List.getElem?_eq_getElem (by rw [HL.out];exact hin)⟩
     obtain⟨g,off,rfl,hgl,e0,e1,e2⟩:=CellsAtY.cell (HP.out.fr HH.out.fr) hp
     simp only at e0 e1 e2
     have htk:p.take (i+1)=p.take i++[⟨cx,cy,st⟩]:=by rw [List.take_add_one,hp];rfl
     have HTK:=Lib.hid htk
     have HPI:=Lib.hid hp
     clear hp htk e0 e1
     by_cases hs:r.S≤st
     ·have HQ:=Lib.hid (show fitsE r p=10 from by
       unfold fitsE
       rw [HB.out.1,HB.out.2]
       simp only [if_true]
       rw [if_neg]
       rw [List.all_eq_true]
       intro hh
       have:=hh _ (List.mem_of_getElem? HPI.out)
       simp at this
       omega)
      go_wp2
      (refine wRT (by kernel_rfl) (by kernel_rfl) ?_)
      go_wp2
      refine Strict.intro rfl ?_
      go_wp2
      go_ret
      exact⟨by rw [HQ.out];rfl,(HH.out.step (by (repeat first|exact Fr.refl _ _|assumption|apply Fr.n|apply Fr.d|apply Fr.a|refine Fr.s ?_ (.inr (by simp;try omega)) _))).fr⟩
     ·go_wp2
      (refine wRT (by kernel_rfl) (by kernel_rfl) ?_)
      go_wp2
      refine Strict.intro rfl ?_
      go_wp2
      go_roundg (l - (i+1))
      case measure=>omega
      case rel=>exact⟨i+1,hin,Nat.le_refl _,by simp,Lib.hid (by rw [HTK.out,List.all_append,HA.out];simp;omega),Lib.hid (HH.out.step (by (repeat first|exact Fr.refl _ _|assumption|apply Fr.n|apply Fr.d|apply Fr.a|refine Fr.s ?_ (.inr (by simp;try omega)) _)))⟩
    ·obtain rfl:l=i:=by omega
     have h2:=HA.out
     rw [List.take_of_length_le (by rw [HL.out];exact Nat.le_refl _)] at h2
     have HQ:=Lib.hid (show fitsE r p=0 from by unfold fitsE;rw [HB.out.1,HB.out.2,h2];rfl)
     clear h2 HA
     go_wp2
     go_ret
     exact⟨by rw [HQ.out];rfl,(HH.out.step (by (repeat first|exact Fr.refl _ _|assumption|apply Fr.n|apply Fr.d|apply Fr.a|refine Fr.s ?_ (.inr (by simp;try omega)) _))).fr⟩
end Go.Proofs.Ytppmnmheodimoaa
end
section
namespace Go.Proofs.Pt
theorem insP_done {c:PC}:∀ {l m:List PC},(∃ x∈l,pBef c x=true)→insP c (l++m)=insP c l++m
 | [],_,h=>by obtain⟨x,hx,_⟩:=h;cases hx
 | d::l,m,h=>by
  rw [List.cons_append,insP,insP]
  split
  ·rfl
  ·rename_i hd
   rw [insP_done (by
    obtain⟨x,hx,hb⟩:=h
    rw [List.mem_cons] at hx
    rcases hx with rfl|hx
    ·exact absurd hb hd
    ·exact⟨x,hx,hb⟩)]
   rfl
theorem insP_not {c:PC}:∀ {l m:List PC},(∀ x∈l,pBef c x=false)→insP c (l++m)=l++insP c m
 | [],_,_=>rfl
 | d::l,m,h=>by
  rw [List.cons_append,insP,if_neg (by rw [h d (by simp)];simp),insP_not fun x hx=>h x (by simp [hx])]
  rfl
def insS (c:PC) (dn:Bool) (l:List PC):List PC:=if dn then insP c l else l
def insD (c:PC) (dn:Bool) (l:List PC):Prop:=(dn=true→∃ x∈l,pBef c x=true)∧(dn=false→∀ x∈l,pBef c x=false)
theorem insS_old {c d:PC} {l:List PC} (h:insD c true l):insS c true l++[d]=insS c true (l++[d])∧insD c true (l++[d]):=by
 refine⟨by simp only [insS,if_true];rw [insP_done (h.1 rfl)],fun _=>?_,by simp⟩
 obtain⟨x,hx,hb⟩:=h.1 rfl
 exact⟨x,by simp [hx],hb⟩
theorem insS_new {c d:PC} {l:List PC} (h:insD c false l) (hb:pBef c d=true):(insS c false l++[c])++[d]=insS c true (l++[d])∧insD c true (l++[d]):=by
 refine⟨?_,fun _=>⟨d,by simp,hb⟩,by simp⟩
 simp only [insS,if_true,Bool.false_eq_true,if_false]
 rw [insP_not (h.2 rfl),insP,if_pos hb,List.append_assoc]
 rfl
theorem insS_keep {c d:PC} {l:List PC} (h:insD c false l) (hb:pBef c d=false):insS c false l++[d]=insS c false (l++[d])∧insD c false (l++[d]):=by
 refine⟨by simp [insS],by simp,fun _ x hx=>?_⟩
 rw [List.mem_append] at hx
 rcases hx with hx|hx
 ·exact h.2 rfl x hx
 ·rw [List.mem_singleton] at hx;rw [hx];exact hb
theorem insS_end {c:PC} {l:List PC} (h:insD c false l):insS c false l++[c]=insP c l:=by
 have:=insP_not (m:=[]) (h.2 rfl)
 rw [List.append_nil] at this
 simp [insS,this,insP]
theorem insS_len {c:PC} {dn:Bool} {l:List PC}:(insS c dn l).length≤l.length+1:=by
 unfold insS
 split
 ·rw [(insP_perm c l).length_eq];simp
 ·omega
end Go.Proofs.Pt
namespace Go.Proofs.Ytppmnmheodimoaa
open Go Go.RowKit Rg Mp Hp Pt
set_option maxHeartbeats 16000000 in
set_option maxRecDepth 100000 in
theorem Rinsert_h {w:World} {p:List PC} {a:Option Addr} {c:Nat} (hl:CellsAtY w (.slice a p.length c) p) (hlen:p.length≤100000) (q:PC) :
  Calls Try.prog 109 #[.slice a p.length c,pcV q] w fun e w'=>∃ v,e=.returned v∧Has w w' [Hp.row 110 3 v (insP q p).length (pcs (insP q p))]:=by
 obtain⟨qx,qy,qs⟩:=q
 have HL:=Lib.hid hl
 obtain⟨m,hm⟩:∃ m,p.length=m:=⟨_,rfl⟩
 have HM:=Lib.hid hm
 have hm1:m≤100000:=by omega
 obtain⟨R,hR⟩:∃ R,insP ⟨qx,qy,qs⟩ p=R:=⟨_,rfl⟩
 rw [hm,hR]
 have HR:=Lib.hid hR
 have h1:=(hAL (Has.nil (Fr.refl [] w)) #[.int .i64 qx,.int .i64 qy,.int .i64 qs] 110).newRow (T:=110) (size:=3) (Fr.refl [] _) (owns_none _ _ _ _)
 obtain⟨x3,hx3⟩:∃ x,w.heap.size=x:=⟨_,rfl⟩
 rw [hx3] at h1
 have H1:=Lib.hid h1
 clear hl hlen hm hR h1
 simp only [pcV]
 go_enter Try.func109,Try.ntmps109
 go_wp2
 clear hx3
 go_loopw [5,6,7] (fun x5 x6 x7 wr=>∃ (i:Nat) (v:Value) (dn:Bool),(v=x5∧x6=.bool dn∧x7=.int .i64 (i:Nat))∧i≤m∧insD ⟨qx,qy,qs⟩ dn (p.take i)∧Has w wr [Hp.row 110 3 v (insS ⟨qx,qy,qs⟩ dn (p.take i)).length (pcs (insS ⟨qx,qy,qs⟩ dn (p.take i))),Hp.blk x3 (.cells #[.int .i64 qx,.int .i64 qy,.int .i64 qs] 110 (0,0))]) (fun _ _ x _=>m - (intOf x).toNat)
 case atStart=>exact⟨0,_,false,⟨rfl,rfl,rfl⟩,by omega,⟨by simp,by simp⟩,H1.out⟩
 case round =>
  clear H1
  obtain⟨i,v5,dn,⟨rfl,rfl,rfl⟩,him,hd,h⟩:=hrel
  have H:=Lib.hid h
  have HD:=Lib.hid hd
  have HLE:=Lib.hid (show (insS ⟨qx,qy,qs⟩ dn (p.take i)).length≤100001 from by
   have h1:=insS_len (c:=⟨qx,qy,qs⟩) (dn:=dn) (l:=p.take i)
   have h2:(p.take i).length≤i:=by rw [List.length_take];omega
   omega)
  clear h hd
  have hb:=H.out.swap.blk
  have b0:=hEC hb 0
  have b1:=hEC hb 1
  have b2:=hEC hb 2
  have bl:=lBk hb
  clear hb
  obtain⟨T,hT⟩:∃ T,p.take i=T:=⟨_,rfl⟩
  rw [hT] at HD HLE H
  have HT:=Lib.hid hT
  clear hT
  by_cases hlt:i<m
  ·obtain⟨⟨cx,cy,st⟩,hpi⟩:∃ c,p[i]?=some c:=⟨_,List.getElem?_eq_getElem (by rw [HM.out];exact hlt)⟩
   have HTK:=Lib.hid (show p.take (i+1)=T++[⟨cx,cy,st⟩] by rw [List.take_add_one,hpi,HT.out];rfl)
   obtain⟨g,off,rfl,hg,e0,e1,e2⟩:=(HL.out.fr H.out.fr).cell hpi
   simp only at e0 e1 e2
   have HPI:=Lib.hid hpi
   clear hpi
   cases dn with
   | true =>
    obtain⟨I,hI⟩:∃ I,insS ⟨qx,qy,qs⟩ true T=I:=⟨_,rfl⟩
    rw [hI] at H HLE
    have HI:=Lib.hid hI
    clear hI
    go_wp2
    (refine wRT (by kernel_rfl) (by kernel_rfl) ?_)
    go_wp2
    refine Strict.intro rfl ?_
    have hrow:=H.out.row
    have HO:=Lib.hid hrow
    clear hrow
    go_wp2_with (at_builtin;refine append_pp (n:=I.length) (base:=0) (xs:=pcs I) (y:=⟨cx,cy,st⟩) rfl rfl rfl ?e11 rfl ?e21 ?e31 ?e41 ?_)
    case e11=>exact oOB HO.out fun g hg=>hAE _ _ _ (oLT HO.out hg)
    case e21=>first|(first|(rw [hAC,if_pos rfl];done)|exact (Array.getElem?_eq_some_iff.1 ((hAC _ _ _).trans (if_pos rfl))).2|(simp only [hDR,hDN];rw [hAC,if_pos rfl];done))|(refine (Array.getElem?_eq_some_iff.1 ?_).2;(repeat first|rw [if_pos (by omega)]|rw [if_neg (by omega)]|rw [hDR]|rw [hDN]|rw [hAz]|rw [hSz]|rw [hAC]|rw [hSC]|rw [oMS]|rw [uPC]|rw [lSZ]|rw [lSS]|rfl))
    case e31=>have:=HLE.out;omega
    case e41=>omega
    intro g21 cap1 w10 hown1 hW1 hF1 hloc1 hg1
    rw [pcs_snoc _ ⟨cx,cy,st⟩] at hown1
    have h9:=hAP (n':=(I++([⟨cx,cy,st⟩]:List PC)).length) (H.out.step (by (repeat first|exact Fr.refl _ _|assumption|apply Fr.n|apply Fr.d|apply Fr.a|refine Fr.s ?_ (.inr (by simp;try omega)) _))) (by first|(rw [List.length_append];exact hown1)|(rw [List.length_append,List.length_append];exact hown1)) rfl hF1 (by rcases hloc1 with h|h;exact .inl h;exact .inr (by rw [h];simp))
    clear hown1 hW1 hF1 hloc1 hg1 HO
    have HE:=Lib.hid (show I++[⟨cx,cy,st⟩]=insS ⟨qx,qy,qs⟩ true (T++[⟨cx,cy,st⟩])∧insD ⟨qx,qy,qs⟩ true (T++[⟨cx,cy,st⟩]) from by rw [← HI.out];exact insS_old (d:=⟨cx,cy,st⟩) HD.out)
    rw [HE.out.1] at h9
    have H9:=Lib.hid h9
    clear h9 b0 b1 b2 bl e0 e1 e2 hg
    go_wp2
    go_roundw
    case rel=>exact⟨i+1,_,true,⟨rfl,rfl,by go_num⟩,by omega,by rw [HTK.out];exact HE.out.2,by rw [HTK.out];exact H9.out.step (by (repeat first|exact Fr.refl _ _|assumption|apply Fr.n|apply Fr.d|apply Fr.a|refine Fr.s ?_ (.inr (by simp;try omega)) _))⟩
    case measure=>simp [intOf];omega
   | false =>
    obtain⟨pb,hpb⟩:∃ b,pBef ⟨qx,qy,qs⟩ ⟨cx,cy,st⟩=b:=⟨_,rfl⟩
    have HB:=Lib.hid (show ∀ w1,_ from fun w1=>hpb▸before_p ⟨qx,qy,qs⟩ ⟨cx,cy,st⟩ w1)
    simp only [pcV] at HB
    have HPB:=Lib.hid hpb
    obtain⟨I,hI⟩:∃ I,insS ⟨qx,qy,qs⟩ false T=I:=⟨_,rfl⟩
    rw [hI] at H HLE
    have HI:=Lib.hid hI
    clear hI hpb
    go_wp2
    (refine wRT (by kernel_rfl) (by kernel_rfl) ?_)
    go_wp2_with fail
    refine (HB.out _).mono ?_
    rintro e w5 ⟨rfl,hf5⟩
    have H5:=Lib.hid (H.out.step (Fr.trans0 (by (repeat first|exact Fr.refl _ _|assumption|apply Fr.n|apply Fr.d|apply Fr.a|refine Fr.s ?_ (.inr (by simp;try omega)) _)) hf5))
    clear hf5 b0 b1 b2 bl e0 e1 e2 hg
    have hb:=H5.out.swap.blk
    have b0:=hEC hb 0
    have b1:=hEC hb 1
    have b2:=hEC hb 2
    have bl:=lBk hb
    clear hb
    obtain⟨g8,of8,he8,hg,e0,e1,e2⟩:=CellsAtY.cell (HL.out.fr H5.out.fr) HPI.out
    cases he8
    simp only at e0 e1 e2
    cases pb with
    | true =>
     go_wp2
     refine Strict.intro rfl ?_
     have hrow:=H5.out.row
     have HO:=Lib.hid hrow
     clear hrow
     go_wp2_with (at_builtin;refine append_pp (n:=I.length) (base:=0) (xs:=pcs I) (y:=⟨qx,qy,qs⟩) rfl rfl rfl ?e12 rfl ?e22 ?e32 ?e42 ?_)
     case e12=>exact oOB HO.out fun g hg=>hAE _ _ _ (oLT HO.out hg)
     case e22=>first|(first|(rw [hAC,if_pos rfl];done)|exact (Array.getElem?_eq_some_iff.1 ((hAC _ _ _).trans (if_pos rfl))).2|(simp only [hDR,hDN];rw [hAC,if_pos rfl];done))|(refine (Array.getElem?_eq_some_iff.1 ?_).2;(repeat first|rw [if_pos (by omega)]|rw [if_neg (by omega)]|rw [hDR]|rw [hDN]|rw [hAz]|rw [hSz]|rw [hAC]|rw [hSC]|rw [oMS]|rw [uPC]|rw [lSZ]|rw [lSS]|rfl))
     case e32=>have:=HLE.out;omega
     case e42=>omega
     intro g22 cap2 w10 hown1 hW1 hF1 hloc1 hg1
     rw [pcs_snoc _ ⟨qx,qy,qs⟩] at hown1
     have h9:=hAP (n':=(I++([⟨qx,qy,qs⟩]:List PC)).length) (H5.out.step (by (repeat first|exact Fr.refl _ _|assumption|apply Fr.n|apply Fr.d|apply Fr.a|refine Fr.s ?_ (.inr (by simp;try omega)) _))) (by first|(rw [List.length_append];exact hown1)|(rw [List.length_append,List.length_append];exact hown1)) rfl hF1 (by rcases hloc1 with h|h;exact .inl h;exact .inr (by rw [h];simp))
     clear hown1 hW1 hF1 hloc1 hg1 HO
     have H6:=Lib.hid h9
     clear h9 b0 b1 b2 bl e0 e1 e2 hg
     have hb:=H6.out.swap.blk
     have b0:=hEC hb 0
     have b1:=hEC hb 1
     have b2:=hEC hb 2
     have bl:=lBk hb
     clear hb
     obtain⟨g8,of8,he8,hg,e0,e1,e2⟩:=CellsAtY.cell (HL.out.fr H6.out.fr) HPI.out
     cases he8
     simp only at e0 e1 e2
     have hrow:=H6.out.row
     have HO:=Lib.hid hrow
     clear hrow
     go_wp2_with (at_builtin;refine append_pp (n:=(I++([⟨qx,qy,qs⟩]:List PC)).length) (base:=0) (xs:=pcs (I++([⟨qx,qy,qs⟩]:List PC))) (y:=⟨cx,cy,st⟩) rfl rfl rfl ?e13 rfl ?e23 ?e33 ?e43 ?_)
     case e13=>exact oOB HO.out fun g hg=>hAE _ _ _ (oLT HO.out hg)
     case e23=>first|(first|(rw [hAC,if_pos rfl];done)|exact (Array.getElem?_eq_some_iff.1 ((hAC _ _ _).trans (if_pos rfl))).2|(simp only [hDR,hDN];rw [hAC,if_pos rfl];done))|(refine (Array.getElem?_eq_some_iff.1 ?_).2;(repeat first|rw [if_pos (by omega)]|rw [if_neg (by omega)]|rw [hDR]|rw [hDN]|rw [hAz]|rw [hSz]|rw [hAC]|rw [hSC]|rw [oMS]|rw [uPC]|rw [lSZ]|rw [lSS]|rfl))
     case e33=>have:=HLE.out;simp;omega
     case e43=>omega
     intro g23 cap3 w10 hown1 hW1 hF1 hloc1 hg1
     rw [pcs_snoc _ ⟨cx,cy,st⟩] at hown1
     have h9:=hAP (n':=((I++([⟨qx,qy,qs⟩]:List PC))++([⟨cx,cy,st⟩]:List PC)).length) (H6.out.step (by (repeat first|exact Fr.refl _ _|assumption|apply Fr.n|apply Fr.d|apply Fr.a|refine Fr.s ?_ (.inr (by simp;try omega)) _))) (by first|(rw [List.length_append];exact hown1)|(rw [List.length_append,List.length_append];exact hown1)) rfl hF1 (by rcases hloc1 with h|h;exact .inl h;exact .inr (by rw [h];simp))
     clear hown1 hW1 hF1 hloc1 hg1 HO
     have HE:=Lib.hid (show (I++([⟨qx,qy,qs⟩]:List PC))++[⟨cx,cy,st⟩]=insS ⟨qx,qy,qs⟩ true (T++[⟨cx,cy,st⟩])∧insD ⟨qx,qy,qs⟩ true (T++[⟨cx,cy,st⟩]) from by rw [← HI.out];exact insS_new HD.out HPB.out)
     rw [HE.out.1] at h9
     have H9:=Lib.hid h9
     clear h9 b0 b1 b2 bl e0 e1 e2 hg
     go_wp2
     go_roundw
     case rel=>exact⟨i+1,_,true,⟨rfl,rfl,by go_num⟩,by omega,by rw [HTK.out];exact HE.out.2,by rw [HTK.out];exact H9.out.step (by (repeat first|exact Fr.refl _ _|assumption|apply Fr.n|apply Fr.d|apply Fr.a|refine Fr.s ?_ (.inr (by simp;try omega)) _))⟩
     case measure=>simp [intOf];omega
    | false =>
     go_wp2
     refine Strict.intro rfl ?_
     have hrow:=H5.out.row
     have HO:=Lib.hid hrow
     clear hrow
     go_wp2_with (at_builtin;refine append_pp (n:=I.length) (base:=0) (xs:=pcs I) (y:=⟨cx,cy,st⟩) rfl rfl rfl ?e14 rfl ?e24 ?e34 ?e44 ?_)
     case e14=>exact oOB HO.out fun g hg=>hAE _ _ _ (oLT HO.out hg)
     case e24=>first|(first|(rw [hAC,if_pos rfl];done)|exact (Array.getElem?_eq_some_iff.1 ((hAC _ _ _).trans (if_pos rfl))).2|(simp only [hDR,hDN];rw [hAC,if_pos rfl];done))|(refine (Array.getElem?_eq_some_iff.1 ?_).2;(repeat first|rw [if_pos (by omega)]|rw [if_neg (by omega)]|rw [hDR]|rw [hDN]|rw [hAz]|rw [hSz]|rw [hAC]|rw [hSC]|rw [oMS]|rw [uPC]|rw [lSZ]|rw [lSS]|rfl))
     case e34=>have:=HLE.out;omega
     case e44=>omega
     intro g24 cap4 w10 hown1 hW1 hF1 hloc1 hg1
     rw [pcs_snoc _ ⟨cx,cy,st⟩] at hown1
     have h9:=hAP (n':=(I++([⟨cx,cy,st⟩]:List PC)).length) (H5.out.step (by (repeat first|exact Fr.refl _ _|assumption|apply Fr.n|apply Fr.d|apply Fr.a|refine Fr.s ?_ (.inr (by simp;try omega)) _))) (by first|(rw [List.length_append];exact hown1)|(rw [List.length_append,List.length_append];exact hown1)) rfl hF1 (by rcases hloc1 with h|h;exact .inl h;exact .inr (by rw [h];simp))
     clear hown1 hW1 hF1 hloc1 hg1 HO
     have HE:=Lib.hid (show I++[⟨cx,cy,st⟩]=insS ⟨qx,qy,qs⟩ false (T++[⟨cx,cy,st⟩])∧insD ⟨qx,qy,qs⟩ false (T++[⟨cx,cy,st⟩]) from by rw [← HI.out];exact insS_keep HD.out HPB.out)
     rw [HE.out.1] at h9
     have H9:=Lib.hid h9
     clear h9 b0 b1 b2 bl e0 e1 e2 hg
     go_wp2
     go_roundw
     case rel=>exact⟨i+1,_,false,⟨rfl,rfl,by go_num⟩,by omega,by rw [HTK.out];exact HE.out.2,by rw [HTK.out];exact H9.out.step (by (repeat first|exact Fr.refl _ _|assumption|apply Fr.n|apply Fr.d|apply Fr.a|refine Fr.s ?_ (.inr (by simp;try omega)) _))⟩
     case measure=>simp [intOf];omega
  ·obtain rfl:i=m:=by omega
   have HTP:=Lib.hid (show T=p by rw [← HT.out];exact List.take_of_length_le (by rw [HM.out];exact Nat.le_refl _))
   cases dn with
   | true =>
    go_wp2
    go_ret
    refine⟨_,rfl,?_⟩
    have h:=H.out.ord 2 [0]
    simp only [List.filterMap_cons,List.filterMap_nil,List.getElem?_cons_zero,List.getElem?_cons_succ,List.drop_succ_cons,List.drop_zero,List.cons_append,List.nil_append,List.take_succ_cons,List.take_zero,List.eraseIdx_cons_succ,List.eraseIdx_zero,List.eraseIdx_cons_zero,List.tail_cons,Option.toList_some] at h
    rw [HTP.out,show insS ⟨qx,qy,qs⟩ true p=R from HR.out] at h
    exact h.step (by (repeat first|exact Fr.refl _ _|assumption|apply Fr.n|apply Fr.d|apply Fr.a|refine Fr.s ?_ (.inr (by simp;try omega)) _))
   | false =>
    obtain⟨I,hI⟩:∃ I,insS ⟨qx,qy,qs⟩ false T=I:=⟨_,rfl⟩
    have HIE:=Lib.hid (show I++[⟨qx,qy,qs⟩]=R from by rw [← hI,insS_end HD.out,HTP.out,HR.out])
    rw [hI] at H HLE
    clear hI
    have hrow:=H.out.row
    have HO:=Lib.hid hrow
    clear hrow
    go_wp2_with (at_builtin;refine append_pp (n:=I.length) (base:=0) (xs:=pcs I) (y:=⟨qx,qy,qs⟩) rfl rfl rfl ?e15 rfl ?e25 ?e35 ?e45 ?_)
    case e15=>exact oOB HO.out fun g hg=>hAE _ _ _ (oLT HO.out hg)
    case e25=>first|(first|(rw [hAC,if_pos rfl];done)|exact (Array.getElem?_eq_some_iff.1 ((hAC _ _ _).trans (if_pos rfl))).2|(simp only [hDR,hDN];rw [hAC,if_pos rfl];done))|(refine (Array.getElem?_eq_some_iff.1 ?_).2;(repeat first|rw [if_pos (by omega)]|rw [if_neg (by omega)]|rw [hDR]|rw [hDN]|rw [hAz]|rw [hSz]|rw [hAC]|rw [hSC]|rw [oMS]|rw [uPC]|rw [lSZ]|rw [lSS]|rfl))
    case e35=>have:=HLE.out;omega
    case e45=>omega
    intro g25 cap5 w10 hown1 hW1 hF1 hloc1 hg1
    rw [pcs_snoc _ ⟨qx,qy,qs⟩] at hown1
    have h9:=hAP (n':=(I++([⟨qx,qy,qs⟩]:List PC)).length) (H.out.step (by (repeat first|exact Fr.refl _ _|assumption|apply Fr.n|apply Fr.d|apply Fr.a|refine Fr.s ?_ (.inr (by simp;try omega)) _))) (by first|(rw [List.length_append];exact hown1)|(rw [List.length_append,List.length_append];exact hown1)) rfl hF1 (by rcases hloc1 with h|h;exact .inl h;exact .inr (by rw [h];simp))
    clear hown1 hW1 hF1 hloc1 hg1 HO
    rw [HIE.out] at h9
    have h9:=h9.ord 2 [0]
    simp only [List.filterMap_cons,List.filterMap_nil,List.getElem?_cons_zero,List.getElem?_cons_succ,List.drop_succ_cons,List.drop_zero,List.cons_append,List.nil_append,List.take_succ_cons,List.take_zero,List.eraseIdx_cons_succ,List.eraseIdx_zero,List.eraseIdx_cons_zero,List.tail_cons,Option.toList_some] at h9
    have H9:=Lib.hid h9
    clear h9
    go_wp2
    go_ret
    exact⟨_,rfl,H9.out.step (by (repeat first|exact Fr.refl _ _|assumption|apply Fr.n|apply Fr.d|apply Fr.a|refine Fr.s ?_ (.inr (by simp;try omega)) _))⟩
end Go.Proofs.Ytppmnmheodimoaa
end
