/- Own texts of this claim, part 29: no condition. -/
import Derived.ProofKit
import Derived.OpenShut
import Derived.Deep.Slices
import Derived.Test.YtppmnmheodimoaaZD27
import Derived.Test.YtppmnmheodimoaaZD3
import Derived.Test.YtppmnmheodimoaaZD4
import Derived.Test.YtppmnmheodimoaaZD16
import Derived.Test.YtppmnmheodimoaaZD5
set_option linter.unusedVariables false
set_option linter.unusedSimpArgs false
section
namespace Go.Proofs.Ytppmnmheodimoaa
open Go Go.RowKit Rg Mp Hp Qs Ev Pt
def smallP (r:Rule) (p:List PC):Bool:=few12 r && decide (p.length≤60)
set_option maxHeartbeats 4000000 in
theorem LSmall_calls {w:World} {r:Rule} {ha na:Option Addr} {hc nc:Nat} (hru:RuleAt w (.slice ha r.hood.length hc) (.slice na r.nodes.length nc) r) {p:List PC} {a:Option Addr} {c:Nat} :
  Calls Try.prog 27 #[.agg #[.int .i64 r.S,.slice ha r.hood.length hc,.slice na r.nodes.length nc],.slice a p.length c] w fun e w'=>e=.returned (.bool (smallP r p))∧Fr [] w w':=by
 have HF:=Lib.hid (fun w' (hf:Fr [] w w')=>LFew12_calls (hru.fr hf))
 obtain⟨B,hB⟩:∃ B,few12 r=B:=⟨_,rfl⟩
 rw [hB] at HF
 have hP:smallP r p=(B && decide (p.length≤60)):=by unfold smallP;rw [hB]
 rw [hP]
 obtain⟨l,hl⟩:∃ l,p.length=l:=⟨_,rfl⟩
 rw [hl]
 clear hru hB hP hl
 cases B with
 | false =>
  go_enter Try.func27,Try.ntmps27
  go_wp2_with fail
  refine (HF.out _ (by (repeat first|exact Fr.refl _ _|assumption|apply Fr.n|apply Fr.d|apply Fr.a|refine Fr.s ?_ (.inr (by simp;try omega)) _))).mono ?_
  rintro e w1 ⟨rfl,hf1⟩
  have Hf:=Lib.hid (Fr.trans0 (by (repeat first|exact Fr.refl _ _|assumption|apply Fr.n|apply Fr.d|apply Fr.a|refine Fr.s ?_ (.inr (by simp;try omega)) _):Fr [] w _) hf1)
  clear hf1
  go_wp2
  go_ret
  exact⟨rfl,by have:=Hf.out;(repeat first|exact Fr.refl _ _|assumption|apply Fr.n|apply Fr.d|apply Fr.a|refine Fr.s ?_ (.inr (by simp;try omega)) _)⟩
 | true =>
  by_cases h60:l≤60
  ·have e1:decide (l≤60)=true:=decide_eq_true h60
   rw [e1]
   have e2:decide ((l:Int)≤60)=true:=by first|exact decide_eq_true (by omega)|exact decide_eq_false (by omega)
   have E2:=Lib.hid e2
   clear e2
   go_enter Try.func27,Try.ntmps27
   go_wp2_with fail
   refine (HF.out _ (by (repeat first|exact Fr.refl _ _|assumption|apply Fr.n|apply Fr.d|apply Fr.a|refine Fr.s ?_ (.inr (by simp;try omega)) _))).mono ?_
   rintro e w1 ⟨rfl,hf1⟩
   have Hf:=Lib.hid (Fr.trans0 (by (repeat first|exact Fr.refl _ _|assumption|apply Fr.n|apply Fr.d|apply Fr.a|refine Fr.s ?_ (.inr (by simp;try omega)) _):Fr [] w _) hf1)
   clear hf1
   go_wp2
   go_ret
   exact⟨congrArg (fun b:Bool=>Ending.returned (Value.bool b)) E2.out,by have:=Hf.out;(repeat first|exact Fr.refl _ _|assumption|apply Fr.n|apply Fr.d|apply Fr.a|refine Fr.s ?_ (.inr (by simp;try omega)) _)⟩
  ·have e1:decide (l≤60)=false:=decide_eq_false h60
   rw [e1]
   have e2:decide ((l:Int)≤60)=false:=by first|exact decide_eq_true (by omega)|exact decide_eq_false (by omega)
   have E2:=Lib.hid e2
   clear e2
   go_enter Try.func27,Try.ntmps27
   go_wp2_with fail
   refine (HF.out _ (by (repeat first|exact Fr.refl _ _|assumption|apply Fr.n|apply Fr.d|apply Fr.a|refine Fr.s ?_ (.inr (by simp;try omega)) _))).mono ?_
   rintro e w1 ⟨rfl,hf1⟩
   have Hf:=Lib.hid (Fr.trans0 (by (repeat first|exact Fr.refl _ _|assumption|apply Fr.n|apply Fr.d|apply Fr.a|refine Fr.s ?_ (.inr (by simp;try omega)) _):Fr [] w _) hf1)
   clear hf1
   go_wp2
   go_ret
   exact⟨congrArg (fun b:Bool=>Ending.returned (Value.bool b)) E2.out,by have:=Hf.out;(repeat first|exact Fr.refl _ _|assumption|apply Fr.n|apply Fr.d|apply Fr.a|refine Fr.s ?_ (.inr (by simp;try omega)) _)⟩
theorem fits_zero {r:Rule} {p:List PC} (h:fitsE r p=0):quietB r=true∧rightP p=true∧∀ c∈p,c.st<r.S:=by
 unfold fitsE at h
 cases h1:quietB r with
 | false=>rw [h1] at h;cases h
 | true =>
  cases h2:rightP p with
  | false=>rw [h1,h2] at h;cases h
  | true =>
   rw [h1,h2,if_pos rfl,if_pos rfl] at h
   cases h3:p.all fun c=>decide (c.st<r.S) with
   | false=>rw [h3] at h;cases h
   | true=>exact⟨rfl,rfl,fun c hc=>by simpa using List.all_eq_true.1 h3 c hc⟩
theorem direct_rows {r:Rule} (hR:rightR r=true) {F G:Fld} {L k h:Nat} (hh:2 ^ (L - 2)=h) (hL:2≤L) (hk:k+lostOf (radius r.hood)≤L) (hG:G=it (gen r) (2 ^ k) F) :
  cellsL (L - 1) (stp (gen r) L k (mk L F (-(2*(h:Int))) (-(2*(h:Int)))))=gridL (2*h) G (-(h:Int)) (-(h:Int)):=by
 have hrad:=radius_le r.hood
 have hm:=margin hrad.1 hrad.2 (n:=L) (k:=k) (by omega) (by omega)
 rw [stp_mk (gen_local hR) hL hm,cellsL_mk,← hG]
 have e1:2 ^ (L - 1)=2*h:=by
  obtain⟨q,rfl⟩:∃ q,L=q+2:=⟨L - 2,by omega⟩
  rw [← hh,show q+2 - 1=q+1 by omega,show q+2 - 2=q by omega,Nat.pow_succ];omega
 have e2:p2 (L - 2)=(h:Int):=by unfold p2;rw [hh]
 rw [e1,e2,show -(2*(h:Int))+(h:Int)=-(h:Int) by omega]
theorem wi_of_in {p:List PC} {h lv:Nat} (hM:2 ^ lv=4*h) (hin:∀ c∈p,inC (-(2*(h:Int))) (-(2*(h:Int))) lv c=true):Wi (2*(h:Int)) p:=fun c hc=>by
 have hi:=inC_iff.1 (hin c hc)
 have hpp:p2 lv=4*(h:Int):=by unfold p2;rw [hM];simp
 rw [hpp] at hi
 clear hpp hM hin hc
 omega
theorem run_bound {h G:Nat} (h8:h≤8) (hG:G≤8):(0:Int)≤2*(h:Int)∧2*(h:Int)+2*(G:Int)≤32:=by omega
set_option maxHeartbeats 16000000 in
set_option maxRecDepth 100000 in
theorem MemoDirect_calls {w:World} {r:Rule} {ha na:Option Addr} {hc nc:Nat} (hru:RuleAt w (.slice ha r.hood.length hc) (.slice na r.nodes.length nc) r) {p:List PC} {a:Option Addr} {c:Nat} (hp:CellsAtY w (.slice a p.length c) p) {lv kk:Nat} (hlk:lv≤255∧kk≤255) :
  Calls Try.prog 6 #[.agg #[.int .i64 r.S,.slice ha r.hood.length hc,.slice na r.nodes.length nc],.slice a p.length c,.agg #[.int .u8 (lv:Int),.int .u8 (kk:Int)]] w fun e w'=>e=.returned (.bool true)∧Fr [] w w':=by
 have HRU:=Lib.hid hru
 have HP:=Lib.hid hp
 have HSM:=Lib.hid (fun w' (hf:Fr [] w w')=>LSmall_calls (p:=p) (a:=a) (c:=c) (hru.fr hf))
 have h0:=((Has.nil (Fr.refl [] w)).newBlk (.cells #[.int .i64 r.S,.slice ha r.hood.length hc,.slice na r.nodes.length nc] 31 (0,0))).newBlk (.cells #[.int .u8 (lv:Int),.int .u8 (kk:Int)] 62 (0,0))
 simp only [hAz] at h0
 have H0:=Lib.hid h0
 obtain⟨T,hT⟩:∃ T,smallP r p=T:=⟨_,rfl⟩
 rw [hT] at HSM
 have HT:=Lib.hid hT
 clear hru hp hT h0
 have hb:=H0.out.blk
 have n0:_=some _:=hEC hb 0
 have n1:_=some _:=hEC hb 1
 have nl:=lBk hb
 clear hb
 go_enter Try.func6,Try.ntmps6
 go_wp2
 (refine wRT (by kernel_rfl) (by kernel_rfl) ?_)
 go_wp2
 refine Strict.intro rfl ?_
 go_wp2_with fail
 refine (HSM.out _ (by (repeat first|exact Fr.refl _ _|assumption|apply Fr.n|apply Fr.d|apply Fr.a|refine Fr.s ?_ (.inr (by simp;try omega)) _))).mono ?_
 rintro e w1 ⟨rfl,hf1⟩
 have h1:=(H0.out.step (Fr.trans0 (by (repeat first|exact Fr.refl _ _|assumption|apply Fr.n|apply Fr.d|apply Fr.a|refine Fr.s ?_ (.inr (by simp;try omega)) _)) hf1)).drop
 obtain⟨tb,htb⟩:∃ t,w.heap.size=t:=⟨_,rfl⟩
 rw [htb] at h1 ⊢
 have H1:=Lib.hid h1
 clear h1 hf1 htb H0 HSM n0 n1 nl
 (try clear t0)
 (try clear t1)
 (try clear t2)
 (try clear tl)
 obtain⟨_,hT_⟩:=has_mem3 H1.out (show Hp.blk tb (.cells #[.int .i64 r.S,.slice ha r.hood.length hc,.slice na r.nodes.length nc] 31 (0,0))∈_ from (by simp))
 have t0:_=some _:=hEC hT_.blk 0
 have t1:_=some _:=hEC hT_.blk 1
 have t2:_=some _:=hEC hT_.blk 2
 have tl:=lBk hT_.blk
 clear hT_
 cases T with
 | false =>
  go_wp2_with fail
  refine LAwake_calls.mono ?_
  rintro e w9 ⟨rfl,hf⟩
  have Hf9:=Lib.hid (H1.out.fr.trans0 (Fr.trans0 (by (repeat first|exact Fr.refl _ _|assumption|apply Fr.n|apply Fr.d|apply Fr.a|refine Fr.s ?_ (.inr (by simp;try omega)) _)) hf))
  clear hf
  go_wp2
  go_ret
  exact⟨rfl,by have:=Hf9.out;(repeat first|exact Fr.refl _ _|assumption|apply Fr.n|apply Fr.d|apply Fr.a|refine Fr.s ?_ (.inr (by simp;try omega)) _)⟩
 | true =>
 have hsm:=HT.out
 unfold smallP at hsm
 rw [Bool.and_eq_true,decide_eq_true_eq] at hsm
 obtain⟨hfew,hp60⟩:=hsm
 obtain⟨hlh,hln⟩:=few_len hfew
 clear hfew
 by_cases hl2:lv<2
 ·
  go_wp2_with fail
  refine LAwake_calls.mono ?_
  rintro e w9 ⟨rfl,hf⟩
  have Hf9:=Lib.hid (H1.out.fr.trans0 (Fr.trans0 (by (repeat first|exact Fr.refl _ _|assumption|apply Fr.n|apply Fr.d|apply Fr.a|refine Fr.s ?_ (.inr (by simp;try omega)) _)) hf))
  clear hf
  go_wp2
  go_ret
  exact⟨rfl,by have:=Hf9.out;(repeat first|exact Fr.refl _ _|assumption|apply Fr.n|apply Fr.d|apply Fr.a|refine Fr.s ?_ (.inr (by simp;try omega)) _)⟩
 by_cases hl5:5<lv
 ·
  go_wp2_with fail
  refine LAwake_calls.mono ?_
  rintro e w9 ⟨rfl,hf⟩
  have Hf9:=Lib.hid (H1.out.fr.trans0 (Fr.trans0 (by (repeat first|exact Fr.refl _ _|assumption|apply Fr.n|apply Fr.d|apply Fr.a|refine Fr.s ?_ (.inr (by simp;try omega)) _)) hf))
  clear hf
  go_wp2
  go_ret
  exact⟨rfl,by have:=Hf9.out;(repeat first|exact Fr.refl _ _|assumption|apply Fr.n|apply Fr.d|apply Fr.a|refine Fr.s ?_ (.inr (by simp;try omega)) _)⟩
 by_cases hk3:3<kk
 ·
  go_wp2_with fail
  refine LAwake_calls.mono ?_
  rintro e w9 ⟨rfl,hf⟩
  have Hf9:=Lib.hid (H1.out.fr.trans0 (Fr.trans0 (by (repeat first|exact Fr.refl _ _|assumption|apply Fr.n|apply Fr.d|apply Fr.a|refine Fr.s ?_ (.inr (by simp;try omega)) _)) hf))
  clear hf
  go_wp2
  go_ret
  exact⟨rfl,by have:=Hf9.out;(repeat first|exact Fr.refl _ _|assumption|apply Fr.n|apply Fr.d|apply Fr.a|refine Fr.s ?_ (.inr (by simp;try omega)) _)⟩
 have HFT:=Lib.hid (fun w' (hf:Fr [] w1 w')=>RFits_calls (HRU.out.fr (H1.out.step hf).fr) hlh hln (HP.out.fr (H1.out.step hf).fr) (by omega))
 obtain⟨E,hE⟩:∃ E,fitsE r p=E:=⟨_,rfl⟩
 rw [hE] at HFT
 have HE:=Lib.hid hE
 clear hE
 go_wp2_with fail
 refine (HFT.out _ (by (repeat first|exact Fr.refl _ _|assumption|apply Fr.n|apply Fr.d|apply Fr.a|refine Fr.s ?_ (.inr (by simp;try omega)) _))).mono ?_
 rintro e w2 ⟨rfl,hf2⟩
 have H2:=Lib.hid (H1.out.step (Fr.trans0 (by (repeat first|exact Fr.refl _ _|assumption|apply Fr.n|apply Fr.d|apply Fr.a|refine Fr.s ?_ (.inr (by simp;try omega)) _)) hf2))
 clear hf2 HFT H1
 (try clear t0)
 (try clear t1)
 (try clear t2)
 (try clear tl)
 obtain⟨_,hT_⟩:=has_mem3 H2.out (show Hp.blk tb (.cells #[.int .i64 r.S,.slice ha r.hood.length hc,.slice na r.nodes.length nc] 31 (0,0))∈_ from (by simp))
 have t0:_=some _:=hEC hT_.blk 0
 have t1:_=some _:=hEC hT_.blk 1
 have t2:_=some _:=hEC hT_.blk 2
 have tl:=lBk hT_.blk
 clear hT_
 by_cases hE0:E=0
 case neg =>
  have b0:(E != 0)=true:=by simpa using hE0
  go_wp2_with fail
  refine LAwake_calls.mono ?_
  rintro e w9 ⟨rfl,hf⟩
  have Hf9:=Lib.hid (H2.out.fr.trans0 (Fr.trans0 (by (repeat first|exact Fr.refl _ _|assumption|apply Fr.n|apply Fr.d|apply Fr.a|refine Fr.s ?_ (.inr (by simp;try omega)) _)) hf))
  clear hf
  go_wp2
  go_ret
  exact⟨rfl,by have:=Hf9.out;(repeat first|exact Fr.refl _ _|assumption|apply Fr.n|apply Fr.d|apply Fr.a|refine Fr.s ?_ (.inr (by simp;try omega)) _)⟩
 subst hE0
 obtain⟨hQ,hr,hst⟩:=fits_zero HE.out
 obtain⟨hR,_⟩:=quiet_parts hQ
 have hS:=right_S hR
 have HQ:=Lib.hid (And.intro hQ (And.intro hr (And.intro hst hR)))
 clear hQ hr hst
 go_wp2_with fail
 refine (New_has (H2.out.step (by (repeat first|exact Fr.refl _ _|assumption|apply Fr.n|apply Fr.d|apply Fr.a|refine Fr.s ?_ (.inr (by simp;try omega)) _))) r.S hS.1 hS.2).mono ?_
 rintro e w3 ⟨b0,rfl,h3⟩
 have H3:=Lib.hid h3.drop
 clear h3 H2
 (try clear t0)
 (try clear t1)
 (try clear t2)
 (try clear tl)
 obtain⟨_,hT_⟩:=has_mem3 H3.out (show Hp.blk tb (.cells #[.int .i64 r.S,.slice ha r.hood.length hc,.slice na r.nodes.length nc] 31 (0,0))∈_ from (by simp))
 have t0:_=some _:=hEC hT_.blk 0
 have t1:_=some _:=hEC hT_.blk 1
 have t2:_=some _:=hEC hT_.blk 2
 have tl:=lBk hT_.blk
 clear hT_
 go_wp2_with fail
 refine (RNew_ok r.S _ hS.1 hS.2).mono ?_
 rintro e w4 ⟨b1,F1,rfl,hS4,hf4,hF4⟩
 have H4:=Lib.hid ((H3.out.step (by (repeat first|exact Fr.refl _ _|assumption|apply Fr.n|apply Fr.d|apply Fr.a|refine Fr.s ?_ (.inr (by simp;try omega)) _))).new (P:=refR b1 r.S []) hf4 hS4 hF4)
 clear hf4 hS4 hF4 H3
 obtain⟨h,hh⟩:∃ h,2 ^ (lv - 2)=h:=⟨_,rfl⟩
 have hh8:1≤h∧h≤8:=by
  rw [← hh]
  exact⟨Nat.one_le_two_pow,Nat.le_trans (Nat.pow_le_pow_right (by omega) (show lv - 2≤3 by omega)) (by decide)⟩
 have hM:2 ^ lv=4*h:=by
  obtain⟨q,rfl⟩:∃ q,lv=q+2:=⟨lv - 2,by omega⟩
  rw [← hh,show q+2 - 2=q by omega,Nat.pow_succ,Nat.pow_succ];omega
 have hsh:wrap64 ((2:Int) ^ lv)=4*(h:Int):=by
  have e1:((2:Int) ^ lv)=((2 ^ lv:Nat):Int):=by simp
  rw [e1,hM]
  unfold wrap64
  omega
 have hqu:wrap64 (-(4*(h:Int)).tdiv 2)=-(2*(h:Int)):=by
  rw [Int.tdiv_eq_ediv_of_nonneg (by omega)]
  unfold wrap64
  omega
 obtain⟨N,hN⟩:∃ N,need (gen r) (lostOf (radius r.hood)) lv kk (mk lv (fldP p) (-(2*(h:Int))) (-(2*(h:Int))))=N:=⟨_,rfl⟩
 have hlost:=lost_le (radius_le r.hood).1 (radius_le r.hood).2
 have hNl:N.length≤80000:=by
  rw [← hN,need_length]
  have:=cost_all hlost.1 hlost.2 (show lv≤6 by omega) (show kk≤4 by omega)
  omega
 obtain⟨id,e6,ms,hfq,hcase⟩:=from_tree hS HQ.out.2.1 hp60 HQ.out.2.2.1 (-(2*(h:Int))) (-(2*(h:Int))) (L:=lv) (by omega) hNl
 have hFR:=fun w' (hf:Fr [] w4 w')=>RFrom_q (H4.out.step hf) HP.out (by omega) (-(2*(h:Int))) (-(2*(h:Int))) (lv:Int) (by omega) (by omega) (fun L hL hL2 _=>by
  obtain rfl:lv=L:=by omega
  refine room.of_len ?_
  have h1:=newT_len lv (p.map (spot (-(2*(h:Int))) (-(2*(h:Int)))))
  rw [List.length_map] at h1
  have h2:p.length*lv≤60*5:=Nat.mul_le_mul hp60 (by omega)
  have h3:dums.length=300:=by simp [dums]
  simp only [List.length_append,emptiesT,List.length_map,List.length_range,List.length_nil]
  omega)
 rw [hfq] at hFR
 have HFR:=Lib.hid hFR
 have HCS:=Lib.hid hcase
 have HNN:=Lib.hid hN
 have HHH:=Lib.hid (And.intro hh hM)
 clear hFR hfq hcase hN hh hM hNl
 go_wp2_with fail
 rw [hqu]
 (try rw [hsh])
 refine (HFR.out _ (by (repeat first|exact Fr.refl _ _|assumption|apply Fr.n|apply Fr.d|apply Fr.a|refine Fr.s ?_ (.inr (by simp;try omega)) _))).mono ?_
 rintro e w5 ⟨rfl,h5⟩
 have H5:=Lib.hid h5
 clear h5 HFR H4 hqu hsh
 (try clear t0)
 (try clear t1)
 (try clear t2)
 (try clear tl)
 obtain⟨_,hT_⟩:=has_mem3 H5.out (show Hp.blk tb (.cells #[.int .i64 r.S,.slice ha r.hood.length hc,.slice na r.nodes.length nc] 31 (0,0))∈_ from (by simp))
 have t0:_=some _:=hEC hT_.blk 0
 have t1:_=some _:=hEC hT_.blk 1
 have t2:_=some _:=hEC hT_.blk 2
 have tl:=lBk hT_.blk
 clear hT_
 rcases HCS.out with hbad|⟨rfl,hin,hgms,hIs,hroom⟩
 ·have b0:(e6 != 0)=true:=by simpa using hbad
  simp only
  go_wp2_with fail
  refine LAwake_calls.mono ?_
  rintro e w9 ⟨rfl,hf⟩
  have Hf9:=Lib.hid (H5.out.fr.trans0 (Fr.trans0 (by (repeat first|exact Fr.refl _ _|assumption|apply Fr.n|apply Fr.d|apply Fr.a|refine Fr.s ?_ (.inr (by simp;try omega)) _)) hf))
  clear hf
  go_wp2
  go_ret
  exact⟨rfl,by have:=Hf9.out;(repeat first|exact Fr.refl _ _|assumption|apply Fr.n|apply Fr.d|apply Fr.a|refine Fr.s ?_ (.inr (by simp;try omega)) _)⟩
 have HIN:=Lib.hid (And.intro hin (And.intro hgms (And.intro hIs hroom)))
 clear hin hgms hIs hroom HCS
 simp only
 go_wp2_with fail
 refine (RData_has (H5.out.step (by (repeat first|exact Fr.refl _ _|assumption|apply Fr.n|apply Fr.d|apply Fr.a|refine Fr.s ?_ (.inr (by simp;try omega)) _)))).mono ?_
 rintro e w6 ⟨dv,rfl,h6⟩
 have HLD:=Lib.hid (fun w' (hf:Fr [] w6 w')=>Load_calls (w:=w') (s:=r.S) (ns:=ms) (v:=dv) (by have:=HIN.out.2.2.2.len;omega) (Reads.fr h6.rowReads hf))
 have H6:=Lib.hid h6
 clear h6 H5
 go_wp2_with fail
 refine (HLD.out _ (by (repeat first|exact Fr.refl _ _|assumption|apply Fr.n|apply Fr.d|apply Fr.a|refine Fr.s ?_ (.inr (by simp;try omega)) _))).mono ?_
 rintro e w7 ⟨hpos,_⟩
 obtain⟨sb,F7,rfl,hS7,hf7,hF7⟩:=hpos HIN.out.2.1
 have H7:=Lib.hid ((H6.out.step (by (repeat first|exact Fr.refl _ _|assumption|apply Fr.n|apply Fr.d|apply Fr.a|refine Fr.s ?_ (.inr (by simp;try omega)) _))).new (P:=sTR sb r.S ms) hf7 hS7 hF7)
 clear hpos hS7 hf7 hF7 HLD H6
 (try clear t0)
 (try clear t1)
 (try clear t2)
 (try clear tl)
 obtain⟨_,hT_⟩:=has_mem3 H7.out (show Hp.blk tb (.cells #[.int .i64 r.S,.slice ha r.hood.length hc,.slice na r.nodes.length nc] 31 (0,0))∈_ from (by simp))
 have t0:_=some _:=hEC hT_.blk 0
 have t1:_=some _:=hEC hT_.blk 1
 have t2:_=some _:=hEC hT_.blk 2
 have tl:=lBk hT_.blk
 clear hT_
 have HMN:=Lib.hid (fun w' (hf:Fr [] w7 w')=>MNew_calls (HRU.out.fr (H7.out.step hf).fr) hlh hln hR (H7.out.step hf))
 unfold rv at HMN
 go_wp2_with fail
 refine (HMN.out _ (by (repeat first|exact Fr.refl _ _|assumption|apply Fr.n|apply Fr.d|apply Fr.a|refine Fr.s ?_ (.inr (by simp;try omega)) _))).mono ?_
 rintro e w8 (⟨hne,_⟩|⟨_,mb,rb,rfl,h8⟩)
 ·exact absurd rfl hne
 have H8:=Lib.hid h8
 clear h8 HMN H7
 go_wp2_with fail
 refine (MStep_calls (L:=N) hR (RuleSrc.base HRU.out) (H8.out.step (by (repeat first|exact Fr.refl _ _|assumption|apply Fr.n|apply Fr.d|apply Fr.a|refine Fr.s ?_ (.inr (by simp;try omega)) _))) HIN.out.2.2.2 (fun id k v h=>by simp [get?] at h) id (kk:Int) (fun n' k' t' h1 h2 h3 h4=>by
  obtain⟨rfl,rfl⟩:=Is.same HIN.out.2.1 HIN.out.2.2.1 h1
  obtain rfl:kk=k':=by omega
  exact⟨by omega,fun u hu=>by rw [← HNN.out];exact hu⟩)).mono ?_
 rintro e w9 hend
 obtain⟨x9,y9,ns9,mm9,rfl,h9,hr9,hcase⟩:∃ x y ns' mm',e=.returned (.tuple #[.int .i64 x,.int .i64 y])∧Has w w9 (memoL r (.slice ha r.hood.length hc) (.slice na r.nodes.length nc) mb sb rb ns' mm' _)∧room r.S ns' N∧(y=18∨(y=0∧kk+lostOf (radius r.hood)≤lv∧Is r.S ns' (lv - 1) x (stp (gen r) lv kk (mk lv (fldP p) (-(2*(h:Int))) (-(2*(h:Int))))))):=by
  rcases hend with ⟨hk,_⟩|⟨_,_,_,_,he,h2⟩|⟨n',t',k',hi,hk,h1,h2,res,ns',mm',he,h3,_,hroom,_,hIs,_⟩
  ·exact absurd HIN.out.2.2.1.kn hk
  ·exact⟨0,18,ms,[],he,h2,HIN.out.2.2.2,.inl rfl⟩
  ·obtain⟨rfl,rfl⟩:=Is.same HIN.out.2.1 HIN.out.2.2.1 hi
   obtain rfl:kk=k':=by omega
   exact⟨res,0,ns',mm',he,h3,hroom,.inr ⟨rfl,by omega,hIs⟩⟩
 have H9:=Lib.hid h9
 have HR9:=Lib.hid hr9
 have HC9:=Lib.hid hcase
 clear h9 hend hr9 hcase H8
 (try clear t0)
 (try clear t1)
 (try clear t2)
 (try clear tl)
 obtain⟨_,hT_⟩:=has_mem3 H9.out (show Hp.blk tb (.cells #[.int .i64 r.S,.slice ha r.hood.length hc,.slice na r.nodes.length nc] 31 (0,0))∈_ from (by simp [memoL]))
 have t0:_=some _:=hEC hT_.blk 0
 have t1:_=some _:=hEC hT_.blk 1
 have t2:_=some _:=hEC hT_.blk 2
 have tl:=lBk hT_.blk
 clear hT_
 have hG8:2 ^ kk≤8:=Nat.le_trans (Nat.pow_le_pow_right (by omega) (show kk≤3 by omega)) (by decide)
 obtain⟨G,hG⟩:∃ G,2 ^ kk=G:=⟨_,rfl⟩
 rw [hG] at hG8
 have hsg:wrap64 ((2:Int) ^ kk)=(G:Int):=by
  have e1:((2:Int) ^ kk)=((2 ^ kk:Nat):Int):=by simp
  rw [e1,hG]
  unfold wrap64
  omega
 have HG:=Lib.hid hG
 have HRR:=Lib.hid (fun w' (hf:Fr [] w9 w')=>RRun_calls (H9.out.step hf) HQ.out.1 (RuleSrc.base HRU.out) (PatSrc.base HP.out) (B:=2*(h:Int)) (n:=G) (run_bound hh8.2 hG8) ⟨HQ.out.2.1,wi_of_in HHH.out.2 HIN.out.1,HQ.out.2.2.1⟩)
 clear hG
 go_wp2
 (refine wRT (by kernel_rfl) (by kernel_rfl) ?_)
 go_wp2_with fail
 rw [hsg]
 refine (HRR.out _ (by (repeat first|exact Fr.refl _ _|assumption|apply Fr.n|apply Fr.d|apply Fr.a|refine Fr.s ?_ (.inr (by simp;try omega)) _))).mono ?_
 rintro e w10 ⟨X,q,qa,qc,rfl,hHI,h10⟩
 have HHI:=Lib.hid hHI
 have H10:=Lib.hid h10
 clear h10 hHI HRR H9 hsg
 (try clear t0)
 (try clear t1)
 (try clear t2)
 (try clear tl)
 obtain⟨_,hT_⟩:=has_mem3 H10.out (show Hp.blk tb (.cells #[.int .i64 r.S,.slice ha r.hood.length hc,.slice na r.nodes.length nc] 31 (0,0))∈_ from (HHI.out.sub _ (by simp [memoL])))
 have t0:_=some _:=hEC hT_.blk 0
 have t1:_=some _:=hEC hT_.blk 1
 have t2:_=some _:=hEC hT_.blk 2
 have tl:=lBk hT_.blk
 clear hT_
 rcases HC9.out with rfl|⟨rfl,hle,hT9⟩
 ·clear HC9
  go_wp2
  refine Strict.intro rfl ?_
  go_wp2_with fail
  refine LAwake_calls.mono ?_
  rintro e w9 ⟨rfl,hf⟩
  have Hf9:=Lib.hid (H10.out.fr.trans0 (Fr.trans0 (by (repeat first|exact Fr.refl _ _|assumption|apply Fr.n|apply Fr.d|apply Fr.a|refine Fr.s ?_ (.inr (by simp;try omega)) _)) hf))
  clear hf
  go_wp2
  go_ret
  exact⟨rfl,by have:=Hf9.out;(repeat first|exact Fr.refl _ _|assumption|apply Fr.n|apply Fr.d|apply Fr.a|refine Fr.s ?_ (.inr (by simp;try omega)) _)⟩
 have hrows:=direct_rows hR (F:=fldP p) (G:=fldP q) (L:=lv) (k:=kk) HHH.out.1 (by omega) hle (by rw [HHI.out.fld,← HG.out])
 have h2h:2 ^ (lv - 1)=2*h:=by
  have e1:=HHH.out.1
  obtain⟨z,rfl⟩:∃ z,lv=z+2:=⟨lv - 2,by omega⟩
  rw [← e1,show z+2 - 1=z+1 by omega,show z+2 - 2=z by omega,Nat.pow_succ];omega
 obtain⟨XS,hXS⟩:=has_mem3 H10.out (P:=sTR sb r.S ns9) (HHI.out.sub _ (by simp [memoL]))
 have hLR:=fun w' (hf:Fr [] w10 w')=>LRows_calls (hXS.step hf) hT9 (by omega) (HR9.out.len)
 rw [hrows,h2h] at hLR
 obtain⟨m2,hm2⟩:∃ m,2*h=m:=⟨_,rfl⟩
 rw [hm2] at hLR
 have hm16:m2≤16:=by omega
 have HLR:=Lib.hid hLR
 have HM2:=Lib.hid hm2
 have HQS:=Lib.hid (fun w' Qs (hw:Has w w' Qs) (hs:∀ P∈X,P∈Qs) (x y:Int)=>RGet5_calls (HHI.out.src w' Qs hw hs) (Nat.le_trans (right_parts HHI.out.fit.right).1 (by omega)) x y)
 obtain⟨ql,hql⟩:∃ n,q.length=n:=⟨_,rfl⟩
 rw [hql] at HQS ⊢
 clear hrows h2h hXS hLR hT9 hle HC9 hql hm2
 have hm2':m2=2*h:=HM2.out.symm
 have hqu3:(4*(h:Int)).tdiv 2=(m2:Int):=by
  rw [Int.tdiv_eq_ediv_of_nonneg (by omega)]
  omega
 have hqu4:(4*(h:Int)).tdiv 4=(h:Int):=by
  rw [Int.tdiv_eq_ediv_of_nonneg (by omega)]
  omega
 clear hm2'
 go_wp2
 refine Strict.intro rfl ?_
 go_wp2_with fail
 refine (HLR.out _ (by (repeat first|exact Fr.refl _ _|assumption|apply Fr.n|apply Fr.d|apply Fr.a|refine Fr.s ?_ (.inr (by simp;try omega)) _))).mono ?_
 rintro e w11 ⟨ra,rc,rfl,hg11,hf11⟩
 have H11:=Lib.hid (H10.out.step (Fr.trans0 (by (repeat first|exact Fr.refl _ _|assumption|apply Fr.n|apply Fr.d|apply Fr.a|refine Fr.s ?_ (.inr (by simp;try omega)) _)) hf11))
 have HRW:=Lib.hid hg11.rows
 clear hg11 hf11 HLR H10 t0 t1 t2 tl
 go_wp2
 go_loopg [146] m2 (fun gg z wr=>∃ j:Nat,j≤m2∧m2 - j≤gg∧z=.int .i64 (j:Int)∧Hid (Fr [] w11 wr))
 case atStart=>exact⟨0,Nat.zero_le _,by omega,rfl,Lib.hid (by (repeat first|exact Fr.refl _ _|assumption|apply Fr.n|apply Fr.d|apply Fr.a|refine Fr.s ?_ (.inr (by simp;try omega)) _))⟩
 case round =>
  obtain⟨j,hj,hg,rfl,HF⟩:=hrel
  by_cases hjm:j<m2
  ·have hgr:=gridL_get (F:=fldP q) (ox:=-(h:Int)) (oy:=-(h:Int)) hjm
   have hrl:=rowL_length m2 (fldP q) (-(h:Int)) (-(h:Int)+j)
   obtain⟨g,off,ra2,rc2,rfl,hgl,hc2,hia⟩:=RowsAt.row (HRW.out.fr HF.out) hgr
   rw [hrl] at hc2 hia
   have HIA:=Lib.hid hia
   clear hgr hrl hia
   go_wp2
   go_loopg [154] m2 (fun gg z wr2=>∃ i:Nat,i≤m2∧m2 - i≤gg∧z=.int .i64 (i:Int)∧Hid (Fr [] wr wr2))
   case atStart=>exact⟨0,Nat.zero_le _,by omega,rfl,Lib.hid (by (repeat first|exact Fr.refl _ _|assumption|apply Fr.n|apply Fr.d|apply Fr.a|refine Fr.s ?_ (.inr (by simp;try omega)) _))⟩
   case round =>
    obtain⟨i,hi,hgi,rfl,HF2⟩:=hrel
    clear hgl hc2
    by_cases him:i<m2
    ·have hgr:=gridL_get (F:=fldP q) (ox:=-(h:Int)) (oy:=-(h:Int)) hjm
     have hrl:=rowL_length m2 (fldP q) (-(h:Int)) (-(h:Int)+j)
     have hff:=HF.out.trans0 HF2.out
     obtain⟨g',off',ra',rc',hge,hgl,hc2,hia⟩:=RowsAt.row (HRW.out.fr hff) hgr
     cases hge
     rw [hrl] at hc2 hia
     have hrg:=rowL_get (F:=fldP q) (ox:=-(h:Int)) (y:=-(h:Int)+j) him
     obtain⟨g5,off5,rfl,hgl5,hc5⟩:=IntsAt.cell hia hrg
     have hval:fldP q (-(h:Int)+i) (-(h:Int)+j)=fldP q ((i:Int) - h) ((j:Int) - h):=by
      rw [show -(h:Int)+i=(i:Int) - h by omega,show -(h:Int)+j=(j:Int) - h by omega]
     rw [hval] at hc5
     obtain⟨z,hz⟩:∃ z,fldP q ((i:Int) - h) ((j:Int) - h)=z:=⟨_,rfl⟩
     rw [hz] at hc5
     have HQ2:=Lib.hid (fun w' (hf:Fr [] _ w')=>(hz▸HQS.out w' X (H11.out.step (hff.trans0 hf)) (fun P hP=>hP) ((i:Int) - h) ((j:Int) - h):Calls Try.prog 34 #[.slice qa ql qc,.int .i64 ((i:Int) - h),.int .i64 ((j:Int) - h)] w' fun e w2=>e=.returned (.int .i64 z)∧Fr [] w' w2))
     have HF3:=Lib.hid hff
     have hzz:(z != z)=false:=by simp
     clear hgr hrl hia hrg hval hz hff
     go_wp2
     refine wRS [([0,1,2,3,4,5,6,7,8,9,10,11,12,13,14,15,16],[3,6]),([17],[])] (by kernel_rfl) (by kernel_rfl) ?_
     (simp only [wpSegs,pick,Array.getD_eq_getD_getElem?,List.getElem?_toArray,List.getElem?_cons_succ,List.getElem?_cons_zero,Option.getD_some])
     go_wp2_with fail
     refine (HQ2.out _ (by (repeat first|exact Fr.refl _ _|assumption|apply Fr.n|apply Fr.d|apply Fr.a|refine Fr.s ?_ (.inr (by simp;try omega)) _))).mono ?_
     rintro e w13 ⟨rfl,hf13⟩
     have hfx:Fr [] wr w13:=Fr.trans0 (by (repeat first|exact Fr.refl _ _|assumption|apply Fr.n|apply Fr.d|apply Fr.a|refine Fr.s ?_ (.inr (by simp;try omega)) _)) hf13
     have hc9:=(World.cell?_of_block (w:=wr) (a:=⟨g,off+j,none⟩) (hfx.block g hgl (by simp))).trans hc2
     have hc8:=(World.cell?_of_block (w:=wr) (a:=⟨g5,off5+i,none⟩) (hfx.block g5 hgl5 (by simp))).trans hc5
     have HFX:=Lib.hid hfx
     clear HQ2 hgl hc2 hgl5 hc5 hfx
     go_wp2
     refine Mid.intro ⟨⟨again_cell (T:=71) rfl rfl rfl Try.underlying71 rfl hc9 rfl,again_cell (T:=3) rfl rfl rfl Try.underlying3 rfl hc8 rfl,trivial⟩,?_⟩
     clear hc8 hc9
     go_wp2
     refine Mid.intro ⟨trivial,Strict.intro rfl ?_⟩
     go_wp2
     go_roundg (m2 - (i+1))
     case measure=>exact Nat.lt_of_lt_of_le (Nat.sub_succ_lt_self _ _ him) hgi
     case rel=>exact⟨i+1,him,Nat.le_refl _,by simp,Lib.hid (HF2.out.trans0 (HFX.out.trans0 (by (repeat first|exact Fr.refl _ _|assumption|apply Fr.n|apply Fr.d|apply Fr.a|refine Fr.s ?_ (.inr (by simp;try omega)) _))))⟩
    ·obtain rfl:m2=i:=by omega
     go_wp2
     go_roundg (m2 - (j+1))
     case measure=>exact Nat.lt_of_lt_of_le (Nat.sub_succ_lt_self _ _ hjm) hg
     case rel=>exact⟨j+1,hjm,Nat.le_refl _,by simp,Lib.hid (HF.out.trans0 (HF2.out.trans0 (by (repeat first|exact Fr.refl _ _|assumption|apply Fr.n|apply Fr.d|apply Fr.a|refine Fr.s ?_ (.inr (by simp;try omega)) _))))⟩
  ·obtain rfl:m2=j:=by omega
   go_wp2_with fail
   refine LAwake_calls.mono ?_
   rintro e w9 ⟨rfl,hf⟩
   have Hf9:=Lib.hid ((H11.out.fr.trans0 HF.out).trans0 (Fr.trans0 (by (repeat first|exact Fr.refl _ _|assumption|apply Fr.n|apply Fr.d|apply Fr.a|refine Fr.s ?_ (.inr (by simp;try omega)) _)) hf))
   clear hf
   go_wp2
   go_ret
   exact⟨rfl,by have:=Hf9.out;(repeat first|exact Fr.refl _ _|assumption|apply Fr.n|apply Fr.d|apply Fr.a|refine Fr.s ?_ (.inr (by simp;try omega)) _)⟩
end Go.Proofs.Ytppmnmheodimoaa
end
section
namespace Go.Proofs.Lw
open Go Go.ChangeShapes Go.WideShapes Go.ChangeAt Go.RowKit Hp
theorem args_stay {H:Type} {enc:TypeId×Value→H} {P:Program} (hl:laidOutB P=true) {W W':World} (hb:Below W.heap.size W W') :
  ∀ {ts:List TypeId} {vs:List Value} {ds:List (DataW H)} {ps:List MemPlace},ts.all (fun t=>P.readableRec t && decide (t<P.types.size))=true→DataW.TrodAll enc P W 0 (fun _=>true) true ts vs ds ps →
   (∀ x∈ps,x.block<W.heap.size)→DataW.TrodAll enc P W' 0 (fun b=>decide (b<W.heap.size)) true ts vs ds ps:=by
 intro ts
 induction ts with
 | nil=>intro vs ds ps _ h _;obtain⟨rfl,rfl,rfl⟩:=trodAll_nil h;exact trodAll_mk0
 | cons t ts ih =>
  intro vs ds ps hok h hlt
  obtain⟨v,vs1,d,ds1,p,q,rfl,rfl,rfl,h1,h2⟩:=trodAll_cons h
  simp only [List.all_cons,Bool.and_eq_true,decide_eq_true_eq] at hok
  exact trodAll_cons_mk (Below.trod hl hok.1.1 hok.1.2 h1 hb fun x hx=>hlt x (List.mem_append_left _ hx)) (ih (by simpa only [List.all_eq_true,Bool.and_eq_true,decide_eq_true_eq] using hok.2) h2 fun x hx=>hlt x (List.mem_append_right _ hx))
theorem law_post {H:Type} {enc:TypeId×Value→H} {P:Program} (hl:laidOutB P=true) {f:Func} {s:ChangeSpec} {ts:List TypeId} {tb:TypeId} (hf:f.params.toList=ts) (hr:f.resultTypes=#[tb])
  (hb:P.underlying tb=some .bool) (hv:s.vars=[]) (hok:ts.all (fun t=>P.readableRec t && decide (t<P.types.size))=true)
  (hfn:∀ ds:List (DataW H),ds.length=ts.length→s.fn H ds={ results:=[.lit (.bool true)],args:=ds }) {W W':World} {args:Array Value} {ds gs:List (DataW H)} {before:List MemPlace}
  (hW:DataW.Whole enc P f.params.toList s.vars false W args.toList ds gs before) (hB:Fr [] W W'):s.post enc P f false true false false W args (.bool true) W':=by
 have hW':=hW
 obtain⟨p,q,hA,hV,rfl,hfz,hnd⟩:=hW
 rw [hf] at hA
 rw [hv] at hV
 obtain⟨rfl,rfl⟩:=trodVars_none hV
 have hlen:∀ {ts:List TypeId} {vs:List Value} {ds:List (DataW H)} {ps:List MemPlace},DataW.TrodAll enc P W 0 (fun _=>true) true ts vs ds ps→ds.length=ts.length:=by
  intro ts
  induction ts with
  | nil=>intro vs ds ps h;obtain⟨rfl,rfl,rfl⟩:=trodAll_nil h;rfl
  | cons t ts ih=>intro vs ds ps h;obtain⟨v,vs1,d,ds1,p,q,rfl,rfl,rfl,h1,h2⟩:=trodAll_cons h;simp [ih h2]
 have e:=hfn (ds++[]) (by simpa using hlen hA)
 refine⟨ds,[],p++[],[],p,[],hW',?_,?_,?_,hB.below.frame _ |> World.keptBut_mono (w:=W) (w':=W') (fun x hx=>hx),fun h=>by cases h⟩
 ·rw [e,hr]
  exact trodAll_mk1 (shut_bool hb true)
 ·rw [e,hf,List.append_nil]
  exact args_stay hl hB.below hok hA fun x hx=>by simpa using hW'.lt x (by simpa using hx)
 ·rw [e,hv]
  exact rfl
theorem open_rows {H:Type} {enc:TypeId×Value→H} {P:Program} {W:World} {t e:TypeId} {sz fuel n c:Nat} {a:Option Addr} {x:DataW H×List MemPlace} (ht:P.underlying t=some (.slice e)) (hsz:P.cellsOf e=sz) (hpos:0<sz)
  (h:DataW.trod enc P W 0 (fun _=>true) true fuel t [.slice a n c]=some x) :
  n≤c∧c≤maxLen∧∃ xs:List (List Value),xs.length=n∧(∀ cs'∈xs,cs'.length=sz∧∃ fuel y,DataW.trod enc P W 0 (fun _=>true) true fuel e cs'=some y) ∧
   (a=none→n=0∧c=0)∧(0<n→∃ g off,a=some ⟨g,off,none⟩∧g<W.heap.size∧∀ j u,xs.flatten[j]?=some u→W.cell? ⟨g,off+j,none⟩=some u):=by
 rcases Go.Deep.open_slice ht h with ⟨h0,_⟩|⟨ad,len,cap,m,k,D,Pl,hcs,_,hlc,hcm,hm,_,hx⟩
 ·simp only [List.cons.injEq,Value.slice.injEq,and_true] at h0
  obtain⟨rfl,rfl,rfl⟩:=h0
  exact⟨Nat.le_refl _,Nat.zero_le _,[],rfl,by simp,by simp,by omega⟩
 ·simp only [List.cons.injEq,Value.slice.injEq,and_true] at hcs
  obtain⟨rfl,rfl,rfl⟩:=hcs
  simp only [if_true] at hm
  subst hm
  rw [hsz] at hx
  obtain⟨C,hC⟩:=Go.Deep.choose_lt (α:=List Value) (n:=m) (p:=fun i cs'=>W.cells? 0 (ad.add (i*sz)) sz=some cs'∧DataW.trod enc P W 0 (fun _=>true) true k e cs'=some (D i,Pl i)) hx
  have hlen:∀ i,i<n→(C i).length=sz:=fun i hi=>(World.cells?_some (hC i (by omega)).1).2.1
  refine⟨hlc,hcm,(List.range n).map C,by simp,?_,by simp,?_⟩
  ·intro cs' hm'
   obtain⟨i,hi,rfl⟩:=List.mem_map.1 hm'
   have hi':=List.mem_range.1 hi
   exact⟨hlen i hi',k,_,(hC i (by omega)).2⟩
  ·intro hn
   have h0:=(hC 0 (by omega)).1
   have hblock:=World.cells?_block h0 hpos
   obtain⟨g,off,spot⟩:=ad
   have hsp:spot=none:=by
    have hl0:=(World.cells?_some h0).2.1
    have hc0:=(World.cells?_some h0).2.2 0 (by omega)
    rw [List.getElem?_eq_getElem (by omega)] at hc0
    simpa [Addr.add] using World.cell?_spot hc0
   subst hsp
   refine⟨g,off,rfl,by simpa [Addr.add] using hblock,?_⟩
   have key:∀ k,k≤n→∀ j u,((List.range k).map C).flatten[j]?=some u→W.cell? ⟨g,off+j,none⟩=some u:=by
    intro k
    induction k with
    | zero=>intro _ j u hj;simp at hj
    | succ k ih =>
     intro hk j u hj
     have hfl:∀ q,q≤n→((List.range q).map C).flatten.length=q*sz:=by
      intro q
      induction q with
      | zero=>intro _;simp
      | succ q iq=>intro hq;rw [List.range_succ,List.map_append,List.flatten_append,List.length_append,iq (by omega)];simp [hlen q (by omega),Nat.succ_mul]
     rw [List.range_succ,List.map_append,List.flatten_append] at hj
     rcases Nat.lt_or_ge j (k*sz) with h1|h1
     ·rw [List.getElem?_append_left (by rw [hfl k (by omega)];exact h1)] at hj
      exact ih (by omega) j u hj
     ·rw [List.getElem?_append_right (by rw [hfl k (by omega)];exact h1),hfl k (by omega)] at hj
      simp only [List.map_cons,List.map_nil,List.flatten_cons,List.flatten_nil,List.append_nil] at hj
      have hjl:=(List.getElem?_eq_some_iff.1 hj).1
      rw [hlen k (by omega)] at hjl
      have:=(World.cells?_some (hC k (by omega)).1).2.2 (j - k*sz) (by omega)
      rw [hj,add_plain,add_plain] at this
      rw [show off+j=off+k*sz+(j - k*sz) by omega]
      exact this
   exact key n (Nat.le_refl _)
theorem map_of_all {α β:Type} {f:β→α}:∀ {xs:List α},(∀ x∈xs,∃ k,x=f k)→∃ ks:List β,xs=ks.map f
 | [],_=>⟨[],rfl⟩
 | x::xs,h=>by
  obtain⟨k,rfl⟩:=h x (by simp)
  obtain⟨ks,rfl⟩:=map_of_all (xs:=xs) fun y hy=>h y (by simp [hy])
  exact⟨k::ks,rfl⟩
end Go.Proofs.Lw
end
section
namespace Go.Proofs.Ytppmnmheodimoaa
open Go Go.ChangeShapes Go.WideShapes Go.RowKit Hp Lw Ev
def i64 (n:Int):Prop:=-9223372036854775808≤n∧n≤9223372036854775807
theorem i64_of {n:Int} (h:(Lit.int .i64 n).wf=true):i64 n:=by
 unfold i64
 simpa [Lit.wf,IntKind.min,IntKind.max,IntKind.signed,IntKind.bits] using h
set_option maxRecDepth 100000 in
theorem open_point {H:Type} {enc:TypeId×Value→H} {W:World} {fuel:Nat} {cs:List Value} {x:DataW H×List MemPlace} (h:DataW.trod enc Try.prog W 0 (fun _=>true) true fuel 87 cs=some x) :
  ∃ p:Int×Int,cs=[.int .i64 p.1,.int .i64 p.2]∧i64 p.1∧i64 p.2:=by
 obtain⟨xs,n,rfl,rfl,hl,hn,hf⟩:=DataW.trod_struct Try.underlying87 h
 have hl2:cs.length=2:=hl.trans (by kernel_rfl)
 have hx2:xs.length=2:=hn
 have hc1:Try.prog.cellsOf 3=1:=by kernel_rfl
 have h0:=hf 0 _ rfl
 have h1:=hf 1 _ rfl
 rw [List.getElem?_eq_getElem (by omega)] at h0 h1
 change DataW.trod enc Try.prog W 0 (fun _=>true) true n 3 ((cs.drop 0).take (Try.prog.cellsOf 3))=some _ at h0
 change DataW.trod enc Try.prog W 0 (fun _=>true) true n 3 ((cs.drop 1).take (Try.prog.cellsOf 3))=some _ at h1
 rw [hc1] at h0 h1
 obtain⟨a,ha,_,wa⟩:=DataW.trod_int Try.underlying3 h0
 obtain⟨b,hb,_,wb⟩:=DataW.trod_int Try.underlying3 h1
 match cs,hl2 with
 | [c0,c1],_ =>
  simp at ha hb
  exact⟨(a,b),by rw [ha,hb],i64_of wa,i64_of wb⟩
theorem flat_pts (l:List (Int×Int)):(l.map fun p:Int×Int=>[Value.int .i64 p.1,.int .i64 p.2]).flatten=pts l:=by rw [pts,List.flatMap_def]
theorem open_points {H:Type} {enc:TypeId×Value→H} {W:World} {fuel n c:Nat} {a:Option Addr} {x:DataW H×List MemPlace} (h:DataW.trod enc Try.prog W 0 (fun _=>true) true fuel 28 [.slice a n c]=some x) :
  ∃ l:List (Int×Int),l.length=n∧PtsAt W (.slice a l.length c) l∧(∀ p∈l,i64 p.1∧i64 p.2)∧(a=none→c=0)∧n≤c:=by
 obtain⟨hlc,_,xs,hxl,hxs,hnil,hcell⟩:=open_rows Try.underlying28 (sz:=2) (by kernel_rfl) (by omega) h
 obtain⟨l,rfl,hb⟩:∃ l:List (Int×Int),xs=l.map (fun p:Int×Int=>[Value.int .i64 p.1,.int .i64 p.2])∧∀ p∈l,i64 p.1∧i64 p.2:=by
  have key:∀ ys:List (List Value),(∀ y∈ys,y∈xs)→∃ l:List (Int×Int),ys=l.map (fun p:Int×Int=>[Value.int .i64 p.1,.int .i64 p.2])∧∀ p∈l,i64 p.1∧i64 p.2:=by
   intro ys
   induction ys with
   | nil=>intro _;exact⟨[],rfl,by simp⟩
   | cons y ys ih =>
    intro hy
    obtain⟨l,rfl,hl⟩:=ih fun z hz=>hy z (by simp [hz])
    obtain⟨_,fuel,q,hq⟩:=hxs y (hy y (by simp))
    obtain⟨p,rfl,h1,h2⟩:=open_point hq
    refine⟨p::l,rfl,fun z hz=>?_⟩
    rw [List.mem_cons] at hz
    rcases hz with rfl|hz
    ·exact⟨h1,h2⟩
    ·exact hl z hz
  exact key xs fun _ h=>h
 have hn:l.length=n:=by simpa using hxl
 subst hn
 rw [flat_pts] at hcell
 exact⟨l,rfl,⟨pts_length l,a,c,rfl,hcell⟩,hb,fun h=>(hnil h).2,hlc⟩
theorem open_ints1 {H:Type} {enc:TypeId×Value→H} {W:World} {fuel:Nat} {v:Value} {x:DataW H×List MemPlace} (h:DataW.trod enc Try.prog W 0 (fun _=>true) true fuel 71 [v]=some x) :
  ∃ (a:Option Addr) (c:Nat) (l:List Int),v=.slice a l.length c∧IntsAt W (.slice a l.length c) l∧(∀ n∈l,i64 n)∧(a=none→c=0)∧l.length≤c:=by
 have hform:∃ a n c,v=.slice a n c:=by
  rcases DataW.trod_slice Try.underlying71 h with ⟨h,_⟩|⟨a,len,cap,_,_,_,_,h,_⟩
  ·simp only [List.cons.injEq,and_true] at h;exact⟨_,_,_,h⟩
  ·simp only [List.cons.injEq,and_true] at h;exact⟨_,_,_,h⟩
 obtain⟨a,n,c,rfl⟩:=hform
 obtain⟨hlc,_,xs,hxl,hxs,hnil,hcell⟩:=open_rows Try.underlying71 (sz:=1) (by kernel_rfl) (by omega) h
 obtain⟨l,rfl,hb⟩:∃ l:List Int,xs=l.map (fun n:Int=>[Value.int .i64 n])∧∀ n∈l,i64 n:=by
  have key:∀ ys:List (List Value),(∀ y∈ys,y∈xs)→∃ l:List Int,ys=l.map (fun n:Int=>[Value.int .i64 n])∧∀ n∈l,i64 n:=by
   intro ys
   induction ys with
   | nil=>intro _;exact⟨[],rfl,by simp⟩
   | cons y ys ih =>
    intro hy
    obtain⟨l,rfl,hl⟩:=ih fun z hz=>hy z (by simp [hz])
    obtain⟨_,fuel,q,hq⟩:=hxs y (hy y (by simp))
    obtain⟨z,rfl,_,hw⟩:=DataW.trod_int Try.underlying3 hq
    refine⟨z::l,rfl,fun u hu=>?_⟩
    rw [List.mem_cons] at hu
    rcases hu with rfl|hu
    ·exact i64_of hw
    ·exact hl u hu
  exact key xs fun _ h=>h
 have hn:l.length=n:=by simpa using hxl
 subst hn
 have e:∀ l:List Int,(l.map fun x:Int=>[Value.int .i64 x]).flatten=iv l:=fun l=>by
  induction l with
  | nil=>rfl
  | cons x l ih=>rw [List.map_cons,List.flatten_cons,ih];rfl
 rw [e] at hcell
 exact⟨a,c,l,rfl,⟨by simp [iv],a,c,rfl,hcell⟩,hb,fun h=>(hnil h).2,hlc⟩
set_option maxRecDepth 100000 in
theorem open_node {H:Type} {enc:TypeId×Value→H} {W:World} {fuel:Nat} {cs:List Value} {x:DataW H×List MemPlace} (h:DataW.trod enc Try.prog W 0 (fun _=>true) true fuel 91 cs=some x) :
  ∃ (p:Int×List Int) (u:Value),cs=[.int .i64 p.1,u]∧IntsAt W u p.2∧i64 p.1∧∀ n∈p.2,i64 n:=by
 obtain⟨xs,n,rfl,rfl,hl,hn,hf⟩:=DataW.trod_struct Try.underlying91 h
 have hl2:cs.length=2:=hl.trans (by kernel_rfl)
 have hx2:xs.length=2:=hn
 have hc1:Try.prog.cellsOf 3=1:=by kernel_rfl
 have hc2:Try.prog.cellsOf 71=1:=by kernel_rfl
 have h0:=hf 0 _ rfl
 have h1:=hf 1 _ rfl
 rw [List.getElem?_eq_getElem (by omega)] at h0 h1
 change DataW.trod enc Try.prog W 0 (fun _=>true) true n 3 ((cs.drop 0).take (Try.prog.cellsOf 3))=some _ at h0
 change DataW.trod enc Try.prog W 0 (fun _=>true) true n 71 ((cs.drop 1).take (Try.prog.cellsOf 71))=some _ at h1
 rw [hc1] at h0
 rw [hc2] at h1
 obtain⟨a,ha,_,wa⟩:=DataW.trod_int Try.underlying3 h0
 match cs,hl2 with
 | [c0,c1],_ =>
  simp at ha
  simp only [List.drop_succ_cons,List.drop_zero,List.take_succ_cons,List.take_zero] at h1
  obtain⟨b,c,l,rfl,hr,hb,_,_⟩:=open_ints1 h1
  exact⟨(a,l),_,by rw [ha],hr,i64_of wa,hb⟩
theorem flat_nodes:∀ (l:List (Int×List Int)) (vs:List Value),l.length=vs.length→((l.zip vs).map fun p:(Int×List Int)×Value=>[Value.int .i64 p.1.1,p.2]).flatten=ncells l vs:=fun l vs _=>by rw [ncells,List.flatMap_def]
theorem open_nodes {H:Type} {enc:TypeId×Value→H} {W:World} {fuel n c:Nat} {a:Option Addr} {x:DataW H×List MemPlace} (h:DataW.trod enc Try.prog W 0 (fun _=>true) true fuel 29 [.slice a n c]=some x) :
  ∃ l:List (Int×List Int),l.length=n∧NodesAt W (.slice a l.length c) l∧(∀ p∈l,i64 p.1∧∀ n∈p.2,i64 n)∧(a=none→c=0):=by
 obtain⟨hlc,_,xs,hxl,hxs,hnil,hcell⟩:=open_rows Try.underlying29 (sz:=2) (by kernel_rfl) (by omega) h
 obtain⟨l,vs,hlen,rfl,hr,hb⟩:∃ (l:List (Int×List Int)) (vs:List Value),l.length=vs.length∧xs=(l.zip vs).map (fun p:(Int×List Int)×Value=>[Value.int .i64 p.1.1,p.2])∧(∀ (i:Nat) (x:Int×List Int),l[i]?=some x→∃ u,vs[i]?=some u∧IntsAt W u x.2)∧∀ p∈l,i64 p.1∧∀ n∈p.2,i64 n:=by
  have key:∀ ys:List (List Value),(∀ y∈ys,y∈xs)→∃ (l:List (Int×List Int)) (vs:List Value),l.length=vs.length∧ys=(l.zip vs).map (fun p:(Int×List Int)×Value=>[Value.int .i64 p.1.1,p.2])∧(∀ (i:Nat) (x:Int×List Int),l[i]?=some x→∃ u,vs[i]?=some u∧IntsAt W u x.2)∧∀ p∈l,i64 p.1∧∀ n∈p.2,i64 n:=by
   intro ys
   induction ys with
   | nil=>intro _;exact⟨[],[],rfl,rfl,by simp,by simp⟩
   | cons y ys ih =>
    intro hy
    obtain⟨l,vs,hlen,rfl,hr,hl⟩:=ih fun z hz=>hy z (by simp [hz])
    obtain⟨_,fuel,q,hq⟩:=hxs y (hy y (by simp))
    obtain⟨p,u,rfl,h1,h2,h3⟩:=open_node hq
    refine⟨p::l,u::vs,by simp [hlen],by simp,fun i x hi=>?_,fun z hz=>?_⟩
    ·cases i with
     | zero =>
      simp at hi
      subst hi
      exact⟨u,by simp,h1⟩
     | succ i =>
      obtain⟨u',hu',hr'⟩:=hr i x (by simpa using hi)
      exact⟨u',by simpa using hu',hr'⟩
    ·rw [List.mem_cons] at hz
     rcases hz with rfl|hz
     ·exact⟨h2,h3⟩
     ·exact hl z hz
  exact key xs fun _ h=>h
 have hn:l.length=n:=by
  rw [← hxl,List.length_map,List.length_zip]
  omega
 subst hn
 rw [flat_nodes l vs hlen] at hcell
 refine⟨l,rfl,⟨vs,⟨?_,a,c,rfl,hcell⟩,hr⟩,hb,fun h=>(hnil h).2⟩
 rw [← flat_nodes l vs hlen]
 have:∀ ps:List ((Int×List Int)×Value),((ps.map fun p=>[Value.int .i64 p.1.1,p.2]).flatten).length=ps.length*2:=by
  intro ps
  induction ps with
  | nil=>rfl
  | cons p ps ih=>simp only [List.map_cons,List.flatten_cons,List.length_append,List.length_cons,List.length_nil,ih];omega
 rw [this,List.length_zip]
 omega
set_option maxRecDepth 100000 in
theorem open_tree {H:Type} {enc:TypeId×Value→H} {W:World} {base:Nat} {v:Value} {d:DataW H} {ps:List MemPlace} (hval:Value.okWide Try.prog W .any base 31 v)
  (h:DataW.Trod enc Try.prog W 0 (fun _=>true) true 31 v d ps) :
  ∃ (r:Rule) (ha na:Option Addr) (hc nc:Nat),v=.agg #[.int .i64 r.S,.slice ha r.hood.length hc,.slice na r.nodes.length nc]∧RuleAt W (.slice ha r.hood.length hc) (.slice na r.nodes.length nc) r∧i64 r.S∧(∀ p∈r.hood,i64 p.1∧i64 p.2)∧(∀ p∈r.nodes,i64 p.1∧∀ n∈p.2,i64 n):=by
 obtain⟨cs,rfl,hsz⟩:=okWide_struct Try.underlying31 hval
 have hs3:cs.size=3:=hsz.trans (by kernel_rfl)
 obtain⟨fuel,hf⟩:=h
 obtain⟨xs,n,rfl,_,_,hn,hf⟩:=DataW.trod_struct Try.underlying31 hf
 obtain⟨c0,c1,c2,rfl⟩:∃ c0 c1 c2,cs=#[c0,c1,c2]:=⟨cs[0],cs[1],cs[2],by apply Array.ext<;>simp [hs3];intro i hi;match i,hi with|0,_=>intro _;rfl|1,_=>intro _;rfl|2,_=>intro _;rfl⟩
 have e1:Try.prog.cellsOf 3=1:=by kernel_rfl
 have e2:Try.prog.cellsOf 28=1:=by kernel_rfl
 have e3:Try.prog.cellsOf 29=1:=by kernel_rfl
 have hx3:xs.length=3:=hn
 have h0:=hf 0 _ rfl
 have h1:=hf 1 _ rfl
 have h2:=hf 2 _ rfl
 rw [List.getElem?_eq_getElem (by omega)] at h0 h1 h2
 change DataW.trod enc Try.prog W 0 (fun _=>true) true n 3 (([c0,c1,c2].drop 0).take (Try.prog.cellsOf 3))=some _ at h0
 change DataW.trod enc Try.prog W 0 (fun _=>true) true n 28 (([c0,c1,c2].drop 1).take (Try.prog.cellsOf 28))=some _ at h1
 change DataW.trod enc Try.prog W 0 (fun _=>true) true n 29 (([c0,c1,c2].drop 2).take (Try.prog.cellsOf 29))=some _ at h2
 rw [e1] at h0
 rw [e2] at h1
 rw [e3] at h2
 simp only [List.drop_zero,List.drop_succ_cons,List.take_succ_cons,List.take_zero] at h0 h1 h2
 obtain⟨s,hs,_,ws⟩:=DataW.trod_int Try.underlying3 h0
 simp only [List.cons.injEq,and_true] at hs
 subst hs
 have hf1:∃ a n c,c1=.slice a n c:=by
  rcases DataW.trod_slice Try.underlying28 h1 with ⟨h,_⟩|⟨a,len,cap,_,_,_,_,h,_⟩
  ·simp only [List.cons.injEq,and_true] at h;exact⟨_,_,_,h⟩
  ·simp only [List.cons.injEq,and_true] at h;exact⟨_,_,_,h⟩
 have hf2:∃ a n c,c2=.slice a n c:=by
  rcases DataW.trod_slice Try.underlying29 h2 with ⟨h,_⟩|⟨a,len,cap,_,_,_,_,h,_⟩
  ·simp only [List.cons.injEq,and_true] at h;exact⟨_,_,_,h⟩
  ·simp only [List.cons.injEq,and_true] at h;exact⟨_,_,_,h⟩
 obtain⟨a1,n1,k1,rfl⟩:=hf1
 obtain⟨a2,n2,k2,rfl⟩:=hf2
 obtain⟨hood,rfl,hp,hb1,_,_⟩:=open_points h1
 obtain⟨nodes,rfl,hq,hb2,_⟩:=open_nodes h2
 exact⟨⟨s,hood,nodes⟩,a1,a2,k1,k2,rfl,⟨hp,hq⟩,i64_of ws,hb1,hb2⟩
end Go.Proofs.Ytppmnmheodimoaa
end
section
namespace Go.Proofs.Ytppmnmheodimoaa
open Go Go.ChangeShapes Go.WideShapes Go.ChangeAt Go.RowKit Hp Lw Qs Bn Pt
set_option maxRecDepth 100000
theorem open_cell3 {H:Type} {enc:TypeId×Value→H} {W:World} {fuel:Nat} {cs:List Value} {x:DataW H×List MemPlace} (h:DataW.trod enc Try.prog W 0 (fun _=>true) true fuel 110 cs=some x) :
  ∃ k:PC,cs=[.int .i64 k.x,.int .i64 k.y,.int .i64 k.st]:=by
 obtain⟨xs,n,rfl,rfl,hl,hn,hf⟩:=DataW.trod_struct Try.underlying110 h
 have hl3:cs.length=3:=hl.trans (by kernel_rfl)
 have hx3:xs.length=3:=hn
 have k1:Try.prog.cellsOf 3=1:=by kernel_rfl
 match cs,hl3 with
 | [c0,c1,c2],_ =>
  have h0:=hf 0 _ rfl
  have h1:=hf 1 _ rfl
  have h2:=hf 2 _ rfl
  rw [List.getElem?_eq_getElem (by omega)] at h0 h1 h2
  change DataW.trod enc Try.prog W 0 (fun _=>true) true n 3 (([c0,c1,c2].drop 0).take (Try.prog.cellsOf 3))=some _ at h0
  change DataW.trod enc Try.prog W 0 (fun _=>true) true n 3 (([c0,c1,c2].drop 1).take (Try.prog.cellsOf 3))=some _ at h1
  change DataW.trod enc Try.prog W 0 (fun _=>true) true n 3 (([c0,c1,c2].drop 2).take (Try.prog.cellsOf 3))=some _ at h2
  rw [k1] at h0 h1 h2
  simp only [List.drop_zero,List.drop_succ_cons,List.take_succ_cons,List.take_zero] at h0 h1 h2
  obtain⟨a,ha,_⟩:=DataW.trod_int Try.underlying3 h0
  obtain⟨b,hb,_⟩:=DataW.trod_int Try.underlying3 h1
  obtain⟨c,hc,_⟩:=DataW.trod_int Try.underlying3 h2
  simp only [List.cons.injEq,and_true] at ha hb hc
  exact⟨⟨a,b,c⟩,by rw [ha,hb,hc]⟩
theorem flat_pcs (l:List PC):(l.map fun k:PC=>[Value.int .i64 k.x,.int .i64 k.y,.int .i64 k.st]).flatten=pcs l:=by
 rw [pcs,List.flatMap_def]
theorem pcs_length (l:List PC):(pcs l).length=l.length*3:=by
 induction l with
 | nil=>rfl
 | cons c l ih=>rw [pcs,List.flatMap_cons,List.length_append,← pcs,ih];simp;omega
theorem open_pattern {H:Type} {enc:TypeId×Value→H} {W:World} {base:Nat} {v:Value} {d:DataW H} {ps:List MemPlace} (hval:Value.okWide Try.prog W .any base 61 v)
  (h:DataW.Trod enc Try.prog W 0 (fun _=>true) true 61 v d ps) :
  ∃ a c p,v=.slice a (List.length p) c∧CellsAtY W (.slice a p.length c) p:=by
 obtain⟨fuel,hf⟩:=h
 have hform:∃ a n c,v=.slice a n c:=okWide_slice Try.underlying61 hval
 obtain⟨a,len,c,rfl⟩:=hform
 obtain⟨_,_,xs,hxl,hxs,_,hcell⟩:=open_rows Try.underlying61 (sz:=3) (by kernel_rfl) (by omega) hf
 obtain⟨p,rfl⟩:=map_of_all (f:=fun k:PC=>[Value.int .i64 k.x,.int .i64 k.y,.int .i64 k.st]) fun x hx=>by
  obtain⟨_,fuel,y,hy⟩:=hxs x hx
  exact open_cell3 hy
 obtain rfl:p.length=len:=by simpa using hxl
 rw [flat_pcs] at hcell
 exact⟨a,c,p,rfl,pcs_length p,a,c,rfl,hcell⟩
end Go.Proofs.Ytppmnmheodimoaa
end
section
namespace Go.Proofs.Ytppmnmheodimoaa
open Go Go.ChangeShapes Go.WideShapes Go.RowKit Hp Lw
theorem okWide_arr' {P:Program} {w:World} {r:Reach} {base:Nat} {t e:TypeId} {n:Nat} {v:Value} (ht:P.underlying t=some (.array n e)) (h:Value.okWide P w r base t v):∃ cs,v=.agg cs∧cs.size=P.cellsOf t:=by
 simp only [Value.okWide,ht] at h
 obtain⟨cs,h1,h2,_⟩:=h
 exact⟨cs,h1,h2⟩
end Go.Proofs.Ytppmnmheodimoaa
end
section
namespace Go.Proofs.Ytppmnmheodimoaa
open Go Go.ChangeShapes Go.WideShapes Go.RowKit Hp Lw
set_option maxRecDepth 100000 in
theorem open_two8 {H:Type} {enc:TypeId×Value→H} {W:World} {base:Nat} {v:Value} {d:DataW H} {ps:List MemPlace} (hval:Value.okWide Try.prog W .any base 62 v)
  (h:DataW.Trod enc Try.prog W 0 (fun _=>true) true 62 v d ps):∃ k l:Nat,v=.agg #[.int .u8 (k:Int),.int .u8 (l:Int)]∧k≤255∧l≤255:=by
 obtain⟨cs,rfl,hsz⟩:=okWide_arr' Try.underlying62 hval
 have hs2:cs.size=2:=hsz.trans (by kernel_rfl)
 obtain⟨fuel,hf⟩:=h
 obtain⟨xs,n,rfl,_,_,hn,hf⟩:=DataW.trod_array Try.underlying62 hf
 obtain⟨c0,c1,rfl⟩:∃ c0 c1,cs=#[c0,c1]:=⟨cs[0],cs[1],by apply Array.ext<;>simp [hs2];intro i hi;match i,hi with|0,_=>intro _;rfl|1,_=>intro _;rfl⟩
 have e1:Try.prog.cellsOf 5=1:=by kernel_rfl
 have h0:=hf 0 (by omega)
 have h1:=hf 1 (by omega)
 rw [List.getElem?_eq_getElem (by omega)] at h0 h1
 change DataW.trod enc Try.prog W 0 (fun _=>true) true n 5 (([c0,c1].drop (0*Try.prog.cellsOf 5)).take (Try.prog.cellsOf 5))=some _ at h0
 change DataW.trod enc Try.prog W 0 (fun _=>true) true n 5 (([c0,c1].drop (1*Try.prog.cellsOf 5)).take (Try.prog.cellsOf 5))=some _ at h1
 rw [e1] at h0 h1
 simp only [Nat.zero_mul,Nat.one_mul,List.drop_zero,List.drop_succ_cons,List.take_succ_cons,List.take_zero] at h0 h1
 obtain⟨k,hk,_,wk⟩:=DataW.trod_int Try.underlying5 h0
 obtain⟨l,hl,_,wl⟩:=DataW.trod_int Try.underlying5 h1
 simp only [List.cons.injEq,and_true] at hk hl
 subst hk
 subst hl
 have hk:0≤k∧k≤255:=by simpa [Lit.wf,IntKind.min,IntKind.max,IntKind.signed,IntKind.bits] using wk
 have hl:0≤l∧l≤255:=by simpa [Lit.wf,IntKind.min,IntKind.max,IntKind.signed,IntKind.bits] using wl
 exact⟨k.toNat,l.toNat,by rw [Int.toNat_of_nonneg hk.1,Int.toNat_of_nonneg hl.1],by omega,by omega⟩
end Go.Proofs.Ytppmnmheodimoaa
end
