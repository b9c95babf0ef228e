/- Own texts of this claim, part 7: no condition. -/
import Derived.Test.YtppmnmheodimoaaZD5
set_option linter.unusedVariables false
set_option linter.unusedSimpArgs false
section
namespace Go.Proofs.Ytppmnmheodimoaa
open Go Go.RowKit Rg Mp Hp Qs
instance (s:Int) (ns:List K4):Decidable (GoodQ s ns):=by
 have:GoodQ s ns↔2≤s∧s≤8∧ns.length≤100000∧ns.Nodup∧∀ i:Fin ns.length,Fits s (ns.take i) ns[i]:=by
  unfold GoodQ
  constructor
  ·rintro⟨h1,h2,h3,h4,h5⟩
   exact⟨h1,h2,h3,h4,fun i=>h5 i _ (by simp)⟩
  ·rintro⟨h1,h2,h3,h4,h5⟩
   refine⟨h1,h2,h3,h4,fun i k hi=>?_⟩
   obtain⟨h,rfl⟩:=List.getElem?_eq_some_iff.1 hi
   exact h5 ⟨i,h⟩
 exact decidable_of_iff _ this.symm
theorem goodQ_step {s:Int} {ns:List K4} (h:GoodQ s ns) {i:Nat} (hi:i<ns.length):Fits s (ns.take i) ns[i]∧ns[i]∉ns.take i:=by
 obtain⟨h1,h2,h3,h4,h5⟩:=h
 refine⟨h5 i _ (List.getElem?_eq_getElem hi),fun hm=>?_⟩
 obtain⟨j,hj,e⟩:=List.getElem_of_mem hm
 rw [List.length_take] at hj
 rw [List.getElem_take] at e
 exact (List.pairwise_iff_getElem.1 h4) j i (by omega) hi (by omega) e
theorem take_snoc {ns:List K4} {i:Nat} (hi:i<ns.length):ns.take (i+1)=ns.take i++[ns[i]]:=by
 rw [List.take_add_one,List.getElem?_eq_getElem hi];rfl
theorem join_ok {s:Int} {ns:List K4} {k:K4} (h:Fits s ns k) (hn:k∉ns) (hl:ns.length<100000):join s ns k=((s+ns.length,0),ns++[k]):=by
 unfold join
 have hf:=h
 unfold Fits at hf
 rw [if_neg (by omega),if_neg (by simpa using h),joinIn_new (by simpa using hn) hl]
theorem join_bad {s:Int} {ns:List K4} {k:K4} (h:¬ (Fits s ns k∧k∉ns)) (_:ns.length<100000):(join s ns k).1.2≠0∨(join s ns k).1.1≠s+ns.length:=by
 unfold join
 split
 ·left;simp
 ·split
  ·left;simp
  ·rename_i hf
   have hf:=Decidable.not_not.1 hf
   have hk:k∈ns:=by
    rcases Decidable.em (k∈ns) with h'|h'
    ·exact h'
    ·exact absurd ⟨hf,h'⟩ h
   obtain⟨i,hi⟩:∃ i,ns.idxOf? k=some i:=by
    cases hx:ns.idxOf? k with
    | none=>rw [List.idxOf?_eq_none_iff] at hx;exact absurd hk hx
    | some i=>exact⟨i,rfl⟩
   rw [joinIn_hit hi]
   right
   rw [List.idxOf?_eq_some_iff] at hi
   obtain⟨h1,_⟩:=hi
   simp;omega
def LoadPost (w:World) (s:Int) (ns:List K4) (e:Ending) (w':World):Prop :=
 (GoodQ s ns→∃ b F,e=.returned (.tuple #[.pointer (some ⟨b,0,none⟩),.int .i64 0])∧StoreAt w' b s ns F∧Fr [] w w'∧∀ x∈F,w.heap.size≤x) ∧
 (¬ GoodQ s ns→e=.returned (.tuple #[.pointer none,.int .i64 2])∧Fr [] w w')
set_option maxHeartbeats 4000000 in
theorem Load_calls {w:World} {s:Int} {ns:List K4} {v:Value} (hl:ns.length≤100000) (hv:Reads w v ns.length 4 (flat ns)) :
  Calls Try.prog 17 #[.agg #[.int .i64 s,v]] w (LoadPost w s ns):=by
 have hvk:=hv
 obtain⟨_,a,c,rfl,hav⟩:=hv
 by_cases hbad:s<2∨8<s
 ·have hng:¬ GoodQ s ns:=fun h=>by have:=h.1;have:=h.2.1;omega
  have Hl:=Lib.hid hl
  clear hl hav hvk
  go_enter Try.func17,Try.ntmps17
  go_wp2_with fail
  refine (New_bad s _ hbad).mono ?_
  rintro e w' ⟨rfl,rfl⟩
  go_wp2
  go_ret2
  exact⟨fun h=>absurd h hng,fun _=>⟨rfl,by (repeat first|exact Fr.refl _ _|assumption|apply Fr.n|apply Fr.d|apply Fr.a|refine Fr.s ?_ (.inr (by simp;try omega)) _)⟩⟩
 ·have hl2:ns.length≤1048576:=by omega
  have Hl:=Lib.hid hl
  have Hav:=Lib.hid hav
  have Hvk:=Lib.hid hvk
  have hs1:2≤s:=by omega
  have hs2:s≤8:=by omega
  clear hav hvk hbad hl
  have hd:decide ((100000:Int)<↑ns.length)=false:=by have:=Hl.out;simp;omega
  go_enter Try.func17,Try.ntmps17
  go_wp2_with fail
  refine (New_ok s _ hs1 hs2).mono ?_
  rintro e w1 ⟨b,F0,rfl,hS0,hf0,hF0⟩
  have hbx:w1.heap[w.heap.size]?=some (.cells #[.int .i64 s,.slice a ns.length c] 39 (0,0)):=(hf0.block _ (by simp) (by simp)).trans (by (repeat first|rw [if_pos (by omega)]|rw [if_neg (by omega)]|rw [hDR]|rw [hDN]|rw [hAz]|rw [hSz]|rw [hAC]|rw [hSC]|rw [oMS]|rw [uPC]|rw [lSZ]|rw [lSS]|rfl))
  have c0:=hEC hbx 0
  have c1:=hEC hbx 1
  have hfw:Fr [] w w1:=((Fr.refl _ _).alloc _).trans0 hf0
  have Hbx:=Lib.hid hbx
  have Hfw:=Lib.hid hfw
  have HF0:=Lib.hid hF0
  clear hbx hf0 hfw hF0
  go_wp2
  go_loopw [27] (fun x wr=>∃ (k:Nat) (F':List Nat),x=.int .i64 k∧k≤ns.length∧GoodQ s (ns.take k)∧StoreAt wr b s (ns.take k) F'∧Fr [] w wr∧(∀ x∈F',w.heap.size+1≤x)∧wr.heap[w.heap.size]?=some (.cells #[.int .i64 s,.slice a ns.length c] 39 (0,0))) (fun x _=>ns.length - (intOf x).toNat)
  case atStart=>exact⟨0,F0,rfl,by omega,GoodQ.nil hs1 hs2,hS0,Hfw.out,fun x hx=>by have:=HF0.out x hx;simp at this;omega,Hbx.out⟩
  case round =>
   obtain⟨k,F',rfl,hk,hg,hS',hf',hF',hb'⟩:=hrel
   have c0:=hEC hb' 0
   have c1:=hEC hb' 1
   have hwlt:w.heap.size<wr.heap.size:=lBk hb'
   have Hf:=Lib.hid hf'
   have HF:=Lib.hid hF'
   have HB:=Lib.hid hb'
   have HG:=Lib.hid hg
   clear hf' hF' hb' hg
   by_cases hlt:k<ns.length
   ·obtain⟨g,off,rfl,hg,hc⟩:=Hav.out (by omega)
    obtain⟨f0,f1,f2,f3⟩:=flat_get (List.getElem?_eq_getElem hlt)
    rw [Nat.mul_comm] at f0 f1 f2 f3
    obtain⟨x,hx⟩:∃ x,x=ns[k]:=⟨_,rfl⟩
    rw [← hx] at f0 f1 f2 f3
    have hgw:∀ j,wr.cell? ⟨g,off+j,none⟩=w.cell? ⟨g,off+j,none⟩:=fun j=>Hf.out.cell (p:=⟨g,off+j,none⟩) hg (by simp)
    have e0:=(hgw _).trans (hc _ _ f0)
    have e1:=(hgw _).trans (hc _ _ f1)
    have e2:=(hgw _).trans (hc _ _ f2)
    have e3:=(hgw _).trans (hc _ _ f3)
    simp only [← Nat.add_assoc] at e1 e2 e3
    have hgr:g<wr.heap.size:=by omega
    have Hx:=Lib.hid hx
    clear hx hc f0 f1 f2 f3 hgw
    have hJ:∀ w1,Fr [] wr w1→Calls Try.prog 40 #[.pointer (some ⟨b,0,none⟩),.int .i64 x.a,.int .i64 x.b,.int .i64 x.c,.int .i64 x.d] w1 (JoinPost w1 b s (ns.take k) F' x):=fun w1 hf=>Join_calls (hS'.fr hf (by simp)) x
    go_wp2_with fail
    refine (hJ _ (by (repeat first|exact Fr.refl _ _|assumption|apply Fr.n|apply Fr.d|apply Fr.a|refine Fr.s ?_ (.inr (by simp;try omega)) _))).mono ?_
    clear hJ
    rintro e w2 ⟨rfl,F2,hS2,hf2,hF2⟩
    have hb2:w2.heap[w.heap.size]?=some (.cells #[.int .i64 s,.slice (some ⟨g,off,none⟩) ns.length c] 39 (0,0)):=by
     refine (hf2.block _ (by simp;omega) fun h=>?_).trans ?_
     ·have:=HF.out _ h;omega
     ·rw [← HB.out];(repeat first|rw [if_pos (by omega)]|rw [if_neg (by omega)]|rw [hDR]|rw [hDN]|rw [hAz]|rw [hSz]|rw [hAC]|rw [hSC]|rw [oMS]|rw [uPC]|rw [lSZ]|rw [lSS]|rfl)
    have c0:=hEC hb2 0
    have c1:=hEC hb2 1
    have hlk:(ns.take k).length=k:=by rw [List.length_take];omega
    have hfr2:Fr [] w w2:=by
     have h1:Fr F' wr w2:=by
      refine Fr.trans ?_ hf2 fun x hx=>.inl hx
      (repeat first|exact Fr.refl _ _|assumption|apply Fr.n|apply Fr.d|apply Fr.a|refine Fr.s ?_ (.inr (by simp;try omega)) _)
     refine Hf.out.trans (h1) fun x hx=>?_
     right;have:=HF.out x hx;omega
    have Hb2:=Lib.hid hb2
    have Hlk:=Lib.hid hlk
    have Hf2:=Lib.hid hf2
    have HF2:=Lib.hid hF2
    have Hfr2:=Lib.hid hfr2
    clear hb2 hlk hf2 hF2 hfr2
    have hl5:ns.length≤100000:=Hl.out
    have hk5:k<100000:=by omega
    have Hk5:=Lib.hid hk5
    clear hl5 hk5
    by_cases hok:Fits s (ns.take k) x∧x∉ns.take k
    ·have hj:=join_ok hok.1 hok.2 (by rw [Hlk.out];exact Hk5.out)
     rw [Hlk.out] at hj
     rw [hj] at hS2 ⊢
     have Hok:=Lib.hid hok
     clear hok hj
     go_wp2
     go_roundw
     case rel =>
      have hx:=Hx.out
      have ht:ns.take (k+1)=ns.take k++[x]:=by rw [take_snoc hlt,hx]
      refine⟨k+1,F2,by go_num,by omega,?_,by rw [ht];exact hS2,Hfr2.out,fun y hy=>?_,Hb2.out⟩
      ·rw [ht];exact HG.out.snoc Hok.out.1 Hok.out.2 (by rw [Hlk.out];exact Hk5.out)
      ·rcases HF2.out y hy with h|h
       ·exact HF.out y h
       ·simp at h;omega
     case measure=>simp [intOf];omega
    ·have hjb:=join_bad hok (by rw [Hlk.out];exact Hk5.out)
     rw [Hlk.out] at hjb
     have hng:¬ GoodQ s ns:=fun h=>hok (by rw [Hx.out];exact goodQ_step h hlt)
     have Hng:=Lib.hid hng
     clear hok hng hS2
     generalize (join s (ns.take k) x).1.1=r at *
     generalize (join s (ns.take k) x).1.2=q at *
     by_cases hq:q=0
     ·subst hq
      have hr:r≠s+k:=by rcases hjb with h|h<;>omega
      have hrb:(r != s+↑k)=true:=by simpa using hr
      clear hjb hr
      go_wp2
      go_ret2
      exact⟨fun h=>absurd h Hng.out,fun _=>⟨rfl,Hfr2.out⟩⟩
     ·have hqb:(q != 0)=true:=by simpa using hq
      clear hjb hq
      go_wp2
      go_ret2
      exact⟨fun h=>absurd h Hng.out,fun _=>⟨rfl,Hfr2.out⟩⟩
   ·obtain rfl:k=ns.length:=by omega
    go_wp2
    go_ret2
    have hg:=HG.out
    rw [List.take_length] at hg hS'
    exact⟨fun _=>⟨b,F',rfl,hS',Hf.out,fun x hx=>by have:=HF.out x hx;omega⟩,fun h=>absurd hg h⟩
end Go.Proofs.Ytppmnmheodimoaa
end
section
namespace Go.Proofs.Ytppmnmheodimoaa
open Go Go.RowKit Rg Mp Hp Qs
theorem findR_cases (ns:List K4) (k:K4):(k∈ns∧0≤findR ns k∧findR ns k<ns.length)∨(k∉ns∧findR ns k=-1):=by
 unfold findR
 cases h:ns.idxOf? k with
 | some i =>
  left
  rw [List.idxOf?_eq_some_iff] at h
  obtain⟨h1,h2,_⟩:=h
  have h3:ns[i]=k:=by simpa using h2
  refine⟨by rw [← h3];exact List.getElem_mem _,?_,?_⟩<;>simp<;>omega
 | none=>right;exact⟨by simpa using h,rfl⟩
set_option maxHeartbeats 2000000 in
set_option maxRecDepth 100000 in
theorem R25Right_calls {w:World} {s:Int} {ns:List K4} {v:Value} (hl:ns.length≤90000) (hv:Reads w v ns.length 4 (flat ns)) :
  Calls Try.prog 43 #[.agg #[.int .i64 s,v]] w fun e w'=>e=.returned (.bool (decide (GoodQ s ns)))∧Fr [] w w':=by
 have hvk:=hv
 obtain⟨_,a,c,rfl,hav⟩:=hv
 have Hav:=Lib.hid hav
 have Hvk:=Lib.hid hvk
 have Hl:=Lib.hid hl
 clear hav hvk hl
 obtain⟨i0,hi0,hi1,hi2,hi3⟩:=info_parts info_quad
 by_cases hs1:s<2
 ·have hng:¬ GoodQ s ns:=fun h=>by have:=h.1;omega
  have Hng:=Lib.hid hng
  clear hng
  go_enter Try.func43,Try.ntmps43
  go_wp2
  go_ret
  exact⟨by rw [decide_eq_false Hng.out];rfl,by (repeat first|exact Fr.refl _ _|assumption|apply Fr.n|apply Fr.d|apply Fr.a|refine Fr.s ?_ (.inr (by simp;try omega)) _)⟩
 by_cases hs2:8<s
 ·have hng:¬ GoodQ s ns:=fun h=>by have:=h.2.1;omega
  have Hng:=Lib.hid hng
  clear hng
  go_enter Try.func43,Try.ntmps43
  go_wp2
  go_ret
  exact⟨by rw [decide_eq_false Hng.out];rfl,by (repeat first|exact Fr.refl _ _|assumption|apply Fr.n|apply Fr.d|apply Fr.a|refine Fr.s ?_ (.inr (by simp;try omega)) _)⟩
 have hd:decide ((100000:Int)<↑ns.length)=false:=by have:=Hl.out;simp;omega
 go_enter Try.func43,Try.ntmps43
 go_wp2
 clear hd
 go_loopw [4] (fun x wr=>∃ (k:Nat) (nv:Value),x=.int .i64 k∧k≤ns.length∧Fr [] w wr∧w.heap.size+2≤wr.heap.size∧wr.heap[w.heap.size]?=some (.cells #[.int .i64 s,.slice a ns.length c] 39 (0,0)) ∧
   wr.heap[w.heap.size+1]?=some (.cells #[.int .i64 s,nv] 39 (0,0)) ∧
   wr.ownsRow (w.heap.size+2) 77 4 nv k (flat (ns.take k))∧GoodQ s (ns.take k)) (fun x _=>ns.length - (intOf x).toNat)
 case atStart =>
  refine⟨0,.slice none 0 0,rfl,by omega,?_,?_,?_,?_,World.ownsRow_nil _ _ _ _,GoodQ.nil (by omega) (by omega)⟩
  ·(repeat first|exact Fr.refl _ _|assumption|apply Fr.n|apply Fr.d|apply Fr.a|refine Fr.s ?_ (.inr (by simp;try omega)) _)
  ·simp only [hAz,hSz];omega
  ·(repeat first|rw [if_pos (by omega)]|rw [if_neg (by omega)]|rw [hDR]|rw [hDN]|rw [hAz]|rw [hSz]|rw [hAC]|rw [hSC]|rw [oMS]|rw [uPC]|rw [lSZ]|rw [lSS]|rfl)
  ·(repeat first|rw [if_pos (by omega)]|rw [if_neg (by omega)]|rw [hDR]|rw [hDN]|rw [hAz]|rw [hSz]|rw [hAC]|rw [hSC]|rw [oMS]|rw [uPC]|rw [lSZ]|rw [lSS]|rfl)
 case round =>
  obtain⟨k,nv,rfl,hk,hf,hsz,hb0,hb1,hown,hgood⟩:=hrel
  have b0:=hEC hb0 0
  have b1:=hEC hb0 1
  have o0:=hEC hb1 0
  have o1:=hEC hb1 1
  have hz1:w.heap.size+1<wr.heap.size:=by omega
  have Hsz:=Lib.hid hsz
  have hnb:∀ x,nv.ownBlock=some x→w.heap.size+2≤x:=fun x hx=>owns_ge hown hx
  have Hnb:=Lib.hid hnb
  have Hf:=Lib.hid hf
  have H0:=Lib.hid hb0
  have H1:=Lib.hid hb1
  have Hown:=Lib.hid hown
  have Hgood:=Lib.hid hgood
  obtain⟨na,nc,rfl,_,_⟩:=oFM hown
  clear hf hb0 hb1 hown hsz hnb hgood
  by_cases hlt:k<ns.length
  ·obtain⟨g,off,rfl,hg,hc⟩:=Hav.out (by omega)
   obtain⟨f0,f1,f2,f3⟩:=flat_get (List.getElem?_eq_getElem hlt)
   rw [Nat.mul_comm] at f0 f1 f2 f3
   obtain⟨x,hx⟩:∃ x,x=ns[k]:=⟨_,rfl⟩
   rw [← hx] at f0 f1 f2 f3
   have hgw:∀ j,wr.cell? ⟨g,off+j,none⟩=w.cell? ⟨g,off+j,none⟩:=fun j=>Hf.out.cell (p:=⟨g,off+j,none⟩) hg (by simp)
   have e0:=(hgw _).trans (hc _ _ f0)
   have e1:=(hgw _).trans (hc _ _ f1)
   have e2:=(hgw _).trans (hc _ _ f2)
   have e3:=(hgw _).trans (hc _ _ f3)
   simp only [← Nat.add_assoc] at e1 e2 e3
   have hgr:g<wr.heap.size:=by have:=Hf.out.size;omega
   have E0:=hc _ _ f0
   have E1:=hc _ _ f1
   have E2:=hc _ _ f2
   have E3:=hc _ _ f3
   simp only [← Nat.add_assoc] at E1 E2 E3
   have HE:=Lib.hid (And.intro E0 (And.intro E1 (And.intro E2 E3)))
   clear E0 E1 E2 E3
   have Hx:=Lib.hid hx
   clear hx hc f0 f1 f2 f3 hgw
   have hlk:(ns.take k).length=k:=by rw [List.length_take];omega
   have Hlk:=Lib.hid hlk
   clear hlk
   have hR:∀ w1,Fr [] wr w1→Reads w1 (.slice na k nc) (ns.take k).length 4 (flat (ns.take k)):=fun w1 hf1=>by rw [Hlk.out];exact (Reads.of_owns Hown.out).fr hf1
   have HR:=Lib.hid hR
   clear hR
   obtain⟨la,hla⟩:∃ la,la=lvl s (levs s (ns.take k)) x.a:=⟨_,rfl⟩
   obtain⟨lb,hlb⟩:∃ lb,lb=lvl s (levs s (ns.take k)) x.b:=⟨_,rfl⟩
   obtain⟨lc,hlc⟩:∃ lc,lc=lvl s (levs s (ns.take k)) x.c:=⟨_,rfl⟩
   obtain⟨ld,hld⟩:∃ ld,ld=lvl s (levs s (ns.take k)) x.d:=⟨_,rfl⟩
   obtain⟨fi,hfi⟩:∃ fi,fi=findR (ns.take k) x:=⟨_,rfl⟩
   have Hla:=Lib.hid hla
   have Hlb:=Lib.hid hlb
   have Hlc:=Lib.hid hlc
   have Hld:=Lib.hid hld
   have Hfi:=Lib.hid hfi
   clear hla hlb hlc hld hfi
   have hsp:GoodQ s ns→0≤la∧la<256∧lb=la∧lc=la∧ld=la∧fi<0:=fun h=>by
    obtain⟨⟨h0,h1,h2,h3,h4⟩,hn⟩:=goodQ_step h hlt
    have hx:=Hx.out
    subst hx
    rw [Hla.out,Hlb.out,Hlc.out,Hld.out,Hfi.out]
    refine⟨h0,h1,h2,h3,h4,?_⟩
    rcases findR_cases (ns.take k) ns[k] with h5|h5
    ·exact absurd h5.1 hn
    ·rw [h5.2];omega
   have Hsp:=Lib.hid hsp
   clear hsp
   go_wp2_with fail
   have hk3:(wr.alloc (.cells #[.int .i64 x.a,.int .i64 x.b,.int .i64 x.c,.int .i64 x.d] 75)).heap[wr.heap.size]?=some (.cells #[.int .i64 x.a,.int .i64 x.b,.int .i64 x.c,.int .i64 x.d] 75 (0,0)):=by (repeat first|rw [if_pos (by omega)]|rw [if_neg (by omega)]|rw [hDR]|rw [hDN]|rw [hAz]|rw [hSz]|rw [hAC]|rw [hSC]|rw [oMS]|rw [uPC]|rw [lSZ]|rw [lSS]|rfl)
   have hf3:Fr [] wr (wr.alloc (.cells #[.int .i64 x.a,.int .i64 x.b,.int .i64 x.c,.int .i64 x.d] 75)):=by (repeat first|exact Fr.refl _ _|assumption|apply Fr.n|apply Fr.d|apply Fr.a|refine Fr.s ?_ (.inr (by simp;try omega)) _)
   generalize wr.alloc (.cells #[.int .i64 x.a,.int .i64 x.b,.int .i64 x.c,.int .i64 x.d] 75)=w3 at *
   have hcells:∀ w',Fr [] w3 w'→w'.cell? ⟨w.heap.size+1,0,none⟩=some (.int .i64 s)∧w'.cell? ⟨w.heap.size+1,1,none⟩=some (.slice na k nc)∧w'.cell? ⟨wr.heap.size,0,none⟩=some (.int .i64 x.a)∧w'.cell? ⟨wr.heap.size,1,none⟩=some (.int .i64 x.b) ∧
     w'.cell? ⟨wr.heap.size,2,none⟩=some (.int .i64 x.c)∧w'.cell? ⟨wr.heap.size,3,none⟩=some (.int .i64 x.d):=fun w' hf'=>by
    have hp:=((hf3.trans0 hf').block _ (lBk H1.out) (by simp)).trans H1.out
    have hq:=(hf'.block _ (lBk hk3) (by simp)).trans hk3
    exact⟨hEC hp 0,hEC hp 1,hEC hq 0,hEC hq 1,hEC hq 2,hEC hq 3⟩
   have hLev:∀ (w1:World) (id l:Int),l=lvl s (levs s (ns.take k)) id→Fr [] w3 w1→Calls Try.prog 65 #[.agg #[.int .i64 s,.slice na k nc],.int .i64 id] w1 fun e w'=>e=.returned (.int .i64 l)∧Fr [] w3 w'∧w'.cell? ⟨w.heap.size+1,0,none⟩=some (.int .i64 s)∧w'.cell? ⟨w.heap.size+1,1,none⟩=some (.slice na k nc)∧w'.cell? ⟨wr.heap.size,0,none⟩=some (.int .i64 x.a)∧w'.cell? ⟨wr.heap.size,1,none⟩=some (.int .i64 x.b) ∧
     w'.cell? ⟨wr.heap.size,2,none⟩=some (.int .i64 x.c)∧w'.cell? ⟨wr.heap.size,3,none⟩=some (.int .i64 x.d):=fun w1 id l hl1 hf1=>by
    refine (level_ref Hgood.out (HR.out w1 (hf3.trans0 hf1)) id).mono ?_
    rintro e w' ⟨rfl,o,rfl⟩
    exact⟨by rw [hl1],hf1.alloc o,hcells _ (hf1.alloc o)⟩
   have hFind:∀ (w1:World),Fr [] w3 w1→Calls Try.prog 66 #[.agg #[.int .i64 s,.slice na k nc],.agg #[.int .i64 x.a,.int .i64 x.b,.int .i64 x.c,.int .i64 x.d]] w1 fun e w'=>e=.returned (.int .i64 fi)∧Fr [] w3 w':=fun w1 hf1=>by
    refine (find_ref (s:=s) (by rw [Hlk.out];have:=Hl.out;omega) (HR.out w1 (hf3.trans0 hf1)) x).mono ?_
    rintro e w' ⟨rfl,o1,o2,n,rfl⟩
    exact⟨by rw [Hfi.out],((hf1.alloc o1).alloc o2).drewN n⟩
   have hcs:=hcells w3 (Fr.refl _ _)
   have HLev:=Lib.hid hLev
   have HFind:=Lib.hid hFind
   have Hf3:=Lib.hid hf3
   have Hk3:=Lib.hid hk3
   clear hLev hFind hcells hf3 hk3 b0 b1 o0 o1 e0 e1 e2 e3
   obtain⟨c0,c1,k0,k1,k2,k3⟩:=hcs
   clear c0 c1 k0 k1 k2 k3
   refine (HLev.out _ _ _ Hla.out (Fr.refl _ _)).mono ?_
   rintro e w4 ⟨rfl,hf,c0,c1,k0,k1,k2,k3⟩
   have Hf_w4:=Lib.hid hf
   clear hf
   go_wp2_with fail
   any_goals (go_ret;refine⟨?_,(Hf.out.trans0 Hf3.out).trans0 Hf_w4.out⟩;rw [decide_eq_false (p:=GoodQ s ns) fun h=>by have:=Hsp.out h;omega];rfl)
   clear c0 c1 k0 k1 k2 k3
   refine (HLev.out _ _ _ Hlb.out Hf_w4.out).mono ?_
   rintro e w5 ⟨rfl,hf,c0,c1,k0,k1,k2,k3⟩
   have Hf_w5:=Lib.hid hf
   clear hf
   go_wp2_with fail
   any_goals (go_ret;refine⟨?_,(Hf.out.trans0 Hf3.out).trans0 Hf_w5.out⟩;rw [decide_eq_false (p:=GoodQ s ns) fun h=>by have:=Hsp.out h;omega];rfl)
   clear c0 c1 k0 k1 k2 k3
   refine (HLev.out _ _ _ Hlc.out Hf_w5.out).mono ?_
   rintro e w6 ⟨rfl,hf,c0,c1,k0,k1,k2,k3⟩
   have Hf_w6:=Lib.hid hf
   clear hf
   go_wp2_with fail
   any_goals (go_ret;refine⟨?_,(Hf.out.trans0 Hf3.out).trans0 Hf_w6.out⟩;rw [decide_eq_false (p:=GoodQ s ns) fun h=>by have:=Hsp.out h;omega];rfl)
   clear c0 c1 k0 k1 k2 k3
   refine (HLev.out _ _ _ Hld.out Hf_w6.out).mono ?_
   rintro e w7 ⟨rfl,hf,c0,c1,k0,k1,k2,k3⟩
   have Hf_w7:=Lib.hid hf
   clear hf
   go_wp2_with fail
   any_goals (go_ret;refine⟨?_,(Hf.out.trans0 Hf3.out).trans0 Hf_w7.out⟩;rw [decide_eq_false (p:=GoodQ s ns) fun h=>by have:=Hsp.out h;omega];rfl)
   clear c0 c1 k0 k1 k2 k3
   refine (HFind.out _ Hf_w7.out).mono ?_
   rintro e w8 ⟨rfl,hf⟩
   have Hf8:=Lib.hid hf
   clear hf
   have hf8:Fr [] wr w8:=Hf3.out.trans0 Hf8.out
   have hp:=(hf8.block _ (lBk H1.out) (by simp)).trans H1.out
   have hq:=(hf8.block _ (lBk H0.out) (by simp)).trans H0.out
   have o0:=hEC hp 0
   have o1:=hEC hp 1
   have p1:=hEF hp 1
   have b1:=hEC hq 1
   obtain⟨E0,E1,E2,E3⟩:=HE.out
   have hgw:∀ j,w8.cell? ⟨g,j,none⟩=w.cell? ⟨g,j,none⟩:=fun j=>(Hf.out.trans0 hf8).cell (p:=⟨g,j,none⟩) hg (by simp)
   have e0:=(hgw _).trans E0
   have e1:=(hgw _).trans E1
   have e2:=(hgw _).trans E2
   have e3:=(hgw _).trans E3
   have hown8:=oOB Hown.out fun y hy=>hf8.block y (oLT Hown.out hy) (by simp)
   have hsz8:=hf8.size
   have hz1:w.heap.size+1<w8.heap.size:=by have:=Hsz.out;omega
   have hg8:g<w8.heap.size:=by omega
   have Hown8:=Lib.hid hown8
   have HP8:=Lib.hid hp
   have HQ8:=Lib.hid hq
   have Hf8w:=Lib.hid (Hf.out.trans0 hf8)
   have Hsz8:=Lib.hid hsz8
   clear hf8 hp hq E0 E1 E2 E3 hgw hown8 hsz8 HLev HFind
   go_wp2_with fail
   any_goals (go_ret;refine⟨?_,Hf8w.out⟩;rw [decide_eq_false (p:=GoodQ s ns) fun h=>by have:=Hsp.out h;omega];rfl)
   have hadd:Fits s (ns.take k) x∧x∉ns.take k:=by
    have ha:=Hla.out
    have hb:=Hlb.out
    have hc:=Hlc.out
    have hd:=Hld.out
    refine⟨⟨by omega,by omega,by omega,by omega,by omega⟩,fun hm=>?_⟩
    rcases findR_cases (ns.take k) x with h|h
    ·have:=Hfi.out;omega
    ·exact h.1 hm
   have hg1:GoodQ s (ns.take (k+1)):=by
    rw [take_snoc hlt,← Hx.out]
    exact Hgood.out.snoc hadd.1 hadd.2 (by rw [Hlk.out];have:=Hl.out;omega)
   have Hg1:=Lib.hid hg1
   have hk9:k<90000:=by have:=Hl.out;omega
   clear hadd hg1 Hsp
   (refine wRT (by kernel_rfl) (by kernel_rfl) ?_)
   go_wp2_with (at_builtin;refine append_quad (k:=x) (n:=k) (base:=w.heap.size+2) (xs:=flat (ns.take k)) rfl rfl rfl ?e1 rfl ?e2 ?e3 ?e4 ?_)
   case e1=>exact oOB Hown8.out fun y hy=>by rw [hDR];exact hAE _ _ _ (oLT Hown8.out hy)
   case e2=>(repeat first|rw [if_pos (by omega)]|rw [if_neg (by omega)]|rw [hDR]|rw [hDN]|rw [hAz]|rw [hSz]|rw [hAC]|rw [hSC]|rw [oMS]|rw [uPC]|rw [lSZ]|rw [lSS]|rfl)
   case e3=>have:=Hl.out;omega
   case e4=>rw [hDR,hAz];omega
   intro g' cap w9 hown1 hW1 hF1 hloc1 hg1
   have old:∀ y,y<w.heap.size+2→w9.heap[y]?=w8.heap[y]?:=fun y hy=>(hW1 y (by omega) (fun e=>by have:=Hnb.out y e;omega)).trans (by rw [hDR];exact hAE _ _ _ (by omega))
   have hb2:=(old (w.heap.size+1) (by omega)).trans HP8.out
   have o0:=hEC hb2 0
   have o1:=hEC hb2 1
   have p1:=hEF hb2 1
   have Hown1:=Lib.hid hown1
   have Hold:=Lib.hid old
   have HF1:=Lib.hid hF1
   have HB2:=Lib.hid hb2
   clear hown1 hW1 hF1 hloc1 old hb2
   have hs1:w.heap.size+1<w9.heap.size:=lBk HB2.out
   go_wp2
   refine Strict.intro rfl ?_
   go_wp2
   go_roundw
   case rel =>
    have hG:w.heap.size+2≤g':=owns_ge Hown1.out rfl
    refine⟨k+1,.slice (some ⟨g',0,none⟩) (k+1) cap,by go_num,by omega,?_,?_,?_,?_,?_,Hg1.out⟩
    ·refine (((Hf8w.out.alloc _).drew).trans HF1.out fun y hy=>?_).setCell (Or.inr (by simp)) _
     have:=Hnb.out y (by simpa using hy)
     right;omega
    ·rw [hSz];omega
    ·rw [hSC,if_neg (by omega),Hold.out _ (by omega)];exact HQ8.out
    ·rw [hSC,if_pos rfl,HB2.out];rfl
    ·have ht:flat (ns.take (k+1))=flat (ns.take k)++kcells x:=by
      rw [List.take_add_one,List.getElem?_eq_getElem hlt,← Hx.out]
      exact flat_snoc _ _
     rw [ht]
     refine oOB Hown1.out fun y hy=>?_
     have:g'=y:=by simpa [Value.ownBlock] using hy
     rw [hSC,if_neg (by omega)]
   case measure=>simp [intOf];omega
  ·obtain rfl:k=ns.length:=by omega
   have hgood:=Hgood.out
   rw [List.take_length] at hgood
   have Hgd:=Lib.hid hgood
   clear hgood
   go_wp2
   go_ret
   exact⟨by rw [decide_eq_true Hgd.out];rfl,Hf.out⟩
end Go.Proofs.Ytppmnmheodimoaa
end
section
namespace Go.Proofs.Ytppmnmheodimoaa
open Go Go.RowKit Rg Mp Hp Qs
def CopyPost (w:World) (s:Int) (ns:List K4) (e:Ending) (w':World):Prop:=∃ v,e=.returned (.agg #[.int .i64 s,v])∧w'.ownsRow w.heap.size 77 4 v ns.length (flat ns)∧Fr [] w w'
set_option maxHeartbeats 4000000 in
theorem copied_ref {w:World} {s:Int} {ns:List K4} {v:Value} (hl:ns.length≤1048576) (hv:Reads w v ns.length 4 (flat ns)) :
  Calls Try.prog 44 #[.agg #[.int .i64 s,v]] w (CopyPost w s ns):=by
 have hvk:=hv
 obtain⟨_,a,c,rfl,hav⟩:=hv
 have Hav:=Lib.hid hav
 have Hvk:=Lib.hid hvk
 clear hav hvk
 obtain⟨i0,hi0,hi1,hi2,hi3⟩:=info_parts info_quad
 go_enter Try.func44,Try.ntmps44
 go_wp2
 go_loopw [4] (fun x wr=>∃ (k:Nat) (nv:Value),x=.int .i64 k∧k≤ns.length∧Fr [] w wr∧w.heap.size+3≤wr.heap.size∧wr.heap[w.heap.size]?=some (.cells #[.int .i64 s,.slice a ns.length c] 39 (0,0)) ∧
   wr.heap[w.heap.size+1]?=some (.cells #[.int .i64 0,.slice none 0 0] 39 (0,0))∧wr.heap[w.heap.size+2]?=some (.cells #[.int .i64 s,nv] 39 (0,0)) ∧
   wr.ownsRow (w.heap.size+3) 77 4 nv k (flat (ns.take k))) (fun x _=>ns.length - (intOf x).toNat)
 case atStart =>
  refine⟨0,.slice none 0 0,rfl,by omega,?_,?_,?_,?_,?_,World.ownsRow_nil _ _ _ _⟩
  ·repeat (first|exact Fr.refl _ _|apply Fr.drewN|apply Fr.drew|apply Fr.alloc|refine Fr.setCell ?_ (Or.inr (by simp)) _)
  ·simp only [hAz];omega
  ·(repeat first|rw [if_pos (by omega)]|rw [if_neg (by omega)]|rw [hDR]|rw [hDN]|rw [hAz]|rw [hSz]|rw [hAC]|rw [hSC]|rw [oMS]|rw [uPC]|rw [lSZ]|rw [lSS]|rfl)
  ·(repeat first|rw [if_pos (by omega)]|rw [if_neg (by omega)]|rw [hDR]|rw [hDN]|rw [hAz]|rw [hSz]|rw [hAC]|rw [hSC]|rw [oMS]|rw [uPC]|rw [lSZ]|rw [lSS]|rfl)
  ·(repeat first|rw [if_pos (by omega)]|rw [if_neg (by omega)]|rw [hDR]|rw [hDN]|rw [hAz]|rw [hSz]|rw [hAC]|rw [hSC]|rw [oMS]|rw [uPC]|rw [lSZ]|rw [lSS]|rfl)
 case round =>
  obtain⟨k,nv,rfl,hk,hf,hsz,hb0,hb1,hb2,hown⟩:=hrel
  have b0:=hEC hb0 0
  have b1:=hEC hb0 1
  have r0:=hEC hb1 0
  have r1:=hEC hb1 1
  have q0:=hEF hb1 0
  have q1:=hEF hb1 1
  have o0:=hEC hb2 0
  have o1:=hEC hb2 1
  have p1:=hEF hb2 1
  have Hsz:=Lib.hid hsz
  have hz0:w.heap.size<wr.heap.size:=by omega
  have hz1:w.heap.size+1<wr.heap.size:=by omega
  have hz2:w.heap.size+2<wr.heap.size:=by omega
  have hnb:∀ x,nv.ownBlock=some x→w.heap.size+3≤x:=fun x hx=>owns_ge hown hx
  have Hnb:=Lib.hid hnb
  have Hf:=Lib.hid hf
  have H0:=Lib.hid hb0
  have H1:=Lib.hid hb1
  have H2:=Lib.hid hb2
  have Hown:=Lib.hid hown
  obtain⟨na,nc,rfl,_,_⟩:=oFM hown
  clear hf hb0 hb1 hb2 hown hsz hnb
  by_cases hlt:k<ns.length
  ·obtain⟨g,off,rfl,hg,hc⟩:=Hav.out (by omega)
   obtain⟨f0,f1,f2,f3⟩:=flat_get (List.getElem?_eq_getElem hlt)
   rw [Nat.mul_comm] at f0 f1 f2 f3
   obtain⟨x,hx⟩:∃ x,x=ns[k]:=⟨_,rfl⟩
   rw [← hx] at f0 f1 f2 f3
   have hgw:∀ j,wr.cell? ⟨g,off+j,none⟩=w.cell? ⟨g,off+j,none⟩:=fun j=>Hf.out.cell (p:=⟨g,off+j,none⟩) hg (by simp)
   have e0:=(hgw _).trans (hc _ _ f0)
   have e1:=(hgw _).trans (hc _ _ f1)
   have e2:=(hgw _).trans (hc _ _ f2)
   have e3:=(hgw _).trans (hc _ _ f3)
   simp only [← Nat.add_assoc] at e1 e2 e3
   have hgr:g<wr.heap.size:=by omega
   have Hx:=Lib.hid hx
   clear hx hc f0 f1 f2 f3 hgw
   go_wp2
   (refine wRT (by kernel_rfl) (by kernel_rfl) ?_)
   go_wp2_with (at_builtin;refine append_quad (k:=x) (n:=k) (base:=w.heap.size+3) (xs:=flat (ns.take k)) rfl rfl rfl ?e1 rfl ?e2 ?e3 ?e4 ?_)
   case e1=>exact oOB Hown.out fun y hy=>by rw [hDR];exact hAE _ _ _ (oLT Hown.out hy)
   case e2=>(repeat first|rw [if_pos (by omega)]|rw [if_neg (by omega)]|rw [hDR]|rw [hDN]|rw [hAz]|rw [hSz]|rw [hAC]|rw [hSC]|rw [oMS]|rw [uPC]|rw [lSZ]|rw [lSS]|rfl)
   case e3=>omega
   case e4=>rw [hDR,hAz];omega
   intro g' cap w1 hown1 hW1 hF1 hloc1 hg1
   have old:∀ y,y<w.heap.size+3→w1.heap[y]?=wr.heap[y]?:=fun y hy=>(hW1 y (by have:=Hsz.out;first|omega|(simp only [hDR,hAz];omega)) (fun e=>by have:=Hnb.out y e;omega)).trans (by rw [hDR];exact hAE _ _ _ (by have:=Hsz.out;omega))
   have hb2:=(old (w.heap.size+2) (by omega)).trans H2.out
   have o0:=hEC hb2 0
   have o1:=hEC hb2 1
   have p1:=hEF hb2 1
   have Hown1:=Lib.hid hown1
   have Hold:=Lib.hid old
   have HF1:=Lib.hid hF1
   have HB2:=Lib.hid hb2
   clear hown1 hW1 hF1 hloc1 old hb2
   have hs1:w.heap.size+2<w1.heap.size:=lBk HB2.out
   go_wp2
   refine Strict.intro rfl ?_
   go_wp2
   go_roundw
   case rel =>
    have hG:w.heap.size+3≤g':=owns_ge Hown1.out rfl
    refine⟨k+1,.slice (some ⟨g',0,none⟩) (k+1) cap,by go_num,by omega,?_,?_,?_,?_,?_,?_⟩
    ·refine (((Hf.out.alloc _).drew).trans HF1.out fun y hy=>?_).setCell (Or.inr (by simp;omega)) _
     have:=Hnb.out y (by simpa using hy)
     right;omega
    ·rw [hSz];have:=HF1.out.size;simp only [hDR,hAz] at this;have:=Hsz.out;omega
    ·rw [hSC,if_neg (by omega),Hold.out _ (by omega)];exact H0.out
    ·rw [hSC,if_neg (by omega),Hold.out _ (by omega)];exact H1.out
    ·rw [hSC,if_pos rfl,HB2.out];rfl
    ·have ht:flat (ns.take (k+1))=flat (ns.take k)++kcells x:=by
      rw [List.take_add_one,List.getElem?_eq_getElem hlt,← Hx.out]
      exact flat_snoc _ _
     rw [ht]
     refine oOB Hown1.out fun y hy=>?_
     have:g'=y:=by simpa [Value.ownBlock] using hy
     rw [hSC,if_neg (by omega)]
   case measure=>simp [intOf];omega
  ·go_wp2
   refine bodyPost_ret (v:=.agg #[.int .i64 s,.slice na k nc]) (by simp [results,Try.results44,go_sem,r0,r1]) rfl ⟨_,rfl,?_,?_⟩
   ·have hkn:k=ns.length:=by omega
    subst hkn
    rw [List.take_of_length_le (Nat.le_refl _)] at Hown
    refine oOB (owns_base Hown.out (by omega)) fun y hy=>?_
    have:=Hnb.out y hy
    exact heap_setCell2 _ _ _ _ _ _ (by omega)
   ·exact (Hf.out.setCell (Or.inr (by simp)) _).setCell (Or.inr (by simp)) _
end Go.Proofs.Ytppmnmheodimoaa
end
section
namespace Go.Proofs.Ytppmnmheodimoaa
open Go Go.RowKit Rg Mp Hp Qs
structure RefIn (w:World) (b:Nat) (s:Int) (ns:List K4) (nv:Value):Prop where
 blk:w.heap[b]?=some (.cells #[.int .i64 s,nv] 95 (0,0))
 nodes:w.ownsRow 0 77 4 nv ns.length (flat ns)
 ne:nv.ownBlock≠some b
def RefAt (w:World) (b:Nat) (s:Int) (ns:List K4) (F:List Nat):Prop:=GoodQ s ns∧∃ nv,RefIn w b s ns nv∧F=b::nv.ownBlock.toList
theorem RefAt.keep {w w':World} {b:Nat} {s:Int} {ns:List K4} {F:List Nat} (h:RefAt w b s ns F) (hk:∀ x∈F,w'.heap[x]?=w.heap[x]?):RefAt w' b s ns F:=by
 obtain⟨hg,nv,hI,rfl⟩:=h
 exact⟨hg,nv,⟨(hk b (by simp)).trans hI.blk,oOB hI.nodes fun g hg=>hk g (by simp [hg]),hI.ne⟩,rfl⟩
theorem RefAt.lt {w:World} {b:Nat} {s:Int} {ns:List K4} {F:List Nat} (h:RefAt w b s ns F):∀ x∈F,x<w.heap.size:=by
 obtain⟨_,nv,hI,rfl⟩:=h
 intro x hx
 simp only [List.mem_cons,Option.mem_toList] at hx
 rcases hx with rfl|hx
 ·exact lBk hI.blk
 ·exact oLT hI.nodes hx
theorem RefAt.fr {w w':World} {b:Nat} {s:Int} {ns:List K4} {F G:List Nat} (h:RefAt w b s ns F) (hf:Fr G w w') (hd:∀ x∈F,x∉G):RefAt w' b s ns F:=h.keep fun x hx=>hf.block x (h.lt x hx) (hd x hx)
def RLoadPost (w:World) (s:Int) (ns:List K4) (e:Ending) (w':World):Prop :=
 (GoodQ s ns→∃ b F,e=.returned (.tuple #[.pointer (some ⟨b,0,none⟩),.int .i64 0])∧RefAt w' b s ns F∧Fr [] w w'∧∀ x∈F,w.heap.size≤x) ∧
 (¬ GoodQ s ns→e=.returned (.tuple #[.pointer none,.int .i64 2])∧Fr [] w w')
set_option maxHeartbeats 4000000 in
theorem RLoad_calls {w:World} {s:Int} {ns:List K4} {v:Value} (hl:ns.length≤90000) (hv:Reads w v ns.length 4 (flat ns)) :
  Calls Try.prog 18 #[.agg #[.int .i64 s,v]] w (RLoadPost w s ns):=by
 have hvk:=hv
 obtain⟨_,a,c,rfl,hav⟩:=hv
 have Hvk:=Lib.hid hvk
 have Hl:=Lib.hid hl
 clear hav hvk hl
 go_enter Try.func18,Try.ntmps18
 go_wp2_with fail
 have hbx:(w.alloc (.cells #[.int .i64 s,.slice a ns.length c] 39)).heap[w.heap.size]?=some (.cells #[.int .i64 s,.slice a ns.length c] 39 (0,0)):=by (repeat first|rw [if_pos (by omega)]|rw [if_neg (by omega)]|rw [hDR]|rw [hDN]|rw [hAz]|rw [hSz]|rw [hAC]|rw [hSC]|rw [oMS]|rw [uPC]|rw [lSZ]|rw [lSS]|rfl)
 have hf0:Fr [] w (w.alloc (.cells #[.int .i64 s,.slice a ns.length c] 39)):=by (repeat first|exact Fr.refl _ _|assumption|apply Fr.n|apply Fr.d|apply Fr.a|refine Fr.s ?_ (.inr (by simp;try omega)) _)
 generalize w.alloc (.cells #[.int .i64 s,.slice a ns.length c] 39)=w0 at *
 refine (R25Right_calls (by have:=Hl.out;omega) (Hvk.out.fr hf0)).mono ?_
 rintro e w1 ⟨rfl,hf1⟩
 have hb1:=(hf1.block _ (lBk hbx) (by simp)).trans hbx
 have c0:=hEC hb1 0
 have c1:=hEC hb1 1
 simp at c0 c1
 have Hf1:=Lib.hid (hf0.trans0 hf1)
 clear hb1 hbx hf0 hf1
 by_cases hg:GoodQ s ns
 ·rw [decide_eq_true hg]
  have Hg:=Lib.hid hg
  clear hg
  go_wp2_with fail
  refine (copied_ref (by have:=Hl.out;omega) (Hvk.out.fr Hf1.out)).mono ?_
  rintro e w2 ⟨v,rfl,ho,hf2⟩
  obtain⟨va,vc,rfl,_⟩:=oFM ho
  have Ho:=Lib.hid ho
  have Hf2:=Lib.hid hf2
  clear ho hf2
  go_wp2
  go_ret2
  refine⟨fun _=>⟨w2.heap.size,w2.heap.size::(Value.slice va ns.length vc).ownBlock.toList,rfl,⟨Hg.out,_,⟨by (repeat first|rw [if_pos (by omega)]|rw [if_neg (by omega)]|rw [hDR]|rw [hDN]|rw [hAz]|rw [hSz]|rw [hAC]|rw [hSC]|rw [oMS]|rw [uPC]|rw [lSZ]|rw [lSS]|rfl),?_,?_⟩,rfl⟩,(Hf1.out.trans0 Hf2.out).alloc _,?_⟩,fun h=>absurd Hg.out h⟩
  ·exact oOB (owns_base Ho.out (by omega)) fun x hx=>hAE _ _ _ (oLT Ho.out hx)
  ·intro h
   have:=oLT Ho.out h
   omega
  ·intro x hx
   simp only [List.mem_cons,Option.mem_toList] at hx
   have h1:=Hf1.out.size
   have h2:=Hf2.out.size
   rcases hx with rfl|hx
   ·omega
   ·have:=owns_ge Ho.out hx;omega
 ·rw [decide_eq_false hg]
  have Hg:=Lib.hid hg
  clear hg
  go_wp2
  go_ret2
  exact⟨fun h=>absurd h Hg.out,fun _=>⟨rfl,Hf1.out⟩⟩
end Go.Proofs.Ytppmnmheodimoaa
end
section
namespace Go.Proofs.Ytppmnmheodimoaa
open Go Go.RowKit Rg Mp Hp Qs
set_option maxHeartbeats 2000000 in
theorem RLevel_calls {w:World} {b:Nat} {s:Int} {ns:List K4} {F:List Nat} (hS:RefAt w b s ns F) (id:Int) :
  Calls Try.prog 42 #[.pointer (some ⟨b,0,none⟩),.int .i64 id] w fun e w'=>e=.returned (.int .i64 (lvl s (levs s ns) id))∧Fr [] w w':=by
 obtain⟨hgood,nv,hI,rfl⟩:=hS
 obtain⟨na,nc,rfl,_,_⟩:=oFM hI.nodes
 have b0:=hEC hI.blk 0
 have b1:=hEC hI.blk 1
 have HI:=Lib.hid hI
 have Hgood:=Lib.hid hgood
 clear hI hgood
 go_enter Try.func42,Try.ntmps42
 go_wp2_with fail
 refine (level_ref Hgood.out (Reads.of_owns HI.out.nodes) id).mono ?_
 rintro e w' ⟨rfl,o,rfl⟩
 go_wp2
 go_ret
 exact⟨rfl,by (repeat first|exact Fr.refl _ _|assumption|apply Fr.n|apply Fr.d|apply Fr.a|refine Fr.s ?_ (.inr (by simp;try omega)) _)⟩
set_option maxHeartbeats 2000000 in
theorem RKids_calls {w:World} {b:Nat} {s:Int} {ns:List K4} {F:List Nat} (hS:RefAt w b s ns F) (id:Int) :
  Calls Try.prog 51 #[.pointer (some ⟨b,0,none⟩),.int .i64 id] w fun e w'=>e=.returned (.tuple #[kv (kidsOf s ns id).1,.bool (kidsOf s ns id).2])∧Fr [] w w':=by
 obtain⟨hgood,nv,hI,rfl⟩:=hS
 obtain⟨na,nc,rfl,hna,_⟩:=oFM hI.nodes
 have b0:=hEC hI.blk 0
 have b1:=hEC hI.blk 1
 have hb:=lBk hI.blk
 have hs1:2≤s:=hgood.1
 have hs2:s≤8:=hgood.2.1
 have hn:ns.length≤1048576:=by have:=hgood.2.2.1;omega
 have HI:=Lib.hid hI
 have Hna:=Lib.hid hna
 clear hI hgood hna
 unfold kidsOf
 by_cases hst:id<s
 ·rw [if_pos hst]
  unfold kv
  go_enter Try.func51,Try.ntmps51
  go_wp2
  (refine wRT (by kernel_rfl) (by kernel_rfl) ?_)
  go_wp2
  refine Strict.intro rfl ?_
  go_wp2
  exact bodyPost_ret (v:=.tuple #[.agg #[.int .i64 0,.int .i64 0,.int .i64 0,.int .i64 0],.bool false]) (by simp [results,Try.results51,go_sem]) rfl ⟨rfl,by (repeat first|exact Fr.refl _ _|assumption|apply Fr.n|apply Fr.d|apply Fr.a|refine Fr.s ?_ (.inr (by simp;try omega)) _)⟩
 ·rw [if_neg hst]
  by_cases hfar:s+ns.length≤id
  ·rw [List.getElem?_eq_none (by omega)]
   unfold kv
   go_enter Try.func51,Try.ntmps51
   go_wp2
   (refine wRT (by kernel_rfl) (by kernel_rfl) ?_)
   go_wp2
   refine Strict.intro rfl ?_
   go_wp2
   exact bodyPost_ret (v:=.tuple #[.agg #[.int .i64 0,.int .i64 0,.int .i64 0,.int .i64 0],.bool false]) (by simp [results,Try.results51,go_sem]) rfl ⟨rfl,by (repeat first|exact Fr.refl _ _|assumption|apply Fr.n|apply Fr.d|apply Fr.a|refine Fr.s ?_ (.inr (by simp;try omega)) _)⟩
  ·obtain⟨i,rfl⟩:∃ i:Nat,id=s+i:=⟨(id - s).toNat,by omega⟩
   have hi:i<ns.length:=by omega
   rw [show (s+(i:Int) - s).toNat=i by omega,List.getElem?_eq_getElem hi]
   obtain⟨g,rfl⟩:=Hna.out (by omega)
   obtain⟨f0,f1,f2,f3⟩:=flat_get (List.getElem?_eq_getElem hi)
   rw [Nat.mul_comm] at f0 f1 f2 f3
   obtain⟨k,hk⟩:∃ k,k=ns[i]:=⟨_,rfl⟩
   rw [← hk] at f0 f1 f2 f3 ⊢
   have e0:=owns_cell HI.out.nodes rfl f0
   have e1:=owns_cell HI.out.nodes rfl f1
   have e2:=owns_cell HI.out.nodes rfl f2
   have e3:=owns_cell HI.out.nodes rfl f3
   have hg:=oLT HI.out.nodes rfl
   have hw1:IntKind.i64.wrap (s+↑i - s)=↑i:=IntWalk.i64_in _ (by omega) |>.trans (by omega)
   clear f0 f1 f2 f3 hk hst hfar
   unfold kv
   go_enter Try.func51,Try.ntmps51
   go_wp2
   (refine wRT (by kernel_rfl) (by kernel_rfl) ?_)
   go_wp2
   refine Strict.intro rfl ?_
   go_wp2
   (refine wRT (by kernel_rfl) (by kernel_rfl) ?_)
   go_wp2
   refine Strict.intro rfl ?_
   go_wp2
   exact bodyPost_ret (v:=.tuple #[.agg #[.int .i64 k.a,.int .i64 k.b,.int .i64 k.c,.int .i64 k.d],.bool true]) (by simp [results,Try.results51,go_sem]) rfl ⟨rfl,by (repeat first|exact Fr.refl _ _|assumption|apply Fr.n|apply Fr.d|apply Fr.a|refine Fr.s ?_ (.inr (by simp;try omega)) _)⟩
set_option maxHeartbeats 2000000 in
theorem RData_calls {w:World} {b:Nat} {s:Int} {ns:List K4} {F:List Nat} (hS:RefAt w b s ns F) :
  Calls Try.prog 32 #[.pointer (some ⟨b,0,none⟩)] w (CopyPost w s ns):=by
 obtain⟨hgood,nv,hI,rfl⟩:=hS
 obtain⟨na,nc,rfl,_,_⟩:=oFM hI.nodes
 have b0:=hEC hI.blk 0
 have b1:=hEC hI.blk 1
 have hb:=lBk hI.blk
 have HI:=Lib.hid hI
 have Hgood:=Lib.hid hgood
 clear hI hgood
 go_enter Try.func32,Try.ntmps32
 go_wp2_with fail
 refine (copied_ref (s:=s) (by have:=Hgood.out.2.2.1;omega) ((Reads.of_owns HI.out.nodes).fr (by (repeat first|exact Fr.refl _ _|assumption|apply Fr.n|apply Fr.d|apply Fr.a|refine Fr.s ?_ (.inr (by simp;try omega)) _)))).mono ?_
 rintro e w1 ⟨v,rfl,ho,hf⟩
 have hl:w1.heap[w.heap.size]?=some (.cells #[.int .i64 0,.slice none 0 0] 39 (0,0)):=(hf.block _ (by rw [hAz];omega) (by simp)).trans (by (repeat first|rw [if_pos (by omega)]|rw [if_neg (by omega)]|rw [hDR]|rw [hDN]|rw [hAz]|rw [hSz]|rw [hAC]|rw [hSC]|rw [oMS]|rw [uPC]|rw [lSZ]|rw [lSS]|rfl))
 have l0:=hEC hl 0
 have l1:=hEC hl 1
 have g0:=hEF hl 0
 have g1:=hEF hl 1
 obtain⟨va,vc,rfl,hva,hvn⟩:=oFM ho
 have hne:(Value.slice va ns.length vc).ownBlock≠some w.heap.size:=fun e=>by
  have:=owns_ge ho e;rw [hAz] at this;omega
 have Ho:=Lib.hid ho
 have Hne:=Lib.hid hne
 have Hf:=Lib.hid (((Fr.refl [] w).alloc _).trans0 hf)
 clear ho hva hvn hf hl hne
 go_wp2
 exact bodyPost_ret (v:=.agg #[.int .i64 s,.slice va ns.length vc]) (by simp [results,Try.results32,go_sem,l0,l1]) rfl
  ⟨_,rfl,oOB (base:=w.heap.size) (owns_base Ho.out (by rw [hAz];omega)) fun x hx=>heap_setCell2 _ _ _ _ _ _ (fun e=>Hne.out (by rw [hx,e])),by repeat (first|exact Hf.out|apply Fr.drewN|apply Fr.drew|apply Fr.alloc|refine Fr.setCell ?_ (Or.inr (by simp)) _)⟩
end Go.Proofs.Ytppmnmheodimoaa
end
