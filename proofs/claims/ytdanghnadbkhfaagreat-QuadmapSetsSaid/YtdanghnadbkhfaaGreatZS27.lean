/- Own texts of this claim, part 28: no condition. -/
import Derived.IntWalk
import Derived.Deep.RegionHeld3
import Derived.Deep.DeepCutAuto
import Derived.Test.YtdanghnadbkhfaaGreatZS25
import Derived.Test.YtdanghnadbkhfaaGreatZS4
import Derived.Test.YtdanghnadbkhfaaGreatZS16
import Derived.Test.YtdanghnadbkhfaaGreatZS26
import Derived.Test.YtdanghnadbkhfaaGreatZS19
import Derived.Test.YtdanghnadbkhfaaGreatZS12
import Derived.Test.YtdanghnadbkhfaaGreatZS17
import Derived.Test.YtdanghnadbkhfaaGreatZS13
import Derived.Test.YtdanghnadbkhfaaGreatZS11
set_option linter.unusedVariables false
set_option linter.unusedSimpArgs false
section
namespace Go.Proofs.YtdanghnadbkhfaaGreat
open Go Go.RowKit Rg Mp Hp Qs
set_option maxHeartbeats 2000000 in
theorem RLevel_calls {w:World} {b:Nat} {s:Int} {ns:List K4} {F:List Nat} (hS:RefAt w b s ns F) (id:Int) :
  Calls Tryz.prog 43 #[.pointer (some ⟨b,0,none⟩),.int .i64 id] w fun e w'=>e=.returned (.int .i64 (lvl s (levs s ns) id))∧Fr [] w w':=by
 obtain⟨hgood,nv,hI,rfl⟩:=hS
 obtain⟨na,nc,rfl,_,_⟩:=oFM hI.nodes
 have b0:=hEC hI.blk 0
 have b1:=hEC hI.blk 1
 have HI:=Lib.hid hI
 have Hgood:=Lib.hid hgood
 clear hI hgood
 go_enter Tryz.func43,Tryz.ntmps43
 go_wp2_with fail
 refine (level_ref Hgood.out (Reads.of_owns HI.out.nodes) id).mono ?_
 rintro e w' ⟨rfl,o,rfl⟩
 go_wp2
 go_ret
 exact⟨rfl,by (repeat first|exact Fr.refl _ _|assumption|apply Fr.n|apply Fr.d|apply Fr.a|refine Fr.s ?_ (.inr (by simp;try omega)) _)⟩
set_option maxHeartbeats 2000000 in
theorem RKids_calls {w:World} {b:Nat} {s:Int} {ns:List K4} {F:List Nat} (hS:RefAt w b s ns F) (id:Int) :
  Calls Tryz.prog 44 #[.pointer (some ⟨b,0,none⟩),.int .i64 id] w fun e w'=>e=.returned (.tuple #[kv (kidsOf s ns id).1,.bool (kidsOf s ns id).2])∧Fr [] w w':=by
 obtain⟨hgood,nv,hI,rfl⟩:=hS
 obtain⟨na,nc,rfl,hna,_⟩:=oFM hI.nodes
 have b0:=hEC hI.blk 0
 have b1:=hEC hI.blk 1
 have hb:=lBk hI.blk
 have hs1:2≤s:=hgood.1
 have hs2:s≤8:=hgood.2.1
 have hn:ns.length≤1048576:=by have:=hgood.2.2.1;omega
 have HI:=Lib.hid hI
 have Hna:=Lib.hid hna
 clear hI hgood hna
 unfold kidsOf
 by_cases hst:id<s
 ·rw [if_pos hst]
  unfold kv
  go_enter Tryz.func44,Tryz.ntmps44
  go_wp2
  (refine wRT (by kernel_rfl) (by kernel_rfl) ?_)
  go_wp2
  refine Strict.intro rfl ?_
  go_wp2
  exact bodyPost_ret (v:=.tuple #[.agg #[.int .i64 0,.int .i64 0,.int .i64 0,.int .i64 0],.bool false]) (by simp [results,Tryz.results44,go_sem]) rfl ⟨rfl,by (repeat first|exact Fr.refl _ _|assumption|apply Fr.n|apply Fr.d|apply Fr.a|refine Fr.s ?_ (.inr (by simp;try omega)) _)⟩
 ·rw [if_neg hst]
  by_cases hfar:s+ns.length≤id
  ·rw [List.getElem?_eq_none (by omega)]
   unfold kv
   go_enter Tryz.func44,Tryz.ntmps44
   go_wp2
   (refine wRT (by kernel_rfl) (by kernel_rfl) ?_)
   go_wp2
   refine Strict.intro rfl ?_
   go_wp2
   exact bodyPost_ret (v:=.tuple #[.agg #[.int .i64 0,.int .i64 0,.int .i64 0,.int .i64 0],.bool false]) (by simp [results,Tryz.results44,go_sem]) rfl ⟨rfl,by (repeat first|exact Fr.refl _ _|assumption|apply Fr.n|apply Fr.d|apply Fr.a|refine Fr.s ?_ (.inr (by simp;try omega)) _)⟩
  ·obtain⟨i,rfl⟩:∃ i:Nat,id=s+i:=⟨(id - s).toNat,by omega⟩
   have hi:i<ns.length:=by omega
   rw [show (s+(i:Int) - s).toNat=i by omega,List.getElem?_eq_getElem hi]
   obtain⟨g,rfl⟩:=Hna.out (by omega)
   obtain⟨f0,f1,f2,f3⟩:=flat_get (List.getElem?_eq_getElem hi)
   rw [Nat.mul_comm] at f0 f1 f2 f3
   obtain⟨k,hk⟩:∃ k,k=ns[i]:=⟨_,rfl⟩
   rw [← hk] at f0 f1 f2 f3 ⊢
   have e0:=owns_cell HI.out.nodes rfl f0
   have e1:=owns_cell HI.out.nodes rfl f1
   have e2:=owns_cell HI.out.nodes rfl f2
   have e3:=owns_cell HI.out.nodes rfl f3
   have hg:=oLT HI.out.nodes rfl
   have hw1:IntKind.i64.wrap (s+↑i - s)=↑i:=IntWalk.i64_in _ (by omega) |>.trans (by omega)
   clear f0 f1 f2 f3 hk hst hfar
   unfold kv
   go_enter Tryz.func44,Tryz.ntmps44
   go_wp2
   (refine wRT (by kernel_rfl) (by kernel_rfl) ?_)
   go_wp2
   refine Strict.intro rfl ?_
   go_wp2
   (refine wRT (by kernel_rfl) (by kernel_rfl) ?_)
   go_wp2
   refine Strict.intro rfl ?_
   go_wp2
   exact bodyPost_ret (v:=.tuple #[.agg #[.int .i64 k.a,.int .i64 k.b,.int .i64 k.c,.int .i64 k.d],.bool true]) (by simp [results,Tryz.results44,go_sem]) rfl ⟨rfl,by (repeat first|exact Fr.refl _ _|assumption|apply Fr.n|apply Fr.d|apply Fr.a|refine Fr.s ?_ (.inr (by simp;try omega)) _)⟩
set_option maxHeartbeats 2000000 in
theorem RData_calls {w:World} {b:Nat} {s:Int} {ns:List K4} {F:List Nat} (hS:RefAt w b s ns F) :
  Calls Tryz.prog 24 #[.pointer (some ⟨b,0,none⟩)] w (CopyPost w s ns):=by
 obtain⟨hgood,nv,hI,rfl⟩:=hS
 obtain⟨na,nc,rfl,_,_⟩:=oFM hI.nodes
 have b0:=hEC hI.blk 0
 have b1:=hEC hI.blk 1
 have hb:=lBk hI.blk
 have HI:=Lib.hid hI
 have Hgood:=Lib.hid hgood
 clear hI hgood
 go_enter Tryz.func24,Tryz.ntmps24
 go_wp2_with fail
 refine (copied_ref (s:=s) (by have:=Hgood.out.2.2.1;omega) ((Reads.of_owns HI.out.nodes).fr (by (repeat first|exact Fr.refl _ _|assumption|apply Fr.n|apply Fr.d|apply Fr.a|refine Fr.s ?_ (.inr (by simp;try omega)) _)))).mono ?_
 rintro e w1 ⟨v,rfl,ho,hf⟩
 have hl:w1.heap[w.heap.size]?=some (.cells #[.int .i64 0,.slice none 0 0] 24 (0,0)):=(hf.block _ (by rw [hAz];omega) (by simp)).trans (by (repeat first|rw [if_pos (by omega)]|rw [if_neg (by omega)]|rw [hDR]|rw [hDN]|rw [hAz]|rw [hSz]|rw [hAC]|rw [hSC]|rw [oMS]|rw [uPC]|rw [lSZ]|rw [lSS]|rfl))
 have l0:=hEC hl 0
 have l1:=hEC hl 1
 have g0:=hEF hl 0
 have g1:=hEF hl 1
 obtain⟨va,vc,rfl,hva,hvn⟩:=oFM ho
 have hne:(Value.slice va ns.length vc).ownBlock≠some w.heap.size:=fun e=>by
  have:=owns_ge ho e;rw [hAz] at this;omega
 have Ho:=Lib.hid ho
 have Hne:=Lib.hid hne
 have Hf:=Lib.hid (((Fr.refl [] w).alloc _).trans0 hf)
 clear ho hva hvn hf hl hne
 go_wp2
 exact bodyPost_ret (v:=.agg #[.int .i64 s,.slice va ns.length vc]) (by simp [results,Tryz.results24,go_sem,l0,l1]) rfl
  ⟨_,rfl,oOB (base:=w.heap.size) (owns_base Ho.out (by rw [hAz];omega)) fun x hx=>heap_setCell2 _ _ _ _ _ _ (fun e=>Hne.out (by rw [hx,e])),by repeat (first|exact Hf.out|apply Fr.drewN|apply Fr.drew|apply Fr.alloc|refine Fr.setCell ?_ (Or.inr (by simp)) _)⟩
end Go.Proofs.YtdanghnadbkhfaaGreat
end
section
namespace Go.Proofs.YtdanghnadbkhfaaGreat
open Go Go.RowKit Rg Mp Hp Qs Ev
def refR (b:Nat) (s:Int) (ns:List K4):Res where
 holds w F:=RefAt w b s ns F
 keep:=fun h hk=>h.keep hk
 lt:=fun h=>h.lt
def LoadedPost (w:World) (s:Int) (ns:List K4) (e:Ending) (w':World):Prop :=
 (ns.length≤100∧GoodQ s ns→∃ b r,e=.returned (.tuple #[.pointer (some ⟨b,0,none⟩),.pointer (some ⟨r,0,none⟩),.bool true])∧Has w w' [sTR b s ns,refR r s ns]) ∧
 (¬ (ns.length≤100∧GoodQ s ns)→e=.returned (.tuple #[.pointer none,.pointer none,.bool false])∧Fr [] w w')
set_option maxHeartbeats 4000000 in
theorem loaded_q {w:World} {s:Int} {ns:List K4} {v:Value} (hv:Reads w v ns.length 4 (flat ns)) :
  Calls Tryz.prog 7 #[.agg #[.int .i64 s,v]] w (LoadedPost w s ns):=by
 have hvk:=hv
 obtain⟨_,a,c,rfl,_⟩:=hv
 have Hv:=Lib.hid hvk
 clear hvk
 by_cases hl:100<ns.length
 ·have hd:decide ((100:Int)<↑ns.length)=true:=by simp;omega
  have hd2:decide (100<ns.length)=true:=by simpa using hl
  have Hl:=Lib.hid hl
  clear hl
  go_enter Tryz.func7,Tryz.ntmps7
  go_wp2
  go_ret3
  exact⟨fun h=>by have:=Hl.out;omega,fun _=>⟨rfl,by (repeat first|exact Fr.refl _ _|assumption|apply Fr.n|apply Fr.d|apply Fr.a|refine Fr.s ?_ (.inr (by simp;try omega)) _)⟩⟩
 have hd:decide ((100:Int)<↑ns.length)=false:=by simp;omega
 have hd2:decide (100<ns.length)=false:=by simpa using hl
 have Hl:=Lib.hid hl
 clear hl
 by_cases hg:GoodQ s ns
 ·have Hg:=Lib.hid hg
  clear hg
  go_enter Tryz.func7,Tryz.ntmps7
  go_wp2_with fail
  refine (R25Right_calls (s:=s) (by have:=Hl.out;omega) (Hv.out.fr (by (repeat first|exact Fr.refl _ _|assumption|apply Fr.n|apply Fr.d|apply Fr.a|refine Fr.s ?_ (.inr (by simp;try omega)) _)))).mono ?_
  rintro e w1 ⟨rfl,hf⟩
  rw [decide_eq_true Hg.out]
  have hb:=(hf.block w.heap.size (by simp) (by simp)).trans (show _=some (.cells #[.int .i64 s,.slice a ns.length c] 24 (0,0)) by (repeat first|rw [if_pos (by omega)]|rw [if_neg (by omega)]|rw [hDR]|rw [hDN]|rw [hAz]|rw [hSz]|rw [hAC]|rw [hSC]|rw [oMS]|rw [uPC]|rw [lSZ]|rw [lSS]|rfl))
  have c0:=hEC hb 0
  have c1:=hEC hb 1
  have hbl:=lBk hb
  have Hb:=Lib.hid hb
  have Hf:=Lib.hid (Fr.trans0 (by (repeat first|exact Fr.refl _ _|assumption|apply Fr.n|apply Fr.d|apply Fr.a|refine Fr.s ?_ (.inr (by simp;try omega)) _):Fr [] w _) hf)
  clear hf hb
  go_wp2_with fail
  refine (Load_calls (s:=s) (by have:=Hl.out;omega) (Hv.out.fr Hf.out)).mono ?_
  rintro e w2 ⟨h1,_⟩
  obtain⟨b,F,rfl,hS,hf,hF⟩:=h1 Hg.out
  have h2:Has w w2 [sTR b s ns]:=(Has.nil Hf.out).new hf hS hF
  have hb:=(hf.block _ (lBk Hb.out) (by simp)).trans Hb.out
  clear c0 c1 hbl
  have c0:=hEC hb 0
  have c1:=hEC hb 1
  have hbl:=lBk hb
  have H2:=Lib.hid h2
  clear h1 hS hf hF h2 hb
  go_wp2_with fail
  refine (RLoad_calls (s:=s) (by have:=Hl.out;omega) (Hv.out.fr H2.out.fr)).mono ?_
  rintro e w3 ⟨h1,_⟩
  obtain⟨r,G,rfl,hR,hf,hG⟩:=h1 Hg.out
  have H3:=Lib.hid (show Has w w3 [refR r s ns,sTR b s ns] from H2.out.new hf hR hG)
  clear h1 hR hf hG c0 c1 hbl
  go_wp2
  go_ret3
  exact⟨fun _=>⟨b,r,rfl,H3.out.swap⟩,fun h=>absurd ⟨by have:=Hl.out;omega,Hg.out⟩ h⟩
 ·have Hg:=Lib.hid hg
  clear hg
  go_enter Tryz.func7,Tryz.ntmps7
  go_wp2_with fail
  refine (R25Right_calls (s:=s) (by have:=Hl.out;omega) (Hv.out.fr (by (repeat first|exact Fr.refl _ _|assumption|apply Fr.n|apply Fr.d|apply Fr.a|refine Fr.s ?_ (.inr (by simp;try omega)) _)))).mono ?_
  rintro e w1 ⟨rfl,hf⟩
  rw [decide_eq_false Hg.out]
  have Hf:=Lib.hid (Fr.trans0 (by (repeat first|exact Fr.refl _ _|assumption|apply Fr.n|apply Fr.d|apply Fr.a|refine Fr.s ?_ (.inr (by simp;try omega)) _):Fr [] w _) hf)
  clear hf
  go_wp2
  go_ret3
  exact⟨fun h=>absurd h.2 Hg.out,fun _=>⟨rfl,Hf.out⟩⟩
end Go.Proofs.YtdanghnadbkhfaaGreat
end
section
namespace Go.Proofs.YtdanghnadbkhfaaGreat
open Go Go.RowKit Rg Hp Pt
end Go.Proofs.YtdanghnadbkhfaaGreat
end
section
namespace Go.Proofs.Hp
open Go Go.RowKit
theorem Seps.join {w:World}:∀ {Qs Ps:List Res} {G F:List Nat},Seps w Qs G→Seps w Ps F→(∀ x∈G,x∉F)→Seps w (Qs++Ps) (G++F)
 | [],_,_,_,h,k,_=>by rw [show _=[] from h];exact k
 | Q::Qs,Ps,G,F,⟨G1,G2,h1,h2,h3,h4⟩,k,hd=>by
  subst h4
  refine⟨G1,G2++F,h1,Seps.join h2 k fun x hx=>hd x (by simp [hx]),fun x hx hm=>?_,List.append_assoc _ _ _⟩
  rw [List.mem_append] at hm
  rcases hm with hm|hm
  ·exact h3 x hx hm
  ·exact hd x (by simp [hx]) hm
end Go.Proofs.Hp
namespace Go.Proofs.YtdanghnadbkhfaaGreat
open Go Go.RowKit Rg Mp Hp Qs Ev Bn Pt
section
variable {W w:World} {b:Nat} {s:Int} {ns:List K4} {Ps:List Res}
theorem ref_good (h:Has W w (refR b s ns::Ps)):GoodQ s ns:=by obtain⟨F,hS⟩:=h.head;exact hS.1
theorem RLevel_has (h:Has W w (refR b s ns::Ps)) (id:Int) :
  Calls Tryz.prog 43 #[.pointer (some ⟨b,0,none⟩),.int .i64 id] w fun e w'=>e=.returned (.int .i64 (lvl s (levs s ns) id))∧Fr [] w w':=by
 obtain⟨F,hS⟩:=h.head
 exact RLevel_calls hS id
theorem RKids_has (h:Has W w (refR b s ns::Ps)) (id:Int) :
  Calls Tryz.prog 44 #[.pointer (some ⟨b,0,none⟩),.int .i64 id] w fun e w'=>e=.returned (.tuple #[kv (kidsOf s ns id).1,.bool (kidsOf s ns id).2])∧Fr [] w w':=by
 obtain⟨F,hS⟩:=h.head
 exact RKids_calls hS id
theorem RData_has (h:Has W w (refR b s ns::Ps)) :
  Calls Tryz.prog 24 #[.pointer (some ⟨b,0,none⟩)] w fun e w'=>∃ v,e=.returned (.agg #[.int .i64 s,v])∧Has W w' (Hp.row 105 4 v ns.length (flat ns)::refR b s ns::Ps):=by
 obtain⟨F,hS⟩:=h.head
 refine (RData_calls hS).mono ?_
 rintro e w' ⟨v,rfl,ho,hf⟩
 exact⟨v,rfl,h.newRow hf ho⟩
theorem RJoin_has (h:Has W w (refR b s ns::Ps)) (hlen:ns.length<90000) (x:K4) :
  Calls Tryz.prog 76 #[.pointer (some ⟨b,0,none⟩),.int .i64 x.a,.int .i64 x.b,.int .i64 x.c,.int .i64 x.d] w fun e w'=>e=.returned (.tuple #[.int .i64 (join s ns x).1.1,.int .i64 (join s ns x).1.2])∧Has W w' (refR b s (join s ns x).2::Ps) :=
 h.upd (P':=refR b s (join s ns x).2) fun F hS=>RJoin_calls hS hlen x
theorem REmpty_has (h:Has W w (refR b s ns::Ps)) (hlen:ns.length+256≤90000) (level:Int) :
  Calls Tryz.prog 77 #[.pointer (some ⟨b,0,none⟩),.int .i64 level] w fun e w'=>e=.returned (.tuple #[.int .i64 (emptyQ s ns level).1.1,.int .i64 (emptyQ s ns level).1.2])∧Has W w' (refR b s (emptyQ s ns level).2::Ps) :=
 h.upd (P':=refR b s (emptyQ s ns level).2) fun F hS=>REmpty_calls hS hlen level
end
theorem run_field_states (w:World) (s:Int) (a:Option Addr) (n c:Nat):(Instr.field 24 (.agg #[.int .i64 s,.slice a n c]) 0).run Tryz.prog w=.ok (.int .i64 s) w:=by
 simp [Instr.field,Sem.run_bind,run_underlying,Tryz.underlying24,part,go_sem,asAgg,isAgg,Tryz.underlying3]
end Go.Proofs.YtdanghnadbkhfaaGreat
end
section
namespace Go.Proofs.YtdanghnadbkhfaaGreat
open Go Go.RowKit Rg Mp Hp Qs Ev Bn Pt
def BOk (s:Int) (ns:List K4) (B:List BV):Prop:=∀ (j:Nat) (e:BV),B[j]?=some e→e.1=popT (tr s ns (j:Nat))
theorem BOk.snoc {s:Int} {ns:List K4} {B:List BV} (h:BOk s ns B) {e:BV} (he:e.1=popT (tr s ns (B.length:Nat))):BOk s ns (B++[e]):=fun j x hx=>by
 by_cases hj:j<B.length
 ·rw [List.getElem?_append_left hj] at hx;exact h j x hx
 ·rw [List.getElem?_append_right (by omega)] at hx
  have:j - B.length=0:=by
   rcases Nat.eq_zero_or_pos (j - B.length) with h0|h0
   ·exact h0
   ·rw [List.getElem?_eq_none (by simp;omega)] at hx;cases hx
  rw [this] at hx
  simp only [List.getElem?_cons_zero,Option.some.injEq] at hx
  subst hx
  rw [show j=B.length by omega];exact he
end Go.Proofs.YtdanghnadbkhfaaGreat
end
section
namespace Go.Proofs.Pt
end Go.Proofs.Pt
namespace Go.Proofs.YtdanghnadbkhfaaGreat
open Go Go.RowKit Rg Mp Hp Pt
end Go.Proofs.YtdanghnadbkhfaaGreat
end
section
namespace Go.Proofs.YtdanghnadbkhfaaGreat
open Go Go.RowKit Rg Mp Hp Qs Ev Bn Pt
end Go.Proofs.YtdanghnadbkhfaaGreat
end
section
namespace Go.Proofs.YtdanghnadbkhfaaGreat
open Go Go.RowKit Rg Mp Hp Qs Ev Bn Pt
structure FrSt (W wr:World) (b:Nat) (s:Int) (ns:List K4) (Ps:List Res) (p:List PC) (x y:Int) (L i:Nat) (v:Value) (E:List SV) (PL:List BV):Prop where
 le:i≤p.length
 mp:E.map SV.spot=(p.take i).map (spot x y)
 all:(p.take i).all (inC x y L)=true
 el:∀ e∈E,e.X∈PL∧e.Y∈PL
 has:Has W wr (Hp.row 117 5 v E.length (svs E)::poolR PL::refR b s ns::Ps)
theorem FrSt.len {W wr:World} {b:Nat} {s:Int} {ns:List K4} {Ps:List Res} {p:List PC} {x y:Int} {L i:Nat} {v:Value} {E:List SV} {PL:List BV} (h:FrSt W wr b s ns Ps p x y L i v E PL):E.length≤p.length:=by
 have:=congrArg List.length h.mp
 rw [map_spot_len,List.length_map,List.length_take] at this
 omega
theorem FrSt.add {W wr w2:World} {b:Nat} {s:Int} {ns:List K4} {Ps:List Res} {p:List PC} {x y:Int} {L i:Nat} {v v2:Value} {E:List SV} {PL:List BV} (h:FrSt W wr b s ns Ps p x y L i v E PL) {c:PC} {e:SV} (hc:p[i]?=some c) (hi:inC x y L c=true) (he:e.spot=spot x y c)
  (hw:Has W w2 (Hp.row 117 5 v2 (E++[e]).length (svs (E++[e]))::poolR (e.Y::e.X::PL)::refR b s ns::Ps)):FrSt W w2 b s ns Ps p x y L (i+1) v2 (E++[e]) (e.Y::e.X::PL) :=
 ⟨(
  List.getElem?_eq_some_iff.1 hc).1,by rw [List.map_append,h.mp,List.take_add_one,hc,List.map_append];show _++[e.spot]=_++[spot x y c];rw [he],all_take h.all hc hi,fun z hz=>by
  rw [List.mem_append] at hz
  rcases hz with hz|hz
  ·have:=h.el z hz;exact⟨by simp [this.1],by simp [this.2]⟩
  ·rw [List.mem_singleton] at hz;subst hz;simp,hw⟩
end Go.Proofs.YtdanghnadbkhfaaGreat
end
section
namespace Go.Proofs.YtdanghnadbkhfaaGreat
open Go Go.RowKit Rg Mp Hp Qs Ev Bn Pt
abbrev IV:=Int×Option Addr×Nat
def ivF (p:IV):List Nat:=if (zd p.1).length=0 then [] else (Value.slice p.2.1 (zd p.1).length p.2.2).ownBlock.toList
def poolI (L:List IV):Res where
 holds w F:=(∀ e∈L,BigIn w (decide (e.1<0)) (zd e.1) e.2.1 e.2.2∧∀ x∈ivF e,x∈F)∧∀ x∈F,x<w.heap.size
 keep:=fun {w w' F} ⟨h1,h2⟩ hk=>⟨fun e he=>⟨big_keep (h1 e he).1 fun x hx=>hk x ((h1 e he).2 x hx),(h1 e he).2⟩,fun x hx=>by
  obtain⟨o,ho⟩:∃ o,w.heap[x]?=some o:=⟨_,Array.getElem?_eq_getElem (h2 x hx)⟩
  exact lBk ((hk x hx).trans ho)⟩
 lt:=fun ⟨_,h2⟩=>h2
structure SI where
 X:IV
 Y:IV
 st:Int
def SI.pc (e:SI):PC:=⟨e.X.1,e.Y.1,e.st⟩
def siE (e:SI):List Value:=[.bool (decide (e.X.1<0)),.slice e.X.2.1 (zd e.X.1).length e.X.2.2,.bool (decide (e.Y.1<0)),.slice e.Y.2.1 (zd e.Y.1).length e.Y.2.2,.int .i64 e.st]
def sis (l:List SI):List Value:=l.flatMap siE
def rowI (v:Value) (E:List SI):Res:=Hp.row 117 5 v E.length (sis E)
end Go.Proofs.YtdanghnadbkhfaaGreat
end
section
namespace Go.Proofs.YtdanghnadbkhfaaGreat
open Go Go.RowKit Rg Mp Hp Qs Ev Bn Pt
end Go.Proofs.YtdanghnadbkhfaaGreat
end
section
namespace Go.Proofs.YtdanghnadbkhfaaGreat
open Go Go.RowKit Rg Mp Hp Qs Ev Bn Pt
structure CSt (W wr:World) (E:List SI) (PL:List IV) (C:List PC) (a':Option Addr) (c':Nat) (E':List SI) (PL':List IV) (Rs:List Res):Prop where
 mp:E'.map SI.pc=E.map SI.pc++C
 el:∀ e∈E',e.X∈PL'∧e.Y∈PL'
 sub:∀ z∈PL,z∈PL'
 has:Has W wr (rowI (.slice a' E'.length c') E'::poolI PL'::Rs)
theorem CSt.len {W wr:World} {E:List SI} {PL:List IV} {C:List PC} {a':Option Addr} {c':Nat} {E':List SI} {PL':List IV} {Rs:List Res} (h:CSt W wr E PL C a' c' E' PL' Rs):E'.length=E.length+C.length:=by
 have:=congrArg List.length h.mp
 simpa using this
end Go.Proofs.YtdanghnadbkhfaaGreat
end
section
namespace Go.Proofs.YtdanghnadbkhfaaGreat
open Go Go.RowKit Rg Mp Hp Pt
end Go.Proofs.YtdanghnadbkhfaaGreat
end
section
namespace Go.Proofs.YtdanghnadbkhfaaGreat
open Go Go.RowKit Rg Mp Hp Qs Ev Bn Pt
theorem Rknown_q {W w:World} {b:Nat} {s:Int} {ns:List K4} {Ps:List Res} (h:Has W w (refR b s ns::Ps)) (id:Int) :
  Calls Tryz.prog 48 #[.pointer (some ⟨b,0,none⟩),.int .i64 id] w fun e w'=>e=.returned (.int .i64 (knownQ s ns id))∧Fr [] w w':=by
 have HL:=Lib.hid (fun w1 (hf:Fr [] w w1)=>RLevel_has (h.step hf) id)
 unfold knownQ
 obtain⟨l,hl⟩:∃ l,lvl s (levs s ns) id=l:=⟨_,rfl⟩
 rw [hl] at HL ⊢
 clear h hl
 by_cases h0:l<0
 ·rw [if_pos h0]
  have hd:decide (l<0)=true:=by simpa using h0
  clear h0
  go_enter Tryz.func48,Tryz.ntmps48
  go_wp2_with fail
  refine (HL.out _ (by (repeat first|exact Fr.refl _ _|assumption|apply Fr.n|apply Fr.d|apply Fr.a|refine Fr.s ?_ (.inr (by simp;try omega)) _))).mono ?_
  rintro e w1 ⟨rfl,hf⟩
  have Hf:=Lib.hid (Fr.trans0 (by (repeat first|exact Fr.refl _ _|assumption|apply Fr.n|apply Fr.d|apply Fr.a|refine Fr.s ?_ (.inr (by simp;try omega)) _):Fr [] w _) hf)
  clear hf
  go_wp2
  go_ret
  exact⟨rfl,Hf.out.trans0 (by (repeat first|exact Fr.refl _ _|assumption|apply Fr.n|apply Fr.d|apply Fr.a|refine Fr.s ?_ (.inr (by simp;try omega)) _))⟩
 ·rw [if_neg h0]
  have hd:decide (l<0)=false:=by simpa using h0
  clear h0
  go_enter Tryz.func48,Tryz.ntmps48
  go_wp2_with fail
  refine (HL.out _ (by (repeat first|exact Fr.refl _ _|assumption|apply Fr.n|apply Fr.d|apply Fr.a|refine Fr.s ?_ (.inr (by simp;try omega)) _))).mono ?_
  rintro e w1 ⟨rfl,hf⟩
  have Hf:=Lib.hid (Fr.trans0 (by (repeat first|exact Fr.refl _ _|assumption|apply Fr.n|apply Fr.d|apply Fr.a|refine Fr.s ?_ (.inr (by simp;try omega)) _):Fr [] w _) hf)
  clear hf
  go_wp2
  go_ret
  exact⟨rfl,Hf.out.trans0 (by (repeat first|exact Fr.refl _ _|assumption|apply Fr.n|apply Fr.d|apply Fr.a|refine Fr.s ?_ (.inr (by simp;try omega)) _))⟩
end Go.Proofs.YtdanghnadbkhfaaGreat
end
section
namespace Go.Proofs.YtdanghnadbkhfaaGreat
open Go Go.RowKit Rg Mp Hp Qs Ev Bn Pt
set_option maxHeartbeats 8000000 in
set_option maxRecDepth 100000 in
theorem Rinside_q {W w:World} {b:Nat} {s:Int} {ns:List K4} {Ps:List Res} (h:Has W w (refR b s ns::Ps)) (id:Int) {nx ny:Bool} {dx dy:List Nat} {ax ay:Option Addr} {cx cy:Nat} (hx:BigIn w nx dx ax cx) (hy:BigIn w ny dy ay cy) :
  Calls Tryz.prog 42 #[.pointer (some ⟨b,0,none⟩),.int .i64 id,.agg #[.bool nx,.slice ax dx.length cx],.agg #[.bool ny,.slice ay dy.length cy]] w fun e w' =>
   e=.returned (.int .i64 (placeE (lvl s (levs s ns) id) nx dx ny dy))∧Fr [] w w':=by
 have hg:=ref_good h
 have HKN:=Lib.hid (fun w1 (hf:Fr [] w w1)=>Rknown_q (h.step hf) id)
 have HLV:=Lib.hid (fun w1 (hf:Fr [] w w1)=>RLevel_has (h.step hf) id)
 have HRX:=Lib.hid (fun w1 (hf:Fr [] w w1)=>RRight_calls (neg:=nx) (hx.fr hf).rd hx.big)
 have HRY:=Lib.hid (fun w1 (hf:Fr [] w w1)=>RRight_calls (neg:=ny) (hy.fr hf).rd hy.big)
 unfold knownQ at HKN
 unfold placeE
 by_cases h0:lvl s (levs s ns) id<0
 ·rw [if_pos h0] at HKN ⊢
  clear h hg hx hy h0
  go_enter Tryz.func42,Tryz.ntmps42
  go_wp2_with fail
  refine (HKN.out _ (by (repeat first|exact Fr.refl _ _|assumption|apply Fr.n|apply Fr.d|apply Fr.a|refine Fr.s ?_ (.inr (by simp;try omega)) _))).mono ?_
  rintro e w1 ⟨rfl,hf⟩
  have hx_:=(hf.block (w.heap.size) (by first|(simp;done)|(simp;omega)) (by simp)).trans (show _=some (.cells #[.bool nx,.slice ax dx.length cx] 27 (0,0)) by (repeat first|rw [if_pos (by omega)]|rw [if_neg (by omega)]|rw [hDR]|rw [hDN]|rw [hAz]|rw [hSz]|rw [hAC]|rw [hSC]|rw [oMS]|rw [uPC]|rw [lSZ]|rw [lSS]|rfl))
  have x0:=hEC hx_ 0
  have x1:=hEC hx_ 1
  have xl:=lBk hx_
  have Hx:=Lib.hid hx_
  clear hx_
  have hy_:=(hf.block (w.heap.size+1) (by first|(simp;done)|(simp;omega)) (by simp)).trans (show _=some (.cells #[.bool ny,.slice ay dy.length cy] 27 (0,0)) by (repeat first|rw [if_pos (by omega)]|rw [if_neg (by omega)]|rw [hDR]|rw [hDN]|rw [hAz]|rw [hSz]|rw [hAC]|rw [hSC]|rw [oMS]|rw [uPC]|rw [lSZ]|rw [lSS]|rfl))
  have y0:=hEC hy_ 0
  have y1:=hEC hy_ 1
  have yl:=lBk hy_
  have Hy:=Lib.hid hy_
  clear hy_
  have Hf:=Lib.hid (Fr.trans0 (by (repeat first|exact Fr.refl _ _|assumption|apply Fr.n|apply Fr.d|apply Fr.a|refine Fr.s ?_ (.inr (by simp;try omega)) _):Fr [] w _) hf)
  clear hf
  go_wp2
  go_ret
  exact⟨rfl,Hf.out.trans0 (by (repeat first|exact Fr.refl _ _|assumption|apply Fr.n|apply Fr.d|apply Fr.a|refine Fr.s ?_ (.inr (by simp;try omega)) _))⟩
 rw [if_neg h0] at HKN ⊢
 cases hrx:RightB nx dx with
 | false =>
  rw [hrx] at HRX
  simp only [Bool.false_and,if_true]
  clear h hg hx hy h0 hrx
  go_enter Tryz.func42,Tryz.ntmps42
  go_wp2_with fail
  refine (HKN.out _ (by (repeat first|exact Fr.refl _ _|assumption|apply Fr.n|apply Fr.d|apply Fr.a|refine Fr.s ?_ (.inr (by simp;try omega)) _))).mono ?_
  rintro e w1 ⟨rfl,hf⟩
  have hx_:=(hf.block (w.heap.size) (by first|(simp;done)|(simp;omega)) (by simp)).trans (show _=some (.cells #[.bool nx,.slice ax dx.length cx] 27 (0,0)) by (repeat first|rw [if_pos (by omega)]|rw [if_neg (by omega)]|rw [hDR]|rw [hDN]|rw [hAz]|rw [hSz]|rw [hAC]|rw [hSC]|rw [oMS]|rw [uPC]|rw [lSZ]|rw [lSS]|rfl))
  have x0:=hEC hx_ 0
  have x1:=hEC hx_ 1
  have xl:=lBk hx_
  have Hx:=Lib.hid hx_
  clear hx_
  have hy_:=(hf.block (w.heap.size+1) (by first|(simp;done)|(simp;omega)) (by simp)).trans (show _=some (.cells #[.bool ny,.slice ay dy.length cy] 27 (0,0)) by (repeat first|rw [if_pos (by omega)]|rw [if_neg (by omega)]|rw [hDR]|rw [hDN]|rw [hAz]|rw [hSz]|rw [hAC]|rw [hSC]|rw [oMS]|rw [uPC]|rw [lSZ]|rw [lSS]|rfl))
  have y0:=hEC hy_ 0
  have y1:=hEC hy_ 1
  have yl:=lBk hy_
  have Hy:=Lib.hid hy_
  clear hy_
  have Hf:=Lib.hid (Fr.trans0 (by (repeat first|exact Fr.refl _ _|assumption|apply Fr.n|apply Fr.d|apply Fr.a|refine Fr.s ?_ (.inr (by simp;try omega)) _):Fr [] w _) hf)
  clear hf
  go_wp2_with fail
  refine (HRX.out _ (Hf.out.trans0 (by (repeat first|exact Fr.refl _ _|assumption|apply Fr.n|apply Fr.d|apply Fr.a|refine Fr.s ?_ (.inr (by simp;try omega)) _)))).mono ?_
  rintro e w2 ⟨rfl,hf⟩
  (try clear x0)
  (try clear x1)
  (try clear xl)
  have hx_:=(hf.block _ (lBk Hx.out) (by simp)).trans Hx.out
  clear Hx
  have x0:=hEC hx_ 0
  have x1:=hEC hx_ 1
  have xl:=lBk hx_
  have Hx:=Lib.hid hx_
  clear hx_
  (try clear y0)
  (try clear y1)
  (try clear yl)
  have hy_:=(hf.block _ (lBk Hy.out) (by simp)).trans Hy.out
  clear Hy
  have y0:=hEC hy_ 0
  have y1:=hEC hy_ 1
  have yl:=lBk hy_
  have Hy:=Lib.hid hy_
  clear hy_
  have Hf:=Lib.hid (Hf.out.trans0 (Fr.trans0 (by (repeat first|exact Fr.refl _ _|assumption|apply Fr.n|apply Fr.d|apply Fr.a|refine Fr.s ?_ (.inr (by simp;try omega)) _)) hf))
  clear hf
  go_wp2
  go_ret
  exact⟨rfl,Hf.out.trans0 (by (repeat first|exact Fr.refl _ _|assumption|apply Fr.n|apply Fr.d|apply Fr.a|refine Fr.s ?_ (.inr (by simp;try omega)) _))⟩
 | true =>
 rw [hrx] at HRX
 cases hry:RightB ny dy with
 | false =>
  rw [hry] at HRY
  simp only [Bool.and_false,if_true]
  clear h hg hx hy h0 hrx hry
  go_enter Tryz.func42,Tryz.ntmps42
  go_wp2_with fail
  refine (HKN.out _ (by (repeat first|exact Fr.refl _ _|assumption|apply Fr.n|apply Fr.d|apply Fr.a|refine Fr.s ?_ (.inr (by simp;try omega)) _))).mono ?_
  rintro e w1 ⟨rfl,hf⟩
  have hx_:=(hf.block (w.heap.size) (by first|(simp;done)|(simp;omega)) (by simp)).trans (show _=some (.cells #[.bool nx,.slice ax dx.length cx] 27 (0,0)) by (repeat first|rw [if_pos (by omega)]|rw [if_neg (by omega)]|rw [hDR]|rw [hDN]|rw [hAz]|rw [hSz]|rw [hAC]|rw [hSC]|rw [oMS]|rw [uPC]|rw [lSZ]|rw [lSS]|rfl))
  have x0:=hEC hx_ 0
  have x1:=hEC hx_ 1
  have xl:=lBk hx_
  have Hx:=Lib.hid hx_
  clear hx_
  have hy_:=(hf.block (w.heap.size+1) (by first|(simp;done)|(simp;omega)) (by simp)).trans (show _=some (.cells #[.bool ny,.slice ay dy.length cy] 27 (0,0)) by (repeat first|rw [if_pos (by omega)]|rw [if_neg (by omega)]|rw [hDR]|rw [hDN]|rw [hAz]|rw [hSz]|rw [hAC]|rw [hSC]|rw [oMS]|rw [uPC]|rw [lSZ]|rw [lSS]|rfl))
  have y0:=hEC hy_ 0
  have y1:=hEC hy_ 1
  have yl:=lBk hy_
  have Hy:=Lib.hid hy_
  clear hy_
  have Hf:=Lib.hid (Fr.trans0 (by (repeat first|exact Fr.refl _ _|assumption|apply Fr.n|apply Fr.d|apply Fr.a|refine Fr.s ?_ (.inr (by simp;try omega)) _):Fr [] w _) hf)
  clear hf
  go_wp2_with fail
  refine (HRX.out _ (Hf.out.trans0 (by (repeat first|exact Fr.refl _ _|assumption|apply Fr.n|apply Fr.d|apply Fr.a|refine Fr.s ?_ (.inr (by simp;try omega)) _)))).mono ?_
  rintro e w2 ⟨rfl,hf⟩
  (try clear x0)
  (try clear x1)
  (try clear xl)
  have hx_:=(hf.block _ (lBk Hx.out) (by simp)).trans Hx.out
  clear Hx
  have x0:=hEC hx_ 0
  have x1:=hEC hx_ 1
  have xl:=lBk hx_
  have Hx:=Lib.hid hx_
  clear hx_
  (try clear y0)
  (try clear y1)
  (try clear yl)
  have hy_:=(hf.block _ (lBk Hy.out) (by simp)).trans Hy.out
  clear Hy
  have y0:=hEC hy_ 0
  have y1:=hEC hy_ 1
  have yl:=lBk hy_
  have Hy:=Lib.hid hy_
  clear hy_
  have Hf:=Lib.hid (Hf.out.trans0 (Fr.trans0 (by (repeat first|exact Fr.refl _ _|assumption|apply Fr.n|apply Fr.d|apply Fr.a|refine Fr.s ?_ (.inr (by simp;try omega)) _)) hf))
  clear hf
  go_wp2_with fail
  refine (HRY.out _ (Hf.out.trans0 (by (repeat first|exact Fr.refl _ _|assumption|apply Fr.n|apply Fr.d|apply Fr.a|refine Fr.s ?_ (.inr (by simp;try omega)) _)))).mono ?_
  rintro e w3 ⟨rfl,hf⟩
  (try clear x0)
  (try clear x1)
  (try clear xl)
  have hx_:=(hf.block _ (lBk Hx.out) (by simp)).trans Hx.out
  clear Hx
  have x0:=hEC hx_ 0
  have x1:=hEC hx_ 1
  have xl:=lBk hx_
  have Hx:=Lib.hid hx_
  clear hx_
  (try clear y0)
  (try clear y1)
  (try clear yl)
  have hy_:=(hf.block _ (lBk Hy.out) (by simp)).trans Hy.out
  clear Hy
  have y0:=hEC hy_ 0
  have y1:=hEC hy_ 1
  have yl:=lBk hy_
  have Hy:=Lib.hid hy_
  clear hy_
  have Hf:=Lib.hid (Hf.out.trans0 (Fr.trans0 (by (repeat first|exact Fr.refl _ _|assumption|apply Fr.n|apply Fr.d|apply Fr.a|refine Fr.s ?_ (.inr (by simp;try omega)) _)) hf))
  clear hf
  go_wp2
  go_ret
  exact⟨rfl,Hf.out.trans0 (by (repeat first|exact Fr.refl _ _|assumption|apply Fr.n|apply Fr.d|apply Fr.a|refine Fr.s ?_ (.inr (by simp;try omega)) _))⟩
 | true =>
 rw [hry] at HRY
 simp only [Bool.and_true,Bool.true_eq_false,if_false]
 obtain⟨n,hn,hn256,hi⟩:=level_nat hg (id:=id) (by omega)
 obtain⟨X,zx,ex1,ex2,bx⟩:=hx.z hrx
 obtain⟨Y,zy,ey1,ey2,by'⟩:=hy.z hry
 have hsx:sv nx dx=X:=by rw [ex1,ex2,zd_sv]
 have hsy:sv ny dy=Y:=by rw [ey1,ey2,zd_sv]
 obtain⟨L9,hL9⟩:∃ L9:Int,((n:Nat):Int)=L9:=⟨_,rfl⟩
 have HLX:=Lib.hid (fun w1 (hf:Fr [] w w1)=>Rless_z (bx.fr0 hf) zx (n:=n) (by omega))
 have HLY:=Lib.hid (fun w1 (hf:Fr [] w w1)=>Rless_z (by'.fr0 hf) zy (n:=n) (by omega))
 rw [hL9] at HLX HLY
 rw [hn,hL9] at HLV
 rw [hn,Int.toNat_natCast,hsx,hsy]
 obtain⟨o1,ho1⟩:∃ o,lessB X n=o:=⟨_,rfl⟩
 obtain⟨o2,ho2⟩:∃ o,lessB Y n=o:=⟨_,rfl⟩
 rw [ho1] at HLX
 rw [ho2] at HLY
 have hres:(if 0≤X∧X<((2 ^ n:Nat):Int)∧0≤Y∧Y<((2 ^ n:Nat):Int) then (0:Int) else 5)=if o1 && o2 then 0 else 5:=by
  rw [← ho1,← ho2]
  unfold lessB
  by_cases q1:0≤X∧X<((2 ^ n:Nat):Int)
  ·by_cases q2:0≤Y∧Y<((2 ^ n:Nat):Int)
   ·rw [if_pos ⟨q1.1,q1.2,q2.1,q2.2⟩,decide_eq_true q1,decide_eq_true q2];rfl
   ·rw [if_neg fun h=>q2 ⟨h.2.2.1,h.2.2.2⟩];rw [decide_eq_false q2,Bool.and_false];simp
  ·rw [if_neg fun h=>q1 ⟨h.1,h.2.1⟩];rw [decide_eq_false q1,Bool.false_and];simp
 rw [hres]
 clear h hg hx hy h0 hrx hry hn hn256 hi zx zy ex1 ex2 ey1 ey2 bx by' hsx hsy ho1 ho2 hres hL9
 cases o1 with
 | false =>
  simp only [Bool.false_and,Bool.false_eq_true,if_false]
  go_enter Tryz.func42,Tryz.ntmps42
  go_wp2_with fail
  refine (HKN.out _ (by (repeat first|exact Fr.refl _ _|assumption|apply Fr.n|apply Fr.d|apply Fr.a|refine Fr.s ?_ (.inr (by simp;try omega)) _))).mono ?_
  rintro e w1 ⟨rfl,hf⟩
  have hx_:=(hf.block (w.heap.size) (by first|(simp;done)|(simp;omega)) (by simp)).trans (show _=some (.cells #[.bool nx,.slice ax dx.length cx] 27 (0,0)) by (repeat first|rw [if_pos (by omega)]|rw [if_neg (by omega)]|rw [hDR]|rw [hDN]|rw [hAz]|rw [hSz]|rw [hAC]|rw [hSC]|rw [oMS]|rw [uPC]|rw [lSZ]|rw [lSS]|rfl))
  have x0:=hEC hx_ 0
  have x1:=hEC hx_ 1
  have xl:=lBk hx_
  have Hx:=Lib.hid hx_
  clear hx_
  have hy_:=(hf.block (w.heap.size+1) (by first|(simp;done)|(simp;omega)) (by simp)).trans (show _=some (.cells #[.bool ny,.slice ay dy.length cy] 27 (0,0)) by (repeat first|rw [if_pos (by omega)]|rw [if_neg (by omega)]|rw [hDR]|rw [hDN]|rw [hAz]|rw [hSz]|rw [hAC]|rw [hSC]|rw [oMS]|rw [uPC]|rw [lSZ]|rw [lSS]|rfl))
  have y0:=hEC hy_ 0
  have y1:=hEC hy_ 1
  have yl:=lBk hy_
  have Hy:=Lib.hid hy_
  clear hy_
  have Hf:=Lib.hid (Fr.trans0 (by (repeat first|exact Fr.refl _ _|assumption|apply Fr.n|apply Fr.d|apply Fr.a|refine Fr.s ?_ (.inr (by simp;try omega)) _):Fr [] w _) hf)
  clear hf
  go_wp2_with fail
  refine (HRX.out _ (Hf.out.trans0 (by (repeat first|exact Fr.refl _ _|assumption|apply Fr.n|apply Fr.d|apply Fr.a|refine Fr.s ?_ (.inr (by simp;try omega)) _)))).mono ?_
  rintro e w2 ⟨rfl,hf⟩
  (try clear x0)
  (try clear x1)
  (try clear xl)
  have hx_:=(hf.block _ (lBk Hx.out) (by simp)).trans Hx.out
  clear Hx
  have x0:=hEC hx_ 0
  have x1:=hEC hx_ 1
  have xl:=lBk hx_
  have Hx:=Lib.hid hx_
  clear hx_
  (try clear y0)
  (try clear y1)
  (try clear yl)
  have hy_:=(hf.block _ (lBk Hy.out) (by simp)).trans Hy.out
  clear Hy
  have y0:=hEC hy_ 0
  have y1:=hEC hy_ 1
  have yl:=lBk hy_
  have Hy:=Lib.hid hy_
  clear hy_
  have Hf:=Lib.hid (Hf.out.trans0 (Fr.trans0 (by (repeat first|exact Fr.refl _ _|assumption|apply Fr.n|apply Fr.d|apply Fr.a|refine Fr.s ?_ (.inr (by simp;try omega)) _)) hf))
  clear hf
  go_wp2_with fail
  refine (HRY.out _ (Hf.out.trans0 (by (repeat first|exact Fr.refl _ _|assumption|apply Fr.n|apply Fr.d|apply Fr.a|refine Fr.s ?_ (.inr (by simp;try omega)) _)))).mono ?_
  rintro e w3 ⟨rfl,hf⟩
  (try clear x0)
  (try clear x1)
  (try clear xl)
  have hx_:=(hf.block _ (lBk Hx.out) (by simp)).trans Hx.out
  clear Hx
  have x0:=hEC hx_ 0
  have x1:=hEC hx_ 1
  have xl:=lBk hx_
  have Hx:=Lib.hid hx_
  clear hx_
  (try clear y0)
  (try clear y1)
  (try clear yl)
  have hy_:=(hf.block _ (lBk Hy.out) (by simp)).trans Hy.out
  clear Hy
  have y0:=hEC hy_ 0
  have y1:=hEC hy_ 1
  have yl:=lBk hy_
  have Hy:=Lib.hid hy_
  clear hy_
  have Hf:=Lib.hid (Hf.out.trans0 (Fr.trans0 (by (repeat first|exact Fr.refl _ _|assumption|apply Fr.n|apply Fr.d|apply Fr.a|refine Fr.s ?_ (.inr (by simp;try omega)) _)) hf))
  clear hf
  go_wp2
  refine wRS [([0,1,2,3],[0]),([4,5,6,7,8,9,10],[7]),([11,12,13],[])] (by kernel_rfl) (by kernel_rfl) ?_
  (simp only [wpSegs,pick,Array.getD_eq_getD_getElem?,List.getElem?_toArray,List.getElem?_cons_succ,List.getElem?_cons_zero,Option.getD_some])
  go_wp2_with fail
  refine (HLV.out _ (Hf.out.trans0 (by (repeat first|exact Fr.refl _ _|assumption|apply Fr.n|apply Fr.d|apply Fr.a|refine Fr.s ?_ (.inr (by simp;try omega)) _)))).mono ?_
  rintro e w4 ⟨rfl,hf'⟩
  have hf:Fr [] w3 w4:=Fr.trans0 (by (repeat first|exact Fr.refl _ _|assumption|apply Fr.n|apply Fr.d|apply Fr.a|refine Fr.s ?_ (.inr (by simp;try omega)) _)) hf'
  (try clear x0)
  (try clear x1)
  (try clear xl)
  have hx_:=(hf.block _ (lBk Hx.out) (by simp)).trans Hx.out
  clear Hx
  have x0:=hEC hx_ 0
  have x1:=hEC hx_ 1
  have xl:=lBk hx_
  have Hx:=Lib.hid hx_
  clear hx_
  (try clear y0)
  (try clear y1)
  (try clear yl)
  have hy_:=(hf.block _ (lBk Hy.out) (by simp)).trans Hy.out
  clear Hy
  have y0:=hEC hy_ 0
  have y1:=hEC hy_ 1
  have yl:=lBk hy_
  have Hy:=Lib.hid hy_
  clear hy_
  have Hf:=Lib.hid (Hf.out.trans0 hf)
  clear hf hf'
  go_wp2
  refine Mid.intro ⟨⟨aGR (T:=27) (cs:=[.bool nx,.slice ax dx.length cx]) rfl rfl rfl Tryz.underlying27 rfl (by kernel_rfl) (fun j v hj=>?rng1) rfl,trivial⟩,?_⟩
  case rng1 =>
   rw [Nat.zero_add,hEC Hx.out,← hj]
   exact (Array.getElem?_toList (xs:=#[Value.bool nx,.slice ax dx.length cx])).symm
  go_wp2_with fail
  refine (HLX.out _ (Hf.out.trans0 (by (repeat first|exact Fr.refl _ _|assumption|apply Fr.n|apply Fr.d|apply Fr.a|refine Fr.s ?_ (.inr (by simp;try omega)) _)))).mono ?_
  rintro e w5 ⟨rfl,hf⟩
  (try clear x0)
  (try clear x1)
  (try clear xl)
  have hx_:=(hf.block _ (lBk Hx.out) (by simp)).trans Hx.out
  clear Hx
  have x0:=hEC hx_ 0
  have x1:=hEC hx_ 1
  have xl:=lBk hx_
  have Hx:=Lib.hid hx_
  clear hx_
  (try clear y0)
  (try clear y1)
  (try clear yl)
  have hy_:=(hf.block _ (lBk Hy.out) (by simp)).trans Hy.out
  clear Hy
  have y0:=hEC hy_ 0
  have y1:=hEC hy_ 1
  have yl:=lBk hy_
  have Hy:=Lib.hid hy_
  clear hy_
  have Hf:=Lib.hid (Hf.out.trans0 (Fr.trans0 (by (repeat first|exact Fr.refl _ _|assumption|apply Fr.n|apply Fr.d|apply Fr.a|refine Fr.s ?_ (.inr (by simp;try omega)) _)) hf))
  clear hf
  go_wp2
  refine Mid.intro ⟨⟨fun o ho hw=>by obtain rfl:=Option.some.inj ho;exact absurd hw (by simp [Region.wanted,yielded]),trivial⟩,?_⟩
  go_wp2
  refine Mid.intro ⟨trivial,Strict.intro rfl ?_⟩
  go_wp2
  go_ret
  exact⟨rfl,Hf.out.trans0 (by (repeat first|exact Fr.refl _ _|assumption|apply Fr.n|apply Fr.d|apply Fr.a|refine Fr.s ?_ (.inr (by simp;try omega)) _))⟩
 | true =>
  go_enter Tryz.func42,Tryz.ntmps42
  go_wp2_with fail
  refine (HKN.out _ (by (repeat first|exact Fr.refl _ _|assumption|apply Fr.n|apply Fr.d|apply Fr.a|refine Fr.s ?_ (.inr (by simp;try omega)) _))).mono ?_
  rintro e w1 ⟨rfl,hf⟩
  have hx_:=(hf.block (w.heap.size) (by first|(simp;done)|(simp;omega)) (by simp)).trans (show _=some (.cells #[.bool nx,.slice ax dx.length cx] 27 (0,0)) by (repeat first|rw [if_pos (by omega)]|rw [if_neg (by omega)]|rw [hDR]|rw [hDN]|rw [hAz]|rw [hSz]|rw [hAC]|rw [hSC]|rw [oMS]|rw [uPC]|rw [lSZ]|rw [lSS]|rfl))
  have x0:=hEC hx_ 0
  have x1:=hEC hx_ 1
  have xl:=lBk hx_
  have Hx:=Lib.hid hx_
  clear hx_
  have hy_:=(hf.block (w.heap.size+1) (by first|(simp;done)|(simp;omega)) (by simp)).trans (show _=some (.cells #[.bool ny,.slice ay dy.length cy] 27 (0,0)) by (repeat first|rw [if_pos (by omega)]|rw [if_neg (by omega)]|rw [hDR]|rw [hDN]|rw [hAz]|rw [hSz]|rw [hAC]|rw [hSC]|rw [oMS]|rw [uPC]|rw [lSZ]|rw [lSS]|rfl))
  have y0:=hEC hy_ 0
  have y1:=hEC hy_ 1
  have yl:=lBk hy_
  have Hy:=Lib.hid hy_
  clear hy_
  have Hf:=Lib.hid (Fr.trans0 (by (repeat first|exact Fr.refl _ _|assumption|apply Fr.n|apply Fr.d|apply Fr.a|refine Fr.s ?_ (.inr (by simp;try omega)) _):Fr [] w _) hf)
  clear hf
  go_wp2_with fail
  refine (HRX.out _ (Hf.out.trans0 (by (repeat first|exact Fr.refl _ _|assumption|apply Fr.n|apply Fr.d|apply Fr.a|refine Fr.s ?_ (.inr (by simp;try omega)) _)))).mono ?_
  rintro e w2 ⟨rfl,hf⟩
  (try clear x0)
  (try clear x1)
  (try clear xl)
  have hx_:=(hf.block _ (lBk Hx.out) (by simp)).trans Hx.out
  clear Hx
  have x0:=hEC hx_ 0
  have x1:=hEC hx_ 1
  have xl:=lBk hx_
  have Hx:=Lib.hid hx_
  clear hx_
  (try clear y0)
  (try clear y1)
  (try clear yl)
  have hy_:=(hf.block _ (lBk Hy.out) (by simp)).trans Hy.out
  clear Hy
  have y0:=hEC hy_ 0
  have y1:=hEC hy_ 1
  have yl:=lBk hy_
  have Hy:=Lib.hid hy_
  clear hy_
  have Hf:=Lib.hid (Hf.out.trans0 (Fr.trans0 (by (repeat first|exact Fr.refl _ _|assumption|apply Fr.n|apply Fr.d|apply Fr.a|refine Fr.s ?_ (.inr (by simp;try omega)) _)) hf))
  clear hf
  go_wp2_with fail
  refine (HRY.out _ (Hf.out.trans0 (by (repeat first|exact Fr.refl _ _|assumption|apply Fr.n|apply Fr.d|apply Fr.a|refine Fr.s ?_ (.inr (by simp;try omega)) _)))).mono ?_
  rintro e w3 ⟨rfl,hf⟩
  (try clear x0)
  (try clear x1)
  (try clear xl)
  have hx_:=(hf.block _ (lBk Hx.out) (by simp)).trans Hx.out
  clear Hx
  have x0:=hEC hx_ 0
  have x1:=hEC hx_ 1
  have xl:=lBk hx_
  have Hx:=Lib.hid hx_
  clear hx_
  (try clear y0)
  (try clear y1)
  (try clear yl)
  have hy_:=(hf.block _ (lBk Hy.out) (by simp)).trans Hy.out
  clear Hy
  have y0:=hEC hy_ 0
  have y1:=hEC hy_ 1
  have yl:=lBk hy_
  have Hy:=Lib.hid hy_
  clear hy_
  have Hf:=Lib.hid (Hf.out.trans0 (Fr.trans0 (by (repeat first|exact Fr.refl _ _|assumption|apply Fr.n|apply Fr.d|apply Fr.a|refine Fr.s ?_ (.inr (by simp;try omega)) _)) hf))
  clear hf
  go_wp2
  refine wRS [([0,1,2,3],[0]),([4,5,6,7,8,9,10],[7]),([11,12,13],[])] (by kernel_rfl) (by kernel_rfl) ?_
  (simp only [wpSegs,pick,Array.getD_eq_getD_getElem?,List.getElem?_toArray,List.getElem?_cons_succ,List.getElem?_cons_zero,Option.getD_some])
  go_wp2_with fail
  refine (HLV.out _ (Hf.out.trans0 (by (repeat first|exact Fr.refl _ _|assumption|apply Fr.n|apply Fr.d|apply Fr.a|refine Fr.s ?_ (.inr (by simp;try omega)) _)))).mono ?_
  rintro e w4 ⟨rfl,hf'⟩
  have hf:Fr [] w3 w4:=Fr.trans0 (by (repeat first|exact Fr.refl _ _|assumption|apply Fr.n|apply Fr.d|apply Fr.a|refine Fr.s ?_ (.inr (by simp;try omega)) _)) hf'
  (try clear x0)
  (try clear x1)
  (try clear xl)
  have hx_:=(hf.block _ (lBk Hx.out) (by simp)).trans Hx.out
  clear Hx
  have x0:=hEC hx_ 0
  have x1:=hEC hx_ 1
  have xl:=lBk hx_
  have Hx:=Lib.hid hx_
  clear hx_
  (try clear y0)
  (try clear y1)
  (try clear yl)
  have hy_:=(hf.block _ (lBk Hy.out) (by simp)).trans Hy.out
  clear Hy
  have y0:=hEC hy_ 0
  have y1:=hEC hy_ 1
  have yl:=lBk hy_
  have Hy:=Lib.hid hy_
  clear hy_
  have Hf:=Lib.hid (Hf.out.trans0 hf)
  clear hf hf'
  go_wp2
  refine Mid.intro ⟨⟨aGR (T:=27) (cs:=[.bool nx,.slice ax dx.length cx]) rfl rfl rfl Tryz.underlying27 rfl (by kernel_rfl) (fun j v hj=>?rng2) rfl,trivial⟩,?_⟩
  case rng2 =>
   rw [Nat.zero_add,hEC Hx.out,← hj]
   exact (Array.getElem?_toList (xs:=#[Value.bool nx,.slice ax dx.length cx])).symm
  go_wp2_with fail
  refine (HLX.out _ (Hf.out.trans0 (by (repeat first|exact Fr.refl _ _|assumption|apply Fr.n|apply Fr.d|apply Fr.a|refine Fr.s ?_ (.inr (by simp;try omega)) _)))).mono ?_
  rintro e w5 ⟨rfl,hf⟩
  (try clear x0)
  (try clear x1)
  (try clear xl)
  have hx_:=(hf.block _ (lBk Hx.out) (by simp)).trans Hx.out
  clear Hx
  have x0:=hEC hx_ 0
  have x1:=hEC hx_ 1
  have xl:=lBk hx_
  have Hx:=Lib.hid hx_
  clear hx_
  (try clear y0)
  (try clear y1)
  (try clear yl)
  have hy_:=(hf.block _ (lBk Hy.out) (by simp)).trans Hy.out
  clear Hy
  have y0:=hEC hy_ 0
  have y1:=hEC hy_ 1
  have yl:=lBk hy_
  have Hy:=Lib.hid hy_
  clear hy_
  have Hf:=Lib.hid (Hf.out.trans0 (Fr.trans0 (by (repeat first|exact Fr.refl _ _|assumption|apply Fr.n|apply Fr.d|apply Fr.a|refine Fr.s ?_ (.inr (by simp;try omega)) _)) hf))
  clear hf
  go_wp2_with fail
  refine (HLV.out _ (Hf.out.trans0 (by (repeat first|exact Fr.refl _ _|assumption|apply Fr.n|apply Fr.d|apply Fr.a|refine Fr.s ?_ (.inr (by simp;try omega)) _)))).mono ?_
  rintro e w6 ⟨rfl,hf⟩
  (try clear x0)
  (try clear x1)
  (try clear xl)
  have hx_:=(hf.block _ (lBk Hx.out) (by simp)).trans Hx.out
  clear Hx
  have x0:=hEC hx_ 0
  have x1:=hEC hx_ 1
  have xl:=lBk hx_
  have Hx:=Lib.hid hx_
  clear hx_
  (try clear y0)
  (try clear y1)
  (try clear yl)
  have hy_:=(hf.block _ (lBk Hy.out) (by simp)).trans Hy.out
  clear Hy
  have y0:=hEC hy_ 0
  have y1:=hEC hy_ 1
  have yl:=lBk hy_
  have Hy:=Lib.hid hy_
  clear hy_
  have Hf:=Lib.hid (Hf.out.trans0 (Fr.trans0 (by (repeat first|exact Fr.refl _ _|assumption|apply Fr.n|apply Fr.d|apply Fr.a|refine Fr.s ?_ (.inr (by simp;try omega)) _)) hf))
  clear hf
  go_wp2
  refine Mid.intro ⟨⟨aGR (T:=27) (cs:=[.bool ny,.slice ay dy.length cy]) rfl rfl rfl Tryz.underlying27 rfl (by kernel_rfl) (fun j v hj=>?rng3) rfl,trivial⟩,?_⟩
  case rng3 =>
   rw [Nat.zero_add,hEC Hy.out,← hj]
   exact (Array.getElem?_toList (xs:=#[Value.bool ny,.slice ay dy.length cy])).symm
  go_wp2_with fail
  refine (HLY.out _ (Hf.out.trans0 (by (repeat first|exact Fr.refl _ _|assumption|apply Fr.n|apply Fr.d|apply Fr.a|refine Fr.s ?_ (.inr (by simp;try omega)) _)))).mono ?_
  rintro e w7 ⟨rfl,hf⟩
  have Hf:=Lib.hid (Hf.out.trans0 (Fr.trans0 (by (repeat first|exact Fr.refl _ _|assumption|apply Fr.n|apply Fr.d|apply Fr.a|refine Fr.s ?_ (.inr (by simp;try omega)) _)) hf))
  clear hf x0 x1 xl Hx y0 y1 yl Hy
  cases o2 with
  | false =>
   simp only [Bool.and_false,Bool.false_eq_true,if_false]
   go_wp2
   refine Mid.intro ⟨trivial,Strict.intro rfl ?_⟩
   go_wp2
   go_ret
   exact⟨rfl,Hf.out.trans0 (by (repeat first|exact Fr.refl _ _|assumption|apply Fr.n|apply Fr.d|apply Fr.a|refine Fr.s ?_ (.inr (by simp;try omega)) _))⟩
  | true =>
   simp only [Bool.and_self,if_true]
   go_wp2
   refine Mid.intro ⟨trivial,Strict.intro rfl ?_⟩
   go_wp2
   go_ret
   exact⟨rfl,Hf.out.trans0 (by (repeat first|exact Fr.refl _ _|assumption|apply Fr.n|apply Fr.d|apply Fr.a|refine Fr.s ?_ (.inr (by simp;try omega)) _))⟩
end Go.Proofs.YtdanghnadbkhfaaGreat
end
section
namespace Go.Proofs.YtdanghnadbkhfaaGreat
open Go Go.RowKit Rg Mp Hp Qs Ev Bn Pt
theorem kids_is {s:Int} {ns:List K4} (hg:GoodQ s ns) {n:Nat} {id:Int} {t:Tr} (h:Is s ns (n+1) id t):kidsOf s ns id=(nodeOf s ns id,true):=by
 obtain⟨h1,h2,_⟩:=h.node hg
 unfold kidsOf
 rw [if_neg (by omega),h2]
theorem Rquad_z {w:World} {nx ny:Bool} {dx dy:List Nat} {ax ay:Option Addr} {cx cy:Nat} {X Y:Int} {A B:Nat→Prop} (hx:BigZ w A (.agg #[.bool nx,.slice ax dx.length cx]) X) (hy:BigZ w B (.agg #[.bool ny,.slice ay dy.length cy]) Y) (zx:Zok X) (zy:Zok Y) (hX:0≤X) (hY:0≤Y) {n:Nat} (hn:n≤256) {L9:Int} (hL:((n+1:Nat):Int)=L9) :
  Calls Tryz.prog 45 #[.int .i64 L9,.agg #[.bool nx,.slice ax dx.length cx],.agg #[.bool ny,.slice ay dy.length cy]] w fun e w'=>e=.returned (.int .i64 (qd n X.toNat Y.toNat:Nat))∧Fr [] w w':=by
 have HBX:=Lib.hid (fun w1 (hf:Fr [] w w1)=>RBit_z (k:=n) (hx.fr0 hf) zx hX (by omega))
 have HBY:=Lib.hid (fun w1 (hf:Fr [] w w1)=>RBit_z (k:=n) (hy.fr0 hf) zy hY (by omega))
 have hL1:IntKind.i64.wrap (L9 - 1)=(n:Nat):=by rw [show L9 - 1=((n:Nat):Int) by omega];exact IntWalk.i64_in _ (by omega)
 unfold qd
 obtain⟨p,hp⟩:∃ p,X.toNat / 2 ^ n % 2=p:=⟨_,rfl⟩
 obtain⟨q,hq⟩:∃ p,Y.toNat / 2 ^ n % 2=p:=⟨_,rfl⟩
 rw [hp] at HBX ⊢
 rw [hq] at HBY ⊢
 have hp2:p<2:=by omega
 have hq2:q<2:=by omega
 clear hx hy zx zy hX hY hn hL hp hq
 go_enter Tryz.func45,Tryz.ntmps45
 go_wp2
 refine wRS [([0,1,2,4,5,6,3],[4]),([7,8,9,10],[])] (by kernel_rfl) (by kernel_rfl) ?_
 (simp only [wpSegs,pick,Array.getD_eq_getD_getElem?,List.getElem?_toArray,List.getElem?_cons_succ,List.getElem?_cons_zero,Option.getD_some])
 go_wp2_with fail
 refine (HBX.out _ (by (repeat first|exact Fr.refl _ _|assumption|apply Fr.n|apply Fr.d|apply Fr.a|refine Fr.s ?_ (.inr (by simp;try omega)) _))).mono ?_
 rintro e w1 ⟨rfl,hf⟩
 have hy_:=(hf.block (w.heap.size+1) (by first|(simp;done)|(simp;omega)) (by simp)).trans (show _=some (.cells #[.bool ny,.slice ay dy.length cy] 27 (0,0)) by (repeat first|rw [if_pos (by omega)]|rw [if_neg (by omega)]|rw [hDR]|rw [hDN]|rw [hAz]|rw [hSz]|rw [hAC]|rw [hSC]|rw [oMS]|rw [uPC]|rw [lSZ]|rw [lSS]|rfl))
 have y0:=hEC hy_ 0
 have y1:=hEC hy_ 1
 have yl:=lBk hy_
 have Hy:=Lib.hid hy_
 clear hy_
 have Hf:=Lib.hid (Fr.trans0 (by (repeat first|exact Fr.refl _ _|assumption|apply Fr.n|apply Fr.d|apply Fr.a|refine Fr.s ?_ (.inr (by simp;try omega)) _):Fr [] w _) hf)
 clear hf
 go_wp2
 refine Mid.intro ⟨⟨aGR (T:=27) (cs:=[.bool ny,.slice ay dy.length cy]) rfl rfl rfl Tryz.underlying27 rfl (by kernel_rfl) (fun j v hj=>?rng) rfl,trivial⟩,?_⟩
 case rng =>
  rw [Nat.zero_add,hEC Hy.out,← hj]
  exact (Array.getElem?_toList (xs:=#[Value.bool ny,.slice ay dy.length cy])).symm
 go_wp2_with fail
 refine (HBY.out _ (Hf.out.trans0 (by (repeat first|exact Fr.refl _ _|assumption|apply Fr.n|apply Fr.d|apply Fr.a|refine Fr.s ?_ (.inr (by simp;try omega)) _)))).mono ?_
 rintro e w2 ⟨rfl,hf⟩
 have Hf:=Lib.hid (Hf.out.trans0 (Fr.trans0 (by (repeat first|exact Fr.refl _ _|assumption|apply Fr.n|apply Fr.d|apply Fr.a|refine Fr.s ?_ (.inr (by simp;try omega)) _)) hf))
 clear hf y0 y1 yl Hy
 have p4:p=0∨p=1:=by omega
 have q4:q=0∨q=1:=by omega
 clear hp2 hq2
 rcases p4 with rfl|rfl<;>rcases q4 with rfl|rfl
 all_goals
  go_wp2
  refine Mid.intro ⟨trivial,Strict.intro rfl ?_⟩
  go_wp2
  go_ret
  exact⟨rfl,Hf.out.trans0 (by (repeat first|exact Fr.refl _ _|assumption|apply Fr.n|apply Fr.d|apply Fr.a|refine Fr.s ?_ (.inr (by simp;try omega)) _))⟩
end Go.Proofs.YtdanghnadbkhfaaGreat
end
