/- Own texts of this claim, part 11: no condition. -/
import Derived.LoopN
import Derived.Lib.Hide
import Derived.Test.YtebolidfbflkmaaGreatZN9
import Derived.Test.YtebolidfbflkmaaGreatZN2
import Derived.Test.YtebolidfbflkmaaGreatZN3
set_option linter.unusedVariables false
set_option linter.unusedSimpArgs false
set_option maxHeartbeats 16000000
set_option maxRecDepth 100000
section
namespace Go.Proofs.YtebolidfbflkmaaGreat
open Go Go.RowKit Rg Mp Hp Qs
theorem find_hit {s:Int} {ns:List K4} {k:K4} {i:Nat} (h:ns.idxOf? k=some i):get? (pairs s ns) k=some (s+i):=by
 unfold get?;rw [pairs_keys,h];have hi:i<ns.length:=by rw [List.idxOf?_eq_some_iff] at h;exact h.1
 simp [pairs_get,hi]
theorem find_miss {s:Int} {ns:List K4} {k:K4} (h:ns.idxOf? k=none):get? (pairs s ns) k=none:=by unfold get?;rw [pairs_keys,h];rfl
theorem put_miss {s:Int} {ns:List K4} {k:K4} (h:ns.idxOf? k=none):put (pairs s ns) k (s+ns.length)=pairs s (ns++[k]):=by unfold put;rw [pairs_keys,h,pairs_snoc]
theorem flat_snoc (ns:List K4) (k:K4):flat (ns++[k])=flat ns++[.int .i64 k.a,.int .i64 k.b,.int .i64 k.c,.int .i64 k.d]:=by simp [flat]
theorem info_quad:(Tryz.prog.info? 183).map (fun i=>(i.zero,i.size,i.bytes))=some (some (.agg #[.int .i64 0,.int .i64 0,.int .i64 0,.int .i64 0]),4,32):=by kernel_rfl
theorem info_int:(Tryz.prog.info? 3).map (fun i=>(i.zero,i.size,i.bytes))=some (some (.int .i64 0),1,8):=by kernel_rfl
theorem zero_int (w:World):(zeroValue 3).run Tryz.prog w=.ok (.int .i64 0) w:=by kernel_rfl
def JoinPost (w:World) (b:Nat) (s:Int) (ns:List K4) (F:List Nat) (k:K4) (e:Ending) (w':World):Prop :=
 e=.returned (.tuple #[.int .i64 (join s ns k).1.1,.int .i64 (join s ns k).1.2])∧∃ F',StoreAt w' b s (join s ns k).2 F'∧Fr F w w'∧(∀ x∈F',x∈F∨w.heap.size≤x)
theorem JoinPost.same {w w':World} {b:Nat} {s:Int} {ns:List K4} {F:List Nat} {k:K4} {r e:Int} (hS:StoreAt w b s ns F) (hf:Fr [] w w') (hj:join s ns k=((r,e),ns)) :
  JoinPost w b s ns F k (.returned (.tuple #[.int .i64 r,.int .i64 e])) w':=by
 unfold JoinPost;rw [hj];exact⟨rfl,F,hS.fr hf i_,hf.mono i_,fun x hx=>.inl hx⟩
theorem Join_calls {w:World} {b:Nat} {s:Int} {ns:List K4} {F:List Nat} (hS:StoreAt w b s ns F) (k:K4) :
  Calls Tryz.prog 82 #[.pointer (some ⟨b,0,none⟩),.int .i64 k.a,.int .i64 k.b,.int .i64 k.c,.int .i64 k.d] w (JoinPost w b s ns F k):=by
 have hL:∀ w1,Fr [] w w1→∀ id,Calls Tryz.prog 98 #[.pointer (some ⟨b,0,none⟩),.int .i64 id] w1 fun e w'=>e=.returned (.int .i64 (lvl s (levs s ns) id))∧Drew w1 w':=fun w1 hf id=>Level_calls (hS.fr hf i_) id;have ea:=(hL · · k.a);have eb:=(hL · · k.b);have ec:=(hL · · k.c);have ed:=(hL · · k.d);clear hL;generalize hla:lvl s (levs s ns) k.a=la at *
 generalize hlb:lvl s (levs s ns) k.b=lb at *
 generalize hlc:lvl s (levs s ns) k.c=lc at *
 generalize hld:lvl s (levs s ns) k.d=ld at *
 have Hla:=q_ hla;have Hlb:=q_ hlb;have Hlc:=q_ hlc;have Hld:=q_ hld;clear hla hlb hlc hld;go_enter Tryz.func82,Tryz.ntmps82;go_wp2;refine wp_loop_rounds 5 ?_;rw [rounds_succ];go_wp2_with fail;refine (ea _ ?_).mono ?_;·repeat (first|exact Fr.refl _ _|apply Fr.drewN|apply Fr.drew|apply Fr.alloc)
 rintro e w' ⟨rfl,n1,rfl⟩;go_wp2;·
  go_ret2;refine JoinPost.same hS (by repeat (first|exact Fr.refl _ _|apply Fr.drewN|apply Fr.drew|apply Fr.alloc|refine Fr.setCell ?_ (Or.inr i_) _)) ?_;have h:la<0:=by assumption
  simp [join,Hla.out,h]
 rw [rounds_succ];go_wp2_with fail;refine (eb _ ?_).mono ?_;·repeat (first|exact Fr.refl _ _|apply Fr.drewN|apply Fr.drew|apply Fr.alloc|refine Fr.setCell ?_ (Or.inr i_) _)
 rintro e w' ⟨rfl,n2,rfl⟩;go_wp2;·
  go_ret2;refine JoinPost.same hS (by repeat (first|exact Fr.refl _ _|apply Fr.drewN|apply Fr.drew|apply Fr.alloc|refine Fr.setCell ?_ (Or.inr i_) _)) ?_;have h:lb<0:=by assumption
  simp [join,Hlb.out,h]
 rw [rounds_succ];go_wp2_with fail;refine (ec _ ?_).mono ?_;·repeat (first|exact Fr.refl _ _|apply Fr.drewN|apply Fr.drew|apply Fr.alloc|refine Fr.setCell ?_ (Or.inr i_) _)
 rintro e w' ⟨rfl,n3,rfl⟩;go_wp2;·
  go_ret2;refine JoinPost.same hS (by repeat (first|exact Fr.refl _ _|apply Fr.drewN|apply Fr.drew|apply Fr.alloc|refine Fr.setCell ?_ (Or.inr i_) _)) ?_;have h:lc<0:=by assumption
  simp [join,Hlc.out,h]
 rw [rounds_succ];go_wp2_with fail;refine (ed _ ?_).mono ?_;·repeat (first|exact Fr.refl _ _|apply Fr.drewN|apply Fr.drew|apply Fr.alloc|refine Fr.setCell ?_ (Or.inr i_) _)
 rintro e w' ⟨rfl,n4,rfl⟩;go_wp2;·
  go_ret2;refine JoinPost.same hS (by repeat (first|exact Fr.refl _ _|apply Fr.drewN|apply Fr.drew|apply Fr.alloc|refine Fr.setCell ?_ (Or.inr i_) _)) ?_;have h:ld<0:=by assumption
  simp [join,Hld.out,h]
 rw [rounds_succ];go_wp2
 rotate_right
 ·go_ret2;refine JoinPost.same hS (by repeat (first|exact Fr.refl _ _|apply Fr.drewN|apply Fr.drew|apply Fr.alloc|refine Fr.setCell ?_ (Or.inr i_) _)) ?_;have h:¬(lb=la∧lc=la∧ld=la):=by assumption
  unfold join;rw [if_neg (by rw [Hla.out,Hlb.out,Hlc.out,Hld.out];omega),if_pos (by unfold Fits;rw [Hla.out,Hlb.out,Hlc.out,Hld.out];omega)]
 ·go_ret2;refine JoinPost.same hS (by repeat (first|exact Fr.refl _ _|apply Fr.drewN|apply Fr.drew|apply Fr.alloc|refine Fr.setCell ?_ (Or.inr i_) _)) ?_;have h:256≤la:=by assumption
  unfold join;rw [if_neg (by rw [Hla.out,Hlb.out,Hlc.out,Hld.out];omega),if_pos (by unfold Fits;rw [Hla.out,Hlb.out,Hlc.out,Hld.out];omega)]
 have hfit:Fits s ns k:=by
  have h1:lb=la∧lc=la∧ld=la:=by assumption
  have h2:la<256:=by assumption
  unfold Fits;rw [Hla.out,Hlb.out,Hlc.out,Hld.out];omega
 have hjoin:join s ns k=joinIn s ns k:=by unfold join;rw [if_neg (by rw [Hla.out,Hlb.out,Hlc.out,Hld.out];omega),if_neg (by simpa using hfit)]
 have Hj:=q_ hjoin;clear hjoin;refine aBW (fun W=>Fr [] w W∧W.heap.size=w.heap.size+2∧W.heap[w.heap.size]?=some (.cells #[.int .i64 k.a,.int .i64 k.b,.int .i64 k.c,.int .i64 k.d] 132 (0,0)) ∧
  W.heap[w.heap.size+1]?=some (.cells #[.int .i64 la,.int .i64 la,.int .i64 la,.int .i64 la] 132 (0,0))) ?_ ?_
 ·refine⟨by repeat (first|exact Fr.refl _ _|apply Fr.drewN|apply Fr.drew|apply Fr.alloc|refine Fr.setCell ?_ (Or.inr i_) _),by simp only [hDN,hAz,hSz],?_,?_⟩;·simp only [hDN,hAz,hAC,hSC,show ¬ (w.heap.size=w.heap.size+1) by omega,if_true,if_false]
  ·simp only [hDN,hAz,hAC,hSC,if_true,Option.map_some,uPC,List.set_cons_zero,List.set_cons_succ]
 rintro W ⟨hW,hsz,hk0,hk1⟩;clear ea eb ec ed;have hSW:=hS.fr hW i_;obtain⟨hgood,nv,lv,mb,hI,rfl⟩:=hSW;have hSW':StoreAt W b s ns (foot b nv lv mb):=⟨hgood,nv,lv,mb,hI,rfl⟩;obtain⟨na,nc,rfl,hx1⟩:=oFM hI.nodes;obtain⟨la',lc',rfl,hx2⟩:=oFM hI.levels;clear hx1 hx2;have hlen:ns.length≤100000:=hgood.2.2.1;have hs1:2≤s:=hgood.1;have hs2:s≤8:=hgood.2.1;have b0:W.cell? ⟨b,0,none⟩=some (.int .i64 s):=hEC hI.blk 0;have b1:W.cell? ⟨b,1,none⟩=some (.slice na ns.length nc):=hEC hI.blk 1;have b2:W.cell? ⟨b,2,none⟩=some (.slice la' ns.length lc'):=hEC hI.blk 2;have b3:W.cell? ⟨b,3,none⟩=some (.map (some mb)):=hEC hI.blk 3;have k0:W.cell? ⟨w.heap.size,0,none⟩=some (.int .i64 k.a):=hEC hk0 0;have k1:W.cell? ⟨w.heap.size,1,none⟩=some (.int .i64 k.b):=hEC hk0 1;have k2:W.cell? ⟨w.heap.size,2,none⟩=some (.int .i64 k.c):=hEC hk0 2;have k3:W.cell? ⟨w.heap.size,3,none⟩=some (.int .i64 k.d):=hEC hk0 3;have HB:=q_ hI;have Hsz:=q_ hsz;have hle:w.heap.size+1<W.heap.size:=o_
 clear hsz;have HK0:=q_ hk0;have HK1:=q_ hk1;clear hI hk0 hk1;refine wT ?_;cases hfind:ns.idxOf? k with
 | some i =>go_wp2_with (at_lookup;refine wpList_lookup_hit (f:=kv) (g:=Value.int .i64) (k:=k) (z:=.int .i64 0) rfl rfl rfl rfl (HB.out.known.of_block rfl) Tryz.underlying128 keys4 (zero_int _) (find_hit hfind) ?_);refine sT_ rfl ?_;go_wp2;go_ret2;refine JoinPost.same hS (hW.drew) ?_;rw [Hj.out,joinIn_hit hfind]
 | none =>
  have l0:W.cell? ⟨w.heap.size+1,0,none⟩=some (.int .i64 la):=hEC HK1.out 0;by_cases hfull:ns.length<100000;·
   have hd:decide ((100000:Int)≤↑ns.length)=false:=(by simp;omega);have Hlen:=q_ hlen;have Hfull:=q_ hfull;clear hlen hfull;have hl:ns.length≤1048576:=(by have:=Hlen.out;omega);go_wp2_with (at_lookup;refine wpList_lookup_miss (f:=kv) (g:=Value.int .i64) (k:=k) (z:=.int .i64 0) rfl rfl rfl rfl (HB.out.known.of_block rfl) Tryz.underlying128 keys4 (zero_int _) (find_miss hfind) ?_);refine sT_ rfl ?_;go_wp2_with fail;refine wT ?_;go_wp2;refine sT_ rfl ?_;go_wp2;obtain⟨i0,hi0,hi1,hi2,hi3⟩:=info_parts info_quad;obtain⟨j0,hj0,hj1,hj2,hj3⟩:=info_parts info_int;refine wT ?_;go_wp2_with (at_builtin;refine wpList_append_lies _ rfl _ _ 129 rfl 0 183 i0 _ 4 32 Tryz.underlying129 hi0 hi1 hi2 hi3 rfl (by decide) (.slice na ns.length nc) ns.length (flat ns) rfl ?e2 _ 1 1 [.int .i64 k.a,.int .i64 k.b,.int .i64 k.c,.int .i64 k.d] rfl rfl ?e3 ?e4 (by decide) ?e5 ?e6 (Nat.zero_le _) _ rfl ?_);case e2=>exact oOB HB.out.nodes fun x hx=>hAE _ _ _ (oLT HB.out.nodes hx)
   case e3 =>
    intro j u hj;have hsz':(W.alloc (.cells #[.int .i64 k.a,.int .i64 k.b,.int .i64 k.c,.int .i64 k.d] 183)).heap[W.heap.size]?=some (.cells #[.int .i64 k.a,.int .i64 k.b,.int .i64 k.c,.int .i64 k.d] 183):=by rw [hAC,if_pos rfl]
    have:=cell_row_add hsz' j;rw [show (World.drew (World.drew (World.drew (W.alloc (.cells #[.int .i64 k.a,.int .i64 k.b,.int .i64 k.c,.int .i64 k.d] 183))))).cell? _=_ from this];simpa using hj
   case e4=>intro u hu;simp at hu;rcases hu with rfl|rfl|rfl|rfl<;>rfl
   case e5=>unfold maxLen;omega
   case e6=>omega
   intro g cap w1 hown1 hgrow1 hloc1 hg1;have hW1:∀ x,x<W.heap.size→(Value.slice na ns.length nc).ownBlock≠some x→w1.heap[x]?=W.heap[x]?:=fun x hx hn=>(hgrow1.block x (by rw [hDR,hDR,hDR,hAz];omega) (fun e=>hn e.symm)).trans (hAE _ _ _ hx);have hsz1:W.heap.size+1≤w1.heap.size:=by have:=hgrow1.size;rw [hDR,hDR,hDR,hAz] at this;exact this
   have hbW:=lBk HB.out.blk;have hb1:=(hW1 b hbW HB.out.ne2).trans HB.out.blk;obtain⟨c0,c1,c2,c3⟩:=e4_ hb1;have f1:=hEF hb1 1;have Hown1:=q_ hown1;have Hgrow1:=q_ hgrow1;have Hloc1:=q_ hloc1;have HW1:=q_ hW1;clear hown1 hgrow1 hloc1 hW1 hb1;go_wp2;refine sT_ rfl ?_;go_wp2;refine aBW (fun V=>V.heap.size=w1.heap.size∧(∀ x,x≠b→V.heap[x]?=w1.heap[x]?) ∧
    V.heap[b]?=some (.cells #[.int .i64 s,.slice (some ⟨g,0,none⟩) (ns.length+1) cap,.slice la' ns.length lc',.map (some mb)] 131 (0,0))∧Fr (foot b (.slice na ns.length nc) (.slice la' ns.length lc') mb) W V) ?_ ?_
   ·refine⟨by simp only [hSz],fun x hx=>?_,?_,?_⟩;·simp only [hSC,if_neg hx]
    ·simp only [hSC,if_true,(HW1.out b hbW HB.out.ne2).trans HB.out.blk,Option.map_some,uPC,List.set_cons_zero,List.set_cons_succ]
    ·refine (((((((Fr.refl _ W).alloc _).drew).drew).drew).grown Hgrow1.out fun x hx=>.inl ?_).setCell (.inl ?_) _);·simp [foot,hx]
     ·simp [foot]
   rintro V ⟨hVs,hVo,hVb,hVf⟩;have hV:∀ x,x<W.heap.size→x≠b→(Value.slice na ns.length nc).ownBlock≠some x→V.heap[x]?=W.heap[x]?:=fun x hx hn hn'=>(hVo x hn).trans (HW1.out x hx hn');have hVl:V.ownsRow 0 3 1 (.slice la' ns.length lc') ns.length ((levs s ns).map (Value.int .i64)):=oOB HB.out.levels fun x hx=>hV x (oLT HB.out.levels hx) (fun e=>HB.out.ne4 (by rw [hx,e])) fun e=>HB.out.ne6 x e hx;have hbnew:∀ x,w.heap.size≤x→x<w.heap.size+2→V.heap[x]?=W.heap[x]?:=fun x hx hx'=>by
    have hSx:=hS.lt;refine hV x (by have:=Hsz.out;omega) (fun e=>?_) fun e=>?_;·have:=hSx b (by simp [foot]);omega
    ·have:=hSx x (by simp [foot,e]);omega
   have v1:V.cell? ⟨w.heap.size+1,0,none⟩=some (.int .i64 la):=hEC ((hbnew _ o_ o_).trans HK1.out) 0;obtain⟨d0,d1,d2,d3⟩:=e4_ hVb;have e2:=hEF hVb 2;have HVo:=q_ hVo;have HV:=q_ hV;have HVb:=q_ hVb;have HVf:=q_ hVf;have HVl:=q_ hVl;have HVs:=q_ hVs;have Hbnew:=q_ hbnew;clear hVo hV hVb hVf hVl hVs hbnew b0 b1 b2 b3 c0 c1 c2 c3 f1 k0 k1 k2 k3 l0;have hla0:0≤la:=(by assumption);have hla1:la<256:=(by assumption);refine wT ?_;go_wp2_with (at_builtin;refine wpList_append_lies _ rfl _ _ 72 rfl 0 3 j0 _ 1 8 Tryz.underlying72 hj0 hj1 hj2 hj3 rfl (by decide) (.slice la' ns.length lc') ns.length ((levs s ns).map (Value.int .i64)) rfl ?e2 _ 1 1 [.int .i64 (la+1)] rfl rfl ?e3 ?e4 (by decide) ?e5 ?e6 (Nat.zero_le _) _ rfl ?_);case e2=>exact oOB HVl.out fun x hx=>hAE _ _ _ (oLT HVl.out hx)
   case e3 =>
    intro j u hj;have hsz':(V.alloc (.cells #[.int .i64 (la+1)] 3)).heap[V.heap.size]?=some (.cells #[.int .i64 (la+1)] 3):=by rw [hAC,if_pos rfl]
    have:=cell_row_add hsz' j;rw [show (World.drew (V.alloc (.cells #[.int .i64 (la+1)] 3))).cell? _=_ from this];simpa using hj
   case e4=>intro u hu;simp at hu;subst hu;rfl
   case e5=>unfold maxLen;omega
   case e6=>omega
   intro g2 cap2 w2 hown2 hgrow2 hloc2 hg2;have hbV:b<V.heap.size:=lBk HVb.out;have hW2:∀ x,x<V.heap.size→(Value.slice la' ns.length lc').ownBlock≠some x→w2.heap[x]?=V.heap[x]?:=fun x hx hn=>(hgrow2.block x (by rw [hDR,hAz];omega) (fun e=>hn e.symm)).trans (hAE _ _ _ hx);have hb2:=(hW2 b hbV HB.out.ne4).trans HVb.out;obtain⟨c0,c1,c2,c3⟩:=e4_ hb2;have f2:=hEF hb2 2;have Hown2:=q_ hown2;have Hgrow2:=q_ hgrow2;have Hloc2:=q_ hloc2;have HW2:=q_ hW2;clear hown2 hgrow2 hloc2 hW2 hb2;go_wp2;refine sT_ rfl ?_;go_wp2;refine aBW (fun U=>(∀ x,x≠b→U.heap[x]?=w2.heap[x]?) ∧
    U.heap[b]?=some (.cells #[.int .i64 s,.slice (some ⟨g,0,none⟩) (ns.length+1) cap,.slice (some ⟨g2,0,none⟩) (ns.length+1) cap2,.map (some mb)] 131 (0,0)) ∧
    Fr (foot b (.slice na ns.length nc) (.slice la' ns.length lc') mb) W U) ?_ ?_
   ·refine⟨fun x hx=>?_,?_,?_⟩;·simp only [hSC,if_neg hx]
    ·simp only [hSC,if_true,(HW2.out b hbV HB.out.ne4).trans HVb.out,Option.map_some,uPC,List.set_cons_zero,List.set_cons_succ]
    ·refine HVf.out.trans (((((Fr.refl (foot b (.slice na ns.length nc) (.slice la' ns.length lc') mb) V).alloc _).drew).grown Hgrow2.out fun x hx=>.inl ?_).setCell (.inl ?_) _) fun x hx=>.inl hx;·simp [foot,hx]
     ·simp [foot]
   rintro U ⟨hUo,hUb,hUf⟩;have hU:∀ x,x<W.heap.size→x≠b→(Value.slice na ns.length nc).ownBlock≠some x→(Value.slice la' ns.length lc').ownBlock≠some x→U.heap[x]?=W.heap[x]?:=fun x hx h1 h2 h3 =>
    (hUo x h1).trans ((HW2.out x (by have:=HVs.out;omega) h3).trans (HV.out x hx h1 h2))
   have hmbW:mb<W.heap.size:=HB.out.known.lt;have hmap:MapIs U mb kv (Value.int .i64) (pairs s ns):=HB.out.known.of_block (hU mb hmbW (fun e=>HB.out.ne1 e.symm) HB.out.ne3 HB.out.ne5);have hkid:U.heap[w.heap.size]?=some (.cells #[.int .i64 k.a,.int .i64 k.b,.int .i64 k.c,.int .i64 k.d] 132 (0,0)):=by
    have hSx:=hS.lt;refine (hU _ o_ (fun e=>?_) (fun e=>?_) fun e=>?_).trans HK0.out;·have:=hSx b (by simp [foot]);omega
    ·have:=hSx w.heap.size (by simp [foot,e]);omega
    ·have:=hSx w.heap.size (by simp [foot,e]);omega
   obtain⟨k0,k1,k2,k3⟩:=e4_ hkid;obtain⟨d0,d1,d2,d3⟩:=e4_ hUb;have HUo:=q_ hUo;have HUb:=q_ hUb;have HUf:=q_ hUf;have Hmap:=q_ hmap;have Hkid:=q_ hkid;have HU:=q_ hU;clear hUo hUb hUf hmap hkid hU c0 c1 c2 c3 f2 v1 e2;refine wT ?_;go_wp2_with (at_mapUpdate;refine wpList_update_is (f:=kv) (g:=Value.int .i64) (k:=k) (v:=s+ns.length) rfl rfl rfl rfl rfl (Hmap.out.of_block rfl) Tryz.underlying128 keys4 ?_);intro q hq;go_wp2;refine sT_ rfl ?_;go_wp2;go_ret2;have hput:=put_miss (s:=s) hfind;rw [hput] at hq;have hjn:join s ns k=((s+ns.length,0),ns++[k]):=(by rw [Hj.out,joinIn_new hfind Hfull.out]);have hg1l:g<w1.heap.size:=hg1;have hgb:g≠b:=fun e=>by
    rcases Hloc1.out with h|h
    ·exact HB.out.ne2 (by rw [h,e])
    ·omega
   have hgm:g≠mb:=fun e=>by
    rcases Hloc1.out with h|h
    ·exact HB.out.ne3 (by rw [h,e])
    ·omega
   have hgl:(Value.slice la' ns.length lc').ownBlock≠some g:=fun e=>by
    rcases Hloc1.out with h|h
    ·exact HB.out.ne6 g h e
    ·have:=oLT HB.out.levels e;omega
   have hg2b:g2≠b:=fun e=>by
    rcases Hloc2.out with h|h
    ·exact HB.out.ne4 (by rw [h,e])
    ·omega
   have hg2m:g2≠mb:=fun e=>by
    rcases Hloc2.out with h|h
    ·exact HB.out.ne5 (by rw [h,e])
    ·have:=HVs.out;omega
   have hgg:g2≠g:=fun e=>by
    rcases Hloc2.out with h|h
    ·exact hgl (by rw [h,e])
    ·have:=HVs.out;omega
   unfold JoinPost;rw [hjn];have hset:∀ x,x≠mb→(U.heap.setIfInBounds mb q)[x]?=U.heap[x]?:=fun x hx=>(by rw [Array.getElem?_setIfInBounds_ne fun e=>hx e.symm]);refine⟨rfl,foot b (.slice (some ⟨g,0,none⟩) (ns.length+1) cap) (.slice (some ⟨g2,0,none⟩) (ns.length+1) cap2) mb,?_,?_,?_⟩;·
    refine⟨hgood.snoc hfit (by simpa using hfind) Hfull.out,_,_,mb,⟨?_,?_,?_,hq,HB.out.ne1,?_,?_,?_,?_,?_⟩,rfl⟩;·exact (hset b HB.out.ne1).trans HUb.out
    ·rw [flat_snoc,List.length_append,List.length_singleton];refine oOB Hown1.out fun x hx=>?_;obtain rfl:g=x:=(by simpa [Value.ownBlock] using hx);exact (hset g hgm).trans ((HUo.out g hgb).trans ((HW2.out g (by have:=HVs.out;omega) hgl).trans (HVo.out g hgb)))
    ·rw [levs_snoc,List.map_append,List.length_append,List.length_singleton,Hla.out];refine oOB Hown2.out fun x hx=>?_;obtain rfl:g2=x:=(by simpa [Value.ownBlock] using hx);exact (hset g2 hg2m).trans (HUo.out g2 hg2b)
    ·simpa [Value.ownBlock] using hgb
    ·simpa [Value.ownBlock] using hgm
    ·simpa [Value.ownBlock] using hg2b
    ·simpa [Value.ownBlock] using hg2m
    ·intro x hx;obtain rfl:g=x:=by simpa [Value.ownBlock] using hx
     simpa [Value.ownBlock] using hgg
   ·refine ((hW.mono i_).trans HUf.out fun x hx=>.inl hx).trans ((((Fr.refl [mb] U).drew).setBlock (.inl i_) q)) fun x hx=>.inl ?_;simp at hx;subst hx;simp [foot]
   ·intro x hx;have hwW:w.heap.size≤W.heap.size:=o_
    simp only [foot,List.mem_cons,List.mem_append,Option.mem_toList,Value.ownBlock,Option.some.injEq] at hx;rcases hx with rfl|rfl|rfl|rfl
    ·left;simp [foot]
    ·left;simp [foot]
    ·rcases Hloc1.out with h|h
     ·left;simp [foot,h]
     ·right;omega
    ·rcases Hloc2.out with h|h
     ·left;simp [foot,h]
     ·right;have:=HVs.out;omega
  ·have hd:decide ((100000:Int)≤↑ns.length)=true:=(by simp;omega);have Hlen:=q_ hlen;have Hfull:=q_ hfull;clear hlen hfull;go_wp2_with (at_lookup;refine wpList_lookup_miss (f:=kv) (g:=Value.int .i64) (k:=k) (z:=.int .i64 0) rfl rfl rfl rfl (HB.out.known.of_block rfl) Tryz.underlying128 keys4 (zero_int _) (find_miss hfind) ?_);refine sT_ rfl ?_;go_wp2_with fail;go_ret2;refine JoinPost.same hS (hW.drew) ?_;rw [Hj.out,joinIn_full hfind (by have:=Hfull.out;omega)]
theorem New_ok (s:Int) (w:World) (h:2≤s) (h':s≤8) :
  Calls Tryz.prog 38 #[.int .i64 s] w fun e w'=>∃ b F,e=.returned (.tuple #[.pointer (some ⟨b,0,none⟩),.int .i64 0])∧StoreAt w' b s [] F∧Fr [] w w'∧∀ x∈F,w.heap.size≤x:=by
 have hmm:=@run_makeMap Tryz.prog;go_enter Tryz.func38,Tryz.ntmps38;go_wp2;go_ret2;have hb:((w.alloc (.map #[] 0)).alloc (.cells #[.int .i64 s,.slice none 0 0,.slice none 0 0,.map (some w.heap.size)] 131)).heap[w.heap.size+1]?=some (.cells #[.int .i64 s,.slice none 0 0,.slice none 0 0,.map (some w.heap.size)] 131 (0,0)):=by rw [hAC,hAz,if_pos rfl]
 refine⟨w.heap.size+1,foot (w.heap.size+1) (.slice none 0 0) (.slice none 0 0) w.heap.size,rfl,⟨GoodQ.nil h h',_,_,w.heap.size,⟨hb,World.ownsRow_nil _ _ _ _,World.ownsRow_nil _ _ _ _,?_,o_,by simp [Value.ownBlock],by simp [Value.ownBlock],by simp [Value.ownBlock],by simp [Value.ownBlock],by simp [Value.ownBlock]⟩,rfl⟩,((Fr.refl _ _).alloc _).alloc _,?_⟩;·
  refine (MapIs.made w).of_block ?_;rw [hAC,hAz,if_neg o_];rfl
 ·intro x hx;simp [foot,Value.ownBlock] at hx;omega
def kidsOf (s:Int) (ns:List K4) (id:Int):K4×Bool:=if id<s then (⟨0,0,0,0⟩,false) else match ns[(id - s).toNat]? with
 | some k=>(k,true)
 | none=>(⟨0,0,0,0⟩,false)
theorem flat_get {ns:List K4} {i:Nat} {k:K4} (h:ns[i]?=some k):(flat ns)[4*i]?=some (.int .i64 k.a)∧(flat ns)[4*i+1]?=some (.int .i64 k.b)∧(flat ns)[4*i+2]?=some (.int .i64 k.c)∧(flat ns)[4*i+3]?=some (.int .i64 k.d):=by
 induction ns generalizing i with
 | nil=>simp at h
 | cons x ns ih =>
  cases i with
  | zero=>simp at h;subst h;simp [flat]
  | succ i =>simp at h;have:=ih h;rw [show 4*(i+1)=4*i+4 by omega];simpa [flat] using this
theorem flat_length (ns:List K4):(flat ns).length=ns.length*4:=by
 induction ns with
 | nil=>rfl
 | cons x ns ih=>simp [flat] at ih ⊢;omega
theorem lvl_pos {s:Int} {ns:List K4} (h:GoodQ s ns) {i:Nat} {k:K4} (hi:ns[i]?=some k):∃ l,(levs s ns)[i]?=some l∧1≤l∧l≤256∧l=lvl s (levs s (ns.take i)) k.a+1:=by
 have hlt:i<ns.length:=(List.getElem?_eq_some_iff.1 hi).1;have hf:=h.2.2.2.2 i k hi;have ht:ns.take (i+1)=ns.take i++[k]:=by rw [List.take_add_one,hi];rfl
 have h1:(levs s ns).take (i+1)=levs s (ns.take i)++[lvl s (levs s (ns.take i)) k.a+1]:=by rw [levs_take,ht,levs_snoc]
 have h2:(levs s ns)[i]?=some (lvl s (levs s (ns.take i)) k.a+1):=by
  have:=congrArg (fun l:List Int=>l[i]?) h1;simp only [List.getElem?_take,Nat.lt_succ_self,if_true] at this;have hln:(levs s (ns.take i)).length=i:=by rw [levs_length,List.length_take];omega
  rw [this,List.getElem?_append_right o_,hln];simp
 exact⟨_,h2,by have:=hf.1;omega,by have:=hf.2.1;omega,rfl⟩
theorem Kids_no (b:Nat) (id l:Int) (w:World) (hl:l<1) (hL:∀ w1,Fr [] w w1→Calls Tryz.prog 98 #[.pointer (some ⟨b,0,none⟩),.int .i64 id] w1 fun e w'=>e=.returned (.int .i64 l)∧Drew w1 w') :
  Calls Tryz.prog 106 #[.pointer (some ⟨b,0,none⟩),.int .i64 id] w fun e w'=>e=.returned (.tuple #[.agg #[.int .i64 0,.int .i64 0,.int .i64 0,.int .i64 0],.bool false])∧Fr [] w w':=by
 go_enter Tryz.func106,Tryz.ntmps106;go_wp2_with fail;refine (hL _ ?_).mono ?_;·repeat (first|exact Fr.refl _ _|apply Fr.drewN|apply Fr.drew|apply Fr.alloc)
 rintro e w' ⟨rfl,n1,rfl⟩;go_wp2;exact bodyPost_ret (v:=.tuple #[.agg #[.int .i64 0,.int .i64 0,.int .i64 0,.int .i64 0],.bool false]) (by simp [results,Tryz.results106,go_sem]) rfl
  ⟨rfl,by repeat (first|exact Fr.refl _ _|apply Fr.drewN|apply Fr.drew|apply Fr.alloc|refine Fr.setCell ?_ (Or.inr i_) _)⟩
theorem Kids_yes (b:Nat) (s l:Int) (i:Nat) (n nc g:Nat) (k:K4) (w:World) (hl:1≤l) (hb:b<w.heap.size) (hg:g<w.heap.size) (h0:w.cell? ⟨b,0,none⟩=some (.int .i64 s)) (h1:w.cell? ⟨b,1,none⟩=some (.slice (some ⟨g,0,none⟩) n nc))
  (_:0≤s) (_:s≤8) (hn:n≤1048576) (hi:i<n)
  (e0:w.cell? ⟨g,i*4,none⟩=some (.int .i64 k.a)) (e1:w.cell? ⟨g,i*4+1,none⟩=some (.int .i64 k.b)) (e2:w.cell? ⟨g,i*4+2,none⟩=some (.int .i64 k.c)) (e3:w.cell? ⟨g,i*4+3,none⟩=some (.int .i64 k.d))
  (hL:∀ w1,Fr [] w w1→Calls Tryz.prog 98 #[.pointer (some ⟨b,0,none⟩),.int .i64 (s+i)] w1 fun e w'=>e=.returned (.int .i64 l)∧Drew w1 w') :
  Calls Tryz.prog 106 #[.pointer (some ⟨b,0,none⟩),.int .i64 (s+i)] w fun e w'=>e=.returned (.tuple #[kv k,.bool true])∧Fr [] w w':=by
 have hw1:IntKind.i64.wrap (s+↑i - s)=↑i:=IntWalk.i64_in _ o_ |>.trans o_;unfold kv;go_enter Tryz.func106,Tryz.ntmps106;go_wp2_with fail;refine (hL _ ?_).mono ?_;·repeat (first|exact Fr.refl _ _|apply Fr.drewN|apply Fr.drew|apply Fr.alloc)
 rintro e w' ⟨rfl,n1,rfl⟩;go_wp2;refine wT ?_;go_wp2;refine sT_ rfl ?_;go_wp2;exact bodyPost_ret (v:=.tuple #[.agg #[.int .i64 k.a,.int .i64 k.b,.int .i64 k.c,.int .i64 k.d],.bool true]) (by simp [results,Tryz.results106,go_sem]) rfl
  ⟨rfl,by repeat (first|exact Fr.refl _ _|apply Fr.drewN|apply Fr.drew|apply Fr.alloc|refine Fr.setCell ?_ (Or.inr i_) _)⟩
theorem lvl_far {s:Int} {ns:List K4} {id:Int} (hs:0≤s) (h:s+ns.length≤id):lvl s (levs s ns) id=-1:=by unfold lvl;rw [if_neg o_,if_neg o_,List.getD_eq_getElem?_getD,List.getElem?_eq_none (by rw [levs_length];omega)];rfl
theorem Kids_calls {w:World} {b:Nat} {s:Int} {ns:List K4} {F:List Nat} (hS:StoreAt w b s ns F) (id:Int) :
  Calls Tryz.prog 106 #[.pointer (some ⟨b,0,none⟩),.int .i64 id] w fun e w'=>e=.returned (.tuple #[kv (kidsOf s ns id).1,.bool (kidsOf s ns id).2])∧Fr [] w w':=by
 have hL:∀ w1,Fr [] w w1→Calls Tryz.prog 98 #[.pointer (some ⟨b,0,none⟩),.int .i64 id] w1 fun e w'=>e=.returned (.int .i64 (lvl s (levs s ns) id))∧Drew w1 w':=fun w1 hf=>Level_calls (hS.fr hf i_) id;obtain⟨hgood,nv,lv,mb,hI,rfl⟩:=hS;have hs:2≤s:=hgood.1;unfold kidsOf;by_cases hst:id<s;·
  rw [if_pos hst];refine Kids_no b id _ w ?_ hL;unfold lvl;by_cases h:id<0;·rw [if_pos h];omega
  ·rw [if_neg h,if_pos hst];omega
 ·rw [if_neg hst];by_cases hfar:s+ns.length≤id;·
   rw [List.getElem?_eq_none o_];exact Kids_no b id _ w (by rw [lvl_far o_ hfar];omega) hL
  ·obtain⟨i,rfl⟩:∃ i:Nat,id=s+i:=⟨(id - s).toNat,o_⟩;have hi:i<ns.length:=o_;rw [show (s+(i:Int) - s).toNat=i by omega,List.getElem?_eq_getElem hi];obtain⟨l,hl,hl1,_,_⟩:=lvl_pos hgood (List.getElem?_eq_getElem hi);have hlv:lvl s (levs s ns) (s+i)=l:=by
    unfold lvl;rw [if_neg o_,if_neg o_,show (s+(i:Int) - s).toNat=i by omega,List.getD_eq_getElem?_getD,hl];rfl
   rw [hlv] at hL;obtain⟨na,nc,rfl,hna,_⟩:=oFM hI.nodes;obtain⟨g,rfl⟩:=hna o_;obtain⟨f0,f1,f2,f3⟩:=flat_get (List.getElem?_eq_getElem hi);rw [Nat.mul_comm] at f0 f1 f2 f3;exact Kids_yes b s l i ns.length nc g _ w hl1 (lBk hI.blk) (oLT hI.nodes rfl) (hEC hI.blk 0) (hEC hI.blk 1) o_ hgood.2.1 (by have:=hgood.2.2.1;omega) hi
    (owns_cell hI.nodes rfl f0) (owns_cell hI.nodes rfl f1) (owns_cell hI.nodes rfl f2) (owns_cell hI.nodes rfl f3) hL
theorem flat_one (ns:List K4):∀ u∈flat ns,u.oneCell'=true:=by intro u hu;simp only [flat,List.mem_flatMap] at hu;obtain⟨k,_,hk⟩:=hu;simp at hk;rcases hk with rfl|rfl|rfl|rfl<;>rfl
def four (id:Int):K4:=⟨id,id,id,id⟩
def climb (s:Int) (ns:List K4):Nat→Int→Nat→Int×Nat
 | 0,id,n=>(id,n)
 | m+1,id,n=>match ns.idxOf? (four id) with
  | some i=>climb s ns m (s+i) (n+1)
  | none=>(id,n)
def grow (s:Int):Nat→Int→List K4→Int×List K4
 | 0,id,ns=>(id,ns)
 | m+1,id,ns=>grow s m (join s ns (four id)).1.1 (join s ns (four id)).2
def emptyQ (s:Int) (ns:List K4) (level:Int):(Int×Int)×List K4 :=
 if level<0∨256<level then ((0,18),ns)
 else if 100000<ns.length+(level.toNat - (climb s ns level.toNat 0 0).2) then ((0,6),ns)
 else (((grow s (level.toNat - (climb s ns level.toNat 0 0).2) (climb s ns level.toNat 0 0).1 ns).1,0),(grow s (level.toNat - (climb s ns level.toNat 0 0).2) (climb s ns level.toNat 0 0).1 ns).2)
theorem climb_le {s:Int} {ns:List K4}:∀ (m:Nat) (id:Int) (n:Nat),(climb s ns m id n).2≤n+m
 | 0,id,n=>by simp [climb]
 | m+1,id,n=>by
  unfold climb;split;·have:=climb_le (s:=s) (ns:=ns) m (s+‹Nat›) (n+1);omega
  ·simp
def TwoPost (w:World) (b:Nat) (s:Int) (r:(Int×Int)×List K4) (F:List Nat) (e:Ending) (w':World):Prop :=
 e=.returned (.tuple #[.int .i64 r.1.1,.int .i64 r.1.2])∧∃ F',StoreAt w' b s r.2 F'∧Fr F w w'∧(∀ x∈F',x∈F∨w.heap.size≤x)
theorem TwoPost.same {w w':World} {b:Nat} {s:Int} {ns:List K4} {F:List Nat} {r e:Int} (hS:StoreAt w b s ns F) (hf:Fr [] w w'):TwoPost w b s ((r,e),ns) F (.returned (.tuple #[.int .i64 r,.int .i64 e])) w' :=
 ⟨rfl,F,hS.fr hf i_,hf.mono i_,fun x hx=>.inl hx⟩
theorem Empty_calls {w:World} {b:Nat} {s:Int} {ns:List K4} {F:List Nat} (hS:StoreAt w b s ns F) (level:Int) :
  Calls Tryz.prog 39 #[.pointer (some ⟨b,0,none⟩),.int .i64 level] w (TwoPost w b s (emptyQ s ns level) F):=by
 by_cases hneg:level<0;·
  have:emptyQ s ns level=((0,18),ns):=by unfold emptyQ;rw [if_pos (.inl hneg)]
  rw [this];have hd:decide (level<0)=true:=by simpa using hneg
  go_enter Tryz.func39,Tryz.ntmps39;go_wp2;go_ret2;exact TwoPost.same hS (Fr.refl _ _)
 ·by_cases hbig:256<level;·
   have:emptyQ s ns level=((0,18),ns):=(by unfold emptyQ;rw [if_pos (.inr hbig)]);rw [this];have hd:decide (level<0)=false:=(by simpa using hneg);go_enter Tryz.func39,Tryz.ntmps39;go_wp2;go_ret2;exact TwoPost.same hS (Fr.refl _ _)
  ·obtain⟨L,rfl⟩:∃ L:Nat,level=L:=⟨level.toNat,o_⟩;have hL:L≤256:=o_;have hSk:=hS;obtain⟨hgood,nv,lv,mb,hI,rfl⟩:=hS;obtain⟨na,nc,rfl,hx1⟩:=oFM hI.nodes;have hlen:ns.length≤100000:=hgood.2.2.1;have hs1:2≤s:=hgood.1;have hs2:s≤8:=hgood.2.1;have b0:=hEC hI.blk 0;have b1:=hEC hI.blk 1;have b3:=hEC hI.blk 3;have hE:emptyQ s ns L=if 100000<ns.length+(L - (climb s ns L 0 0).2) then ((0,6),ns) else (((grow s (L - (climb s ns L 0 0).2) (climb s ns L 0 0).1 ns).1,0),(grow s (L - (climb s ns L 0 0).2) (climb s ns L 0 0).1 ns).2):=by
    unfold emptyQ;rw [if_neg o_];rfl
   have HE:=q_ hE;have HI:=q_ hI;have Hlen:=q_ hlen;clear hx1 hE hI hlen;have hlen2:ns.length≤1048576:=(by have:=Hlen.out;omega);go_enter Tryz.func39,Tryz.ntmps39;go_wp2;go_loop [6,7] (fun x y=>∃ (id:Int) (n:Nat),x=.int .i64 id∧y=.int .i64 n∧n≤L∧climb s ns (L - n) id n=climb s ns L 0 0) (fun _ y=>L - (intOf y).toNat);case atStart=>exact⟨0,0,rfl,rfl,o_,i_⟩
   case round =>
    obtain⟨id,n,rfl,rfl,hn,hc⟩:=hrel;have Hc:=q_ hc;clear hc;by_cases hlt:n<L;·
     cases hfind:ns.idxOf? (four id) with
     | some i =>
      go_wp2_with (at_lookup;refine wpList_lookup_hit (f:=kv) (g:=Value.int .i64) (k:=four id) (z:=.int .i64 0) rfl rfl rfl rfl (HI.out.known) Tryz.underlying128 keys4 (zero_int _) (find_hit hfind) ?_);go_round;case rel=>exact⟨s+i,n+1,rfl,by go_num,o_,by rw [← Hc.out,show L - n=(L - (n+1))+1 by omega,climb,hfind]⟩
      case measure=>simp [intOf];omega
     | none =>
      have hp:climb s ns L 0 0=(id,n):=(by rw [← Hc.out,show L - n=(L - (n+1))+1 by omega,climb,hfind]);have HP:=q_ hp;clear hp;by_cases hfull:100000<ns.length+(L - n);·
       have hd2:(100000:Int) - (↑L - ↑n)<ns.length:=o_;have Hfull:=q_ hfull;clear hfull;go_wp2_with (at_lookup;refine wpList_lookup_miss (f:=kv) (g:=Value.int .i64) (k:=four id) (z:=.int .i64 0) rfl rfl rfl rfl (HI.out.known) Tryz.underlying128 keys4 (zero_int _) (find_miss hfind) ?_);go_ret2;have hQ:=HE.out;rw [HP.out] at hQ;rw [if_pos Hfull.out] at hQ;rw [hQ];exact TwoPost.same hSk (Fr.t)
      ·have hd2:(ns.length:Int)≤100000 - (↑L - ↑n):=o_;have Hfull:=q_ hfull;clear hfull;have hQ:=HE.out;rw [HP.out] at hQ;rw [if_neg Hfull.out] at hQ;have HQ:=q_ hQ;clear hQ;go_wp2_with (at_lookup;refine wpList_lookup_miss (f:=kv) (g:=Value.int .i64) (k:=four id) (z:=.int .i64 0) rfl rfl rfl rfl (HI.out.known) Tryz.underlying128 keys4 (zero_int _) (find_miss hfind) ?_);go_loopw [6,7] (fun x y wr=>∃ (id':Int) (n':Nat) (ns':List K4) (F':List Nat),x=.int .i64 id'∧y=.int .i64 n'∧n'≤L∧grow s (L - n') id' ns'=grow s (L - n) id ns∧StoreAt wr b s ns' F' ∧
        Fr (foot b (.slice na ns.length nc) lv mb) w wr∧(∀ x∈F',x∈foot b (.slice na ns.length nc) lv mb∨w.heap.size≤x)) (fun _ y _=>L - (intOf y).toNat)
       case atStart=>exact⟨id,n,ns,_,rfl,rfl,hn,rfl,hSk,Fr.refl _ _,fun x hx=>.inl hx⟩
       case round =>
        obtain⟨id',n',ns',F',rfl,rfl,hn',hg,hS',hf',hF'⟩:=hrel;have Hg:=q_ hg;have Hf:=q_ hf';have HF:=q_ hF';clear hg hf' hF';by_cases hlt':n'<L;·
         have hJ:Calls Tryz.prog 82 #[.pointer (some ⟨b,0,none⟩),.int .i64 id',.int .i64 id',.int .i64 id',.int .i64 id'] wr (JoinPost wr b s ns' F' (four id')):=Join_calls hS' (four id');have hgs:grow s (L - n') id' ns'=grow s (L - (n'+1)) (join s ns' (four id')).1.1 (join s ns' (four id')).2:=by rw [show L - n'=(L - (n'+1))+1 by omega];rfl
         have Hgs:=q_ hgs;clear hgs;go_wp2_with fail;refine hJ.mono ?_;rintro e w1 ⟨rfl,F2,hS2,hf2,hF2⟩;clear hJ;have Hf2:=q_ hf2;have HF2:=q_ hF2;clear hf2 hF2;go_wp2;go_roundw;case rel =>
          refine⟨_,n'+1,(join s ns' (four id')).2,F2,rfl,by go_num,o_,Hgs.out.symm.trans Hg.out,hS2,Hf.out.trans Hf2.out HF.out,fun x hx=>?_⟩;rcases HF2.out x hx with h|h
          ·exact HF.out x h
          ·right;have:=Hf.out.size;omega
         case measure=>simp [intOf];omega
        ·obtain rfl:n'=L:=o_;go_wp2;go_ret2;have hg0:=Hg.out;rw [show grow s (n' - n') id' ns'=(id',ns') from by rw [Nat.sub_self];rfl] at hg0;rw [HQ.out,← hg0];exact⟨rfl,F',hS',Hf.out,HF.out⟩
    ·obtain rfl:n=L:=o_;have hp:climb s ns n 0 0=(id,n):=(by rw [← Hc.out,Nat.sub_self,climb]);have HP:=q_ hp;clear hp;by_cases hfull:100000<ns.length+(n - n);·
      have hd2:(100000:Int) - (↑n - ↑n)<ns.length:=o_;have Hfull:=q_ hfull;clear hfull;go_wp2;go_ret2;have hQ:=HE.out;rw [HP.out] at hQ;rw [if_pos Hfull.out] at hQ;rw [hQ];exact TwoPost.same hSk (Fr.t)
     ·have hd2:(ns.length:Int)≤100000 - (↑n - ↑n):=o_;have Hfull:=q_ hfull;clear hfull;have hQ:=HE.out;rw [HP.out] at hQ;rw [if_neg Hfull.out] at hQ;have HQ:=q_ hQ;clear hQ;go_wp2;go_loopw [6,7] (fun x y wr=>∃ (id':Int) (n':Nat) (ns':List K4) (F':List Nat),x=.int .i64 id'∧y=.int .i64 n'∧n'≤n∧grow s (n - n') id' ns'=grow s (n - n) id ns∧StoreAt wr b s ns' F' ∧
       Fr (foot b (.slice na ns.length nc) lv mb) w wr∧(∀ x∈F',x∈foot b (.slice na ns.length nc) lv mb∨w.heap.size≤x)) (fun _ y _=>n - (intOf y).toNat)
      case atStart=>exact⟨id,n,ns,_,rfl,rfl,hn,rfl,hSk,Fr.refl _ _,fun x hx=>.inl hx⟩
      case round =>
       obtain⟨id',n',ns',F',rfl,rfl,hn',hg,hS',hf',hF'⟩:=hrel;have Hg:=q_ hg;have Hf:=q_ hf';have HF:=q_ hF';clear hg hf' hF';by_cases hlt':n'<n;·
        have hJ:Calls Tryz.prog 82 #[.pointer (some ⟨b,0,none⟩),.int .i64 id',.int .i64 id',.int .i64 id',.int .i64 id'] wr (JoinPost wr b s ns' F' (four id')):=Join_calls hS' (four id');have hgs:grow s (n - n') id' ns'=grow s (n - (n'+1)) (join s ns' (four id')).1.1 (join s ns' (four id')).2:=by rw [show n - n'=(n - (n'+1))+1 by omega];rfl
        have Hgs:=q_ hgs;clear hgs;go_wp2_with fail;refine hJ.mono ?_;rintro e w1 ⟨rfl,F2,hS2,hf2,hF2⟩;clear hJ;have Hf2:=q_ hf2;have HF2:=q_ hF2;clear hf2 hF2;go_wp2;go_roundw;case rel =>
         refine⟨_,n'+1,(join s ns' (four id')).2,F2,rfl,by go_num,o_,Hgs.out.symm.trans Hg.out,hS2,Hf.out.trans Hf2.out HF.out,fun x hx=>?_⟩;rcases HF2.out x hx with h|h
         ·exact HF.out x h
         ·right;have:=Hf.out.size;omega
        case measure=>simp [intOf];omega
       ·obtain rfl:n'=n:=o_;go_wp2;go_ret2;have hg0:=Hg.out;rw [show grow s (n' - n') id' ns'=(id',ns') from by rw [Nat.sub_self];rfl] at hg0;rw [HQ.out,← hg0];exact⟨rfl,F',hS',Hf.out,HF.out⟩
end Go.Proofs.YtebolidfbflkmaaGreat
end
section
namespace Go.Proofs.Qs
theorem lvl_kn {s:Int} {ls:List Int} {id:Int} (_:0≤s) (h:0≤lvl s ls id):0≤id∧id<s+ls.length:=by
 unfold lvl at h;by_cases h1:id<0;·rw [if_pos h1] at h;omega
 ·rw [if_neg h1] at h;by_cases h2:id<s;·omega
  ·rw [if_neg h2] at h;by_cases h3:id<s+ls.length;·omega
   ·rw [List.getD_eq_getElem?_getD,List.getElem?_eq_none o_] at h;simp at h
theorem lvl_tk {s:Int} {ns:List K4} {i:Nat} {id:Int} (h:id<s+i):lvl s (levs s (ns.take i)) id=lvl s (levs s ns) id:=by
 unfold lvl;by_cases h1:id<0;·rw [if_pos h1,if_pos h1]
 ·rw [if_neg h1,if_neg h1];by_cases h2:id<s;·rw [if_pos h2,if_pos h2]
  ·rw [if_neg h2,if_neg h2,← levs_take,List.getD_eq_getElem?_getD,List.getD_eq_getElem?_getD,List.getElem?_take,if_pos o_]
theorem good_kids {s:Int} {ns:List K4} (h:GoodQ s ns) {i:Nat} {k:K4} (hk:ns[i]?=some k) :
  (0≤k.a∧k.a<s+i)∧(0≤k.b∧k.b<s+i)∧(0≤k.c∧k.c<s+i)∧(0≤k.d∧k.d<s+i):=by
 have hs:0≤s:=by have:=h.1;omega
 have hi:=(List.getElem?_eq_some_iff.1 hk).1;obtain⟨h0,h1,h2,h3,h4⟩:=h.2.2.2.2 i k hk;have hl:(levs s (ns.take i)).length=i:=by rw [levs_length,List.length_take];omega
 have ka:=lvl_kn hs h0;have kb:=lvl_kn hs (by rw [h2];exact h0);have kc:=lvl_kn hs (by rw [h3];exact h0);have kd:=lvl_kn hs (by rw [h4];exact h0);rw [hl] at ka kb kc kd;exact⟨ka,kb,kc,kd⟩
theorem good_lvl {s:Int} {ns:List K4} (h:GoodQ s ns) {i:Nat} {k:K4} (hk:ns[i]?=some k) :
  lvl s (levs s ns) (s+i)=lvl s (levs s ns) k.a+1∧0≤lvl s (levs s ns) k.a∧lvl s (levs s ns) k.a<256∧lvl s (levs s ns) k.b=lvl s (levs s ns) k.a∧lvl s (levs s ns) k.c=lvl s (levs s ns) k.a∧lvl s (levs s ns) k.d=lvl s (levs s ns) k.a:=by
 have hs:=h.1;have hi:=(List.getElem?_eq_some_iff.1 hk).1;obtain⟨⟨_,ka⟩,⟨_,kb⟩,⟨_,kc⟩,⟨_,kd⟩⟩:=good_kids h hk;obtain⟨h0,h1,h2,h3,h4⟩:=h.2.2.2.2 i k hk;rw [lvl_tk ka] at h0 h1 h2 h3 h4;rw [lvl_tk kb] at h2;rw [lvl_tk kc] at h3;rw [lvl_tk kd] at h4;refine⟨?_,h0,h1,h2,h3,h4⟩;have e:(levs s ns)[i]?=some (lvl s (levs s (ns.take i)) k.a+1):=by
  have h5:levs s (ns.take (i+1))=levs s (ns.take i)++[lvl s (levs s (ns.take i)) k.a+1]:=by rw [List.take_add_one,hk];exact levs_snoc s _ k
  have h6:=congrArg (fun l:List Int=>l[i]?) h5;rw [← levs_take,List.getElem?_take,if_pos o_,List.getElem?_append_right (by rw [levs_length,List.length_take];omega),levs_length,List.length_take,Nat.min_eq_left o_,Nat.sub_self] at h6;exact h6
 rw [lvl_tk ka] at e;show (if s+(i:Int)<0 then -1 else if s+(i:Int)<s then 0 else (levs s ns).getD (s+(i:Int) - s).toNat (-1))=_;rw [if_neg o_,if_neg o_,show (s+(i:Int) - s).toNat=i by omega,List.getD_eq_getElem?_getD,e];rfl
inductive Tr where
 | leaf (n:Int)
 | node (a b c d:Tr)
 deriving DecidableEq
def tget (s:Int) (l:List Tr) (id:Int):Tr:=if id<s then .leaf id else l.getD (id - s).toNat (.leaf 0)
def trs (s:Int) (ns:List K4):List Tr:=ns.foldl (fun l k=>l++[.node (tget s l k.a) (tget s l k.b) (tget s l k.c) (tget s l k.d)]) []
theorem trs_snoc (s:Int) (ns:List K4) (k:K4):trs s (ns++[k])=trs s ns++[.node (tget s (trs s ns) k.a) (tget s (trs s ns) k.b) (tget s (trs s ns) k.c) (tget s (trs s ns) k.d)]:=by simp [trs]
theorem trs_length (s:Int) (ns:List K4):(trs s ns).length=ns.length:=by
 rcases List.eq_nil_or_concat ns with rfl|⟨l,x,rfl⟩
 ·rfl
 ·rw [List.concat_eq_append,trs_snoc];simp [trs_length s l]
termination_by ns.length
decreasing_by simp_all
theorem trs_take (s:Int) (ns:List K4):∀ i,(trs s ns).take i=trs s (ns.take i):=by
 intro i;rcases List.eq_nil_or_concat ns with rfl|⟨l,x,rfl⟩
 ·simp [trs]
 ·rw [List.concat_eq_append,trs_snoc];rcases Nat.lt_or_ge l.length i with h|h
  ·rw [List.take_of_length_le (by simp [trs_length];omega),List.take_of_length_le (by simp;omega),trs_snoc]
  ·rw [List.take_append_of_le_length (by simp [trs_length];omega),List.take_append_of_le_length h,trs_take s l i]
termination_by ns.length
decreasing_by simp_all
def tr (s:Int) (ns:List K4) (id:Int):Tr:=tget s (trs s ns) id
theorem tr_tk {s:Int} {ns:List K4} {i:Nat} {id:Int} (h:id<s+i):tr s (ns.take i) id=tr s ns id:=by
 unfold tr tget;by_cases h2:id<s;·rw [if_pos h2,if_pos h2]
 ·rw [if_neg h2,if_neg h2,← trs_take,List.getD_eq_getElem?_getD,List.getD_eq_getElem?_getD,List.getElem?_take,if_pos o_]
theorem tr_app {s:Int} {ns ms:List K4} {id:Int} (h:id<s+ns.length):tr s (ns++ms) id=tr s ns id:=by
 have:=tr_tk (s:=s) (ns:=ns++ms) (i:=ns.length) h;rw [List.take_left'] at this;·exact this.symm
 ·rfl
theorem tr_leaf {s:Int} {ns:List K4} {id:Int} (h:id<s):tr s ns id=.leaf id:=by unfold tr tget;rw [if_pos h]
theorem tr_node {s:Int} {ns:List K4} (h:GoodQ s ns) {i:Nat} {k:K4} (hk:ns[i]?=some k):tr s ns (s+i)=.node (tr s ns k.a) (tr s ns k.b) (tr s ns k.c) (tr s ns k.d):=by
 have hi:=(List.getElem?_eq_some_iff.1 hk).1;obtain⟨⟨_,ka⟩,⟨_,kb⟩,⟨_,kc⟩,⟨_,kd⟩⟩:=good_kids h hk;have e:(trs s ns)[i]?=some (.node (tr s (ns.take i) k.a) (tr s (ns.take i) k.b) (tr s (ns.take i) k.c) (tr s (ns.take i) k.d)):=by
  have h5:trs s (ns.take (i+1))=trs s (ns.take i)++[.node (tr s (ns.take i) k.a) (tr s (ns.take i) k.b) (tr s (ns.take i) k.c) (tr s (ns.take i) k.d)]:=by rw [List.take_add_one,hk];exact trs_snoc s _ k
  have h6:=congrArg (fun l:List Tr=>l[i]?) h5;rw [← trs_take,List.getElem?_take,if_pos o_,List.getElem?_append_right (by rw [trs_length,List.length_take];omega),trs_length,List.length_take,Nat.min_eq_left o_,Nat.sub_self] at h6;exact h6
 rw [tr_tk ka,tr_tk kb,tr_tk kc,tr_tk kd] at e;show (if s+(i:Int)<s then Tr.leaf _ else (trs s ns).getD (s+(i:Int) - s).toNat _)=_;rw [if_neg o_,show (s+(i:Int) - s).toNat=i by omega,List.getD_eq_getElem?_getD,e];rfl
def Kn (s:Int) (ns:List K4) (id:Int):Prop:=0≤id∧id<s+ns.length
instance (s:Int) (ns:List K4) (id:Int):Decidable (Kn s ns id):=by unfold Kn;exact inferInstance
theorem Kn.cases {s:Int} {ns:List K4} {id:Int} (h:Kn s ns id):(0≤id∧id<s)∨∃ i k,id=s+(i:Nat)∧ns[i]?=some k:=by
 by_cases h1:id<s;·exact .inl ⟨h.1,h1⟩
 ·right;have:=h.2;exact⟨(id - s).toNat,ns[(id - s).toNat]'o_,o_,List.getElem?_eq_getElem _⟩
theorem tr_inj {s:Int} {ns:List K4} (h:GoodQ s ns):∀ (n:Nat) {x y:Int},x<s+n→Kn s ns x→Kn s ns y→tr s ns x=tr s ns y→x=y
 | 0,x,y,hx,kx,ky,he=>by
  rw [tr_leaf o_] at he;rcases ky.cases with ⟨_,hy⟩|⟨j,k,rfl,hk⟩
  ·rw [tr_leaf hy] at he;cases he;rfl
  ·rw [tr_node h hk] at he;cases he
 | n+1,x,y,hx,kx,ky,he=>by
  rcases kx.cases with ⟨_,hxs⟩|⟨i,k,rfl,hk⟩
  ·exact tr_inj h n o_ kx ky he
  ·rcases ky.cases with ⟨_,hy⟩|⟨j,l,rfl,hl⟩
   ·rw [tr_leaf hy,tr_node h hk] at he;cases he
   ·rw [tr_node h hk,tr_node h hl] at he;injection he with e1 e2 e3 e4
    obtain⟨a1,b1,c1,d1⟩:=good_kids h hk;obtain⟨a2,b2,c2,d2⟩:=good_kids h hl;have hi:=(List.getElem?_eq_some_iff.1 hk).1;have hj:=(List.getElem?_eq_some_iff.1 hl).1;have f1:=tr_inj h n o_ ⟨a1.1,o_⟩ ⟨a2.1,o_⟩ e1;have f2:=tr_inj h n o_ ⟨b1.1,o_⟩ ⟨b2.1,o_⟩ e2;have f3:=tr_inj h n o_ ⟨c1.1,o_⟩ ⟨c2.1,o_⟩ e3;have f4:=tr_inj h n o_ ⟨d1.1,o_⟩ ⟨d2.1,o_⟩ e4;have hkl:k=l:=by cases k;cases l;simp only at f1 f2 f3 f4;rw [f1,f2,f3,f4]
    subst hkl;have:=(List.getElem?_inj hi h.2.2.2.1).1 (hk.trans hl.symm);omega
def Tr.ht:Tr→Nat
 | .leaf _=>0
 | .node a _ _ _=>a.ht+1
theorem lvl_ht {s:Int} {ns:List K4} (h:GoodQ s ns):∀ (n:Nat) {x:Int},x<s+n→Kn s ns x→lvl s (levs s ns) x=(tr s ns x).ht
 | 0,x,hx,kx=>by rw [tr_leaf o_];unfold lvl;rw [if_neg (by have:=kx.1;omega),if_pos o_];rfl
 | n+1,x,hx,kx=>by
  rcases kx.cases with ⟨h0,hxs⟩|⟨i,k,rfl,hk⟩
  ·rw [tr_leaf hxs];unfold lvl;rw [if_neg o_,if_pos hxs];rfl
  ·obtain⟨a1,_⟩:=good_kids h hk;have hi:=(List.getElem?_eq_some_iff.1 hk).1;rw [tr_node h hk,(good_lvl h hk).1,lvl_ht h n o_ ⟨a1.1,o_⟩];show _=(((tr s ns k.a).ht+1:Nat):Int);omega
theorem kn_lvl {s:Int} {ns:List K4} (h:GoodQ s ns) (id:Int):0≤lvl s (levs s ns) id↔Kn s ns id:=by
 constructor;·
  intro hl;have:=lvl_kn (by have:=h.1;omega) hl;rwa [levs_length] at this
 ·intro hk;rw [lvl_ht h ns.length (by have:=hk.2;omega) hk];omega
end Go.Proofs.Qs
end
