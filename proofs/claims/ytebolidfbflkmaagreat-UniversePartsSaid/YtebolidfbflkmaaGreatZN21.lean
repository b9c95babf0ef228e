/- Own texts of this claim, part 22: no condition. -/
import Derived.Test.YtebolidfbflkmaaGreatZN19
import Derived.Test.YtebolidfbflkmaaGreatZN20
set_option linter.unusedVariables false
set_option linter.unusedSimpArgs false
set_option maxHeartbeats 16000000
set_option maxRecDepth 100000
section
namespace Go.Proofs.Mp
section
variable {κ ν:Type} [DecidableEq κ]
theorem get_put_same (l:List (κ×ν)) (k:κ) (v:ν):get? (put l k v) k=some v:=by
 unfold put get?;cases h:(l.map (·.1)).idxOf? k with
 | some i =>
  obtain⟨hi,he,hn⟩:=List.idxOf?_eq_some_iff.1 h;have hi':i<l.length:=by simpa using hi
  have e:(l.set i (k,v)).map (·.1)=l.map (·.1):=by rw [List.map_set];simp only;rw [← he];exact List.set_getElem_self hi
  simp only;rw [e,h];simp [hi']
 | none =>
  have hn:=List.idxOf?_eq_none_iff.1 h;simp only;have e:((l++[(k,v)]).map (·.1)).idxOf? k=some l.length:=by rw [List.idxOf?_eq_some_iff];refine⟨i_,i_,fun j hj he=>?_⟩;have hj':j<l.length:=hj;apply hn;simp only [List.map_append] at he;rw [List.getElem_append_left (by simpa using hj')] at he;rw [← he];exact List.getElem_mem _
  rw [e];simp
theorem get_put_else (l:List (κ×ν)) {k k':κ} (v:ν) (hne:k'≠k):get? (put l k v) k'=get? l k':=by
 unfold put get?;cases h:(l.map (·.1)).idxOf? k with
 | some i =>
  obtain⟨hi,he,hn⟩:=List.idxOf?_eq_some_iff.1 h;have hi':i<l.length:=by simpa using hi
  have e:(l.set i (k,v)).map (·.1)=l.map (·.1):=by rw [List.map_set];simp only;rw [← he];exact List.set_getElem_self hi
  simp only;rw [e];cases h2:(l.map (·.1)).idxOf? k' with
  | none=>rfl
  | some j =>
   obtain⟨hj,hje,_⟩:=List.idxOf?_eq_some_iff.1 h2;have:i≠j:=fun hij=>by subst hij;exact hne (hje.symm.trans he)
   simp [List.getElem?_set,this]
 | none =>
  have hn:=List.idxOf?_eq_none_iff.1 h;simp only;cases h2:(l.map (·.1)).idxOf? k' with
  | none =>
   have hn':=List.idxOf?_eq_none_iff.1 h2;have e:((l++[(k,v)]).map (·.1)).idxOf? k'=none:=by rw [List.idxOf?_eq_none_iff,List.map_append];simp only [List.mem_append,not_or];exact⟨hn',by simp [hne]⟩
   rw [e];rfl
  | some j =>
   obtain⟨hj,hje,hjn⟩:=List.idxOf?_eq_some_iff.1 h2;have hj':j<l.length:=(by simpa using hj);have e:((l++[(k,v)]).map (·.1)).idxOf? k'=some j:=by
    rw [List.idxOf?_eq_some_iff];refine⟨by simp;omega,?_,fun i hi he=>?_⟩;·
     rw [← hje];simp only [List.map_append];rw [List.getElem_append_left hj]
    ·simp only [List.map_append] at he;rw [List.getElem_append_left (by simp;omega)] at he;exact hjn i hi he
   rw [e];simp [List.getElem?_append_left hj']
end
end Go.Proofs.Mp
namespace Go.Proofs.YtebolidfbflkmaaGreat
open Go Go.RowKit Rg Mp Hp Qs Ev
theorem keys2:KeysBy Tryz.prog 194 (pairV .i64):=KeysBy.pair (E:=3) Tryz.underlying194 rfl rfl rfl rfl (by decide) (by decide) Tryz.underlying3 k_
theorem Kept.put {r:Rule} {ns:List K4} {mm:List ((Int×Int)×Int)} (h:Kept r ns mm) {id k v:Int} {n:Nat} {t:Tr} (hi:Is r.S ns n id t) (hn:2≤n) (hk:0≤k) (hv:Is r.S ns (n - 1) v (stp (gen r) n k.toNat t)):Kept r ns (put mm (id,k) v):=fun id' k' v' h'=>by
 by_cases e:(id',k')=(id,k);·
  rw [e,get_put_same] at h';obtain rfl:=Option.some.inj h';cases e;exact⟨n,t,hi,hn,hk,hv⟩
 ·rw [get_put_else _ _ e] at h';exact h id' k' v' h'
theorem Keeps.put {mm:List ((Int×Int)×Int)} {key:Int×Int} {v:Int} (h:get? mm key=none):Keeps mm (put mm key v):=fun key' v' h'=>by
 by_cases e:key'=key;·subst e;rw [h] at h';cases h'
 ·rw [get_put_else _ _ e];exact h'
theorem map_put_has {W w:World} {rb:Nat} {mm mm':List ((Int×Int)×Int)} {Ps:List Res} {q:Obj} (h:Has W w (mapR rb mm::Ps)) (hq:MapIs { w with heap:=w.heap.setIfInBounds rb q } rb (pairV .i64) (Value.int .i64) mm'):Has W { w with heap:=w.heap.setIfInBounds rb q } (mapR rb mm'::Ps) :=
 h.turn fun F ⟨h1,h2⟩=>⟨F,⟨hq,h2⟩,(Fr.refl F w).setBlock (.inl (by simp [h2])) q,fun x hx=>.inl hx⟩
def DirectAt (W:World) (r:Rule) (hv nv:Value) (mb sb rb:Nat) (L:List Tr) (n:Nat):Prop :=
 ∀ (w:World) (Ps:List Res) (ns:List K4) (mm:List ((Int×Int)×Int)) (id:Int) (t:Tr),Has W w (memoL r hv nv mb sb rb ns mm Ps)→room r.S ns L→Kept r ns mm→Is r.S ns n id t→(∀ u∈subs (stp (gen r) n 0 t),u∈L)→RuleSrc W hv nv r Ps →
  Calls Tryz.prog 131 #[.pointer (some ⟨mb,0,none⟩),.int .i64 id,.int .i64 n] w (PartPost W r hv nv mb sb rb L ns mm n (stp (gen r) n 0 t) Ps)
def PartsAt (W:World) (r:Rule) (hv nv:Value) (mb sb rb:Nat) (L:List Tr) (n:Nat):Prop :=
 ∀ (w:World) (Ps:List Res) (ns:List K4) (mm:List ((Int×Int)×Int)) (id:Int) (k:Nat) (t:Tr),Has W w (memoL r hv nv mb sb rb ns mm Ps)→room r.S ns L→Kept r ns mm→Is r.S ns n id t→k≤n - lostOf (radius r.hood)→(∀ u∈need (gen r) (lostOf (radius r.hood)) n k t,u∈L)→RuleSrc W hv nv r Ps →
  Calls Tryz.prog 132 #[.pointer (some ⟨mb,0,none⟩),.int .i64 id,.int .i64 n,.int .i64 k,.bool (decide (k=n - lostOf (radius r.hood)))] w (PartPost W r hv nv mb sb rb L ns mm n (stp (gen r) n k t) Ps)
theorem Most_calls {mb:Nat} {lo n:Nat} {w:World} (h:w.cell? ⟨mb,5,none⟩=some (.int .i64 lo)) (hn:n≤256) (hlo:lo≤100) :
  Calls Tryz.prog 99 #[.pointer (some ⟨mb,0,none⟩),.int .i64 n] w fun e w'=>e=.returned (.int .i64 (max ((n:Int) - lo) (-1)))∧w=w':=by
 go_enter Tryz.func99,Tryz.ntmps99;go_wp2;all_goals
  go_ret;exact⟨ret_int' o_,rfl⟩
theorem max_lost {n lo:Nat} (h:lo≤n):max ((n:Int) - (lo:Int)) (-1)=((n - lo:Nat):Int):=o_
theorem direct_k {W w:World} {r:Rule} {hv nv:Value} {mb sb rb:Nat} {L:List Tr} {ns:List K4} {mm:List ((Int×Int)×Int)} {n k:Nat} {t:Tr} {Ps:List Res} {f:FuncId} {args:Array Value} (hk:k=0) (h:Calls Tryz.prog f args w (PartPost W r hv nv mb sb rb L ns mm n (stp (gen r) n 0 t) Ps)):Calls Tryz.prog f args w (PartPost W r hv nv mb sb rb L ns mm n (stp (gen r) n k t) Ps):=by subst hk;exact h
theorem step_at {W:World} {r:Rule} {hv nv:Value} {mb sb rb:Nat} {L:List Tr} {n:Nat} (hn:n≤250) (hR:rightR r=true) (hd:n=lostOf (radius r.hood)→DirectAt W r hv nv mb sb rb L n) (hp:lostOf (radius r.hood)<n→PartsAt W r hv nv mb sb rb L n):StepAt W r hv nv mb sb rb L n:=by
 intro w Ps ns mm id k t h hroom hkept hi hlo hk hL hsrc;have hl2:=lost_le (radius_le r.hood).1 (radius_le r.hood).2;have hmap:=h.swap;obtain⟨F9,hM,_⟩:=hmap.head;obtain⟨_,_,_,_,m4,m5,ml⟩:=mC_ h;have H:=q_ h;have HM:=q_ hM;have HI:=q_ hi;have HD:=q_ (fun (e:n=lostOf (radius r.hood)) w1 (hf:Fr [] w w1)=>direct_k (k:=k) o_ (hd e w1 Ps ns mm id t (h.step hf) hroom hkept hi (by
  obtain⟨n',rfl⟩:∃ n',n=n'+1:=⟨n - 1,o_⟩
  intro u hu
  refine hL u ?_
  rw [need_small o_]
  obtain rfl:k=0:=o_
  exact hu) hsrc))
 have HP:=q_ (fun (e:lostOf (radius r.hood)<n) w1 (hf:Fr [] w w1)=>hp e w1 Ps ns mm id k t (h.step hf) hroom hkept hi hk hL hsrc);cases hg:get? mm (id,(k:Int)) with
 | some v =>
  have HG:=q_ hg;have HR:=q_ (And.intro hroom hkept);have HRES:=q_ (show Is r.S ns (n - 1) v (stp (gen r) n k t) by
   obtain⟨n',t',h1,h2,h3,h4⟩:=hkept _ _ _ hg
   have e1:n=n':=by
    have a:=h1.lvl (has_good h)
    have b:=hi.lvl (has_good h)
    omega
   subst e1
   have e2:t=t':=hi.2.1.symm.trans h1.2.1
   subst e2
   rwa [Int.toNat_natCast] at h4)
  clear h hroom hkept hi hL hd hp hmap hM hg;go_enter Tryz.func100,Tryz.ntmps100;go_wp2_with (at_lookup;refine wpList_lookup_hit (f:=pairV .i64) (g:=Value.int .i64) (k:=(id,(k:Int))) (z:=.int .i64 0) rfl rfl rfl rfl HM.out Tryz.underlying137 keys2 (zero_int _) HG.out ?_);go_ret2;exact⟨v,ns,mm,rfl,H.out,List.prefix_refl _,HR.out.1,HR.out.2,HRES.out,Keeps.refl _,HG.out,fun v' hv'=>⟨Option.some.inj (HG.out.symm.trans hv'),rfl⟩⟩
 | none =>
  have HMISS:=q_ hg;clear h hroom hkept hi hL hd hp hmap hM hg;by_cases he:n=lostOf (radius r.hood);·
   have HMO:=q_ (max_lost hlo▸Most_calls m5 (n:=n) o_ o_);have hmo:n - lostOf (radius r.hood)=0:=o_;rw [hmo] at HMO;have HD':=q_ (fun w1 (hf:Fr [] w w1)=>HD.out he w1 hf);clear hmo;have HE:=q_ he;clear he;go_enter Tryz.func100,Tryz.ntmps100;go_wp2_with (first|(at_lookup;refine wpList_lookup_miss (f:=pairV .i64) (g:=Value.int .i64) (k:=(id,(k:Int))) (z:=.int .i64 0) rfl rfl rfl rfl HM.out Tryz.underlying137 keys2 (zero_int _) HMISS.out ?_)|(go_at_call 99;refine HMO.out.mono ?_;rintro e w5 ⟨rfl,rfl⟩)|fail);refine (HD'.out _ (Fr.t)).mono ?_;rintro e w5 ⟨res,ns',mm',rfl,g1,g2,g3,g4,g5,g6⟩;have hmap:=g1.swap;obtain⟨F9,hM,_⟩:=hmap.head;obtain⟨_,_,_,_,m4,_,ml⟩:=mC_ g1;have HM:=q_ hM;have H5:=q_ (And.intro g1 (And.intro g2 (And.intro g3 (And.intro g4 (And.intro g5 g6)))));clear g1 g2 g3 g4 g5 g6 hmap hM m5;go_wp2_with (at_mapUpdate;refine wpList_update_is (f:=pairV .i64) (g:=Value.int .i64) (k:=(id,(k:Int))) (v:=res) rfl rfl rfl rfl rfl HM.out Tryz.underlying137 keys2 ?_;intro q hq;have HQ:=q_ hq;clear hq m4 ml);go_ret2;refine⟨res,ns',put mm' (id,k) res,rfl,(map_put_has H5.out.1.swap HQ.out).swap,H5.out.2.1,H5.out.2.2.1,?_,H5.out.2.2.2.2.1,fun key v hv9=>?_,get_put_same _ _ _,fun v hv9=>by rw [HMISS.out] at hv9;cases hv9⟩;·exact H5.out.2.2.2.1.put (HI.out.grow H5.out.2.1) o_ o_ (by rw [Int.toNat_natCast];exact H5.out.2.2.2.2.1)
   ·by_cases e:key=(id,(k:Int));·subst e;rw [HMISS.out] at hv9;cases hv9
    ·rw [get_put_else _ _ e];exact H5.out.2.2.2.2.2 key v hv9
  ·have HMO:=q_ (max_lost hlo▸Most_calls m5 (n:=n) o_ o_);have HP':=q_ (fun w1 (hf:Fr [] w w1)=>HP.out o_ w1 hf);obtain⟨d,hd⟩:∃ d,n - lostOf (radius r.hood)=d:=⟨_,rfl⟩;rw [hd] at HMO HP';have hd0:((d:Int) == 0)=false:=(by simp;omega);have hkd:((k:Int) == (d:Int))=decide (k=d):=by
    rw [Bool.eq_iff_iff];simp;omega
   clear hd he;go_enter Tryz.func100,Tryz.ntmps100;go_wp2_with (first|(at_lookup;refine wpList_lookup_miss (f:=pairV .i64) (g:=Value.int .i64) (k:=(id,(k:Int))) (z:=.int .i64 0) rfl rfl rfl rfl HM.out Tryz.underlying137 keys2 (zero_int _) HMISS.out ?_)|(go_at_call 99;refine HMO.out.mono ?_;rintro e w5 ⟨rfl,rfl⟩)|fail);refine (HP'.out _ (Fr.t)).mono ?_;rintro e w5 ⟨res,ns',mm',rfl,g1,g2,g3,g4,g5,g6⟩;have hmap:=g1.swap;obtain⟨F9,hM,_⟩:=hmap.head;obtain⟨_,_,_,_,m4,_,ml⟩:=mC_ g1;have HM:=q_ hM;have H5:=q_ (And.intro g1 (And.intro g2 (And.intro g3 (And.intro g4 (And.intro g5 g6)))));clear g1 g2 g3 g4 g5 g6 hmap hM m5;go_wp2_with (at_mapUpdate;refine wpList_update_is (f:=pairV .i64) (g:=Value.int .i64) (k:=(id,(k:Int))) (v:=res) rfl rfl rfl rfl rfl HM.out Tryz.underlying137 keys2 ?_;intro q hq;have HQ:=q_ hq;clear hq m4 ml);go_ret2;refine⟨res,ns',put mm' (id,k) res,rfl,(map_put_has H5.out.1.swap HQ.out).swap,H5.out.2.1,H5.out.2.2.1,?_,H5.out.2.2.2.2.1,fun key v hv9=>?_,get_put_same _ _ _,fun v hv9=>by rw [HMISS.out] at hv9;cases hv9⟩;·exact H5.out.2.2.2.1.put (HI.out.grow H5.out.2.1) o_ o_ (by rw [Int.toNat_natCast];exact H5.out.2.2.2.2.1)
   ·by_cases e:key=(id,(k:Int));·subst e;rw [HMISS.out] at hv9;cases hv9
    ·rw [get_put_else _ _ e];exact H5.out.2.2.2.2.2 key v hv9
end Go.Proofs.YtebolidfbflkmaaGreat
end
section
namespace Go.Proofs.Ev
open Qs
def paste (F:Fld) (n:Nat) (t:Tr) (x y:Int):Fld:=fun i j=>if x≤i∧i<x+p2 n∧y≤j∧j<y+p2 n then cell n t (i - x) (j - y) else F i j
theorem paste_node (F:Fld) (n:Nat) (a b c d:Tr) (x y:Int):paste (paste (paste (paste F n a x y) n b (x+p2 n) y) n c x (y+p2 n)) n d (x+p2 n) (y+p2 n)=paste F (n+1) (.node a b c d) x y:=by
 funext i j;have hs:=p2_succ n;have hp:=p2_pos n;unfold paste;by_cases h:x≤i∧i<x+p2 (n+1)∧y≤j∧j<y+p2 (n+1);·
  rw [if_pos h];show _=(if j - y<p2 n then (if i - x<p2 n then cell n a (i - x) (j - y) else cell n b (i - x - p2 n) (j - y)) else (if i - x<p2 n then cell n c (i - x) (j - y - p2 n) else cell n d (i - x - p2 n) (j - y - p2 n)));by_cases hj:j - y<p2 n;·
   by_cases hi:i - x<p2 n;·rw [if_neg o_,if_neg o_,if_neg o_,if_pos o_,if_pos hj,if_pos hi]
   ·rw [if_neg o_,if_neg o_,if_pos o_,if_pos hj,if_neg hi];congr 1;omega
  ·by_cases hi:i - x<p2 n;·
    rw [if_neg o_,if_pos o_,if_neg hj,if_pos hi];congr 1;omega
   ·rw [if_pos o_,if_neg hj,if_neg hi];congr 1<;>omega
 ·rw [if_neg h,if_neg o_,if_neg o_,if_neg o_,if_neg o_]
theorem rowL_set {m:Nat} {F G:Fld} {y:Int} {k:Nat} {v:Int} (hk:k<m) (h:∀ i:Nat,i<m→G i y=if i=k then v else F i y):(rowL m F 0 y).set k v=rowL m G 0 y:=by
 apply List.ext_getElem?;intro i;rw [List.getElem?_set];by_cases hi:i<m;·
  rw [rowL_get hi,rowL_get hi,Int.zero_add,h i hi];by_cases e:k=i;·
   subst e;rw [if_pos rfl,if_pos (by rw [rowL_length];exact hk),if_pos rfl]
  ·rw [if_neg e,if_neg (Ne.symm e)]
 ·rw [if_neg o_,List.getElem?_eq_none (by rw [rowL_length];omega),List.getElem?_eq_none (by rw [rowL_length];omega)]
end Go.Proofs.Ev
namespace Go.Proofs.YtebolidfbflkmaaGreat
open Go Go.RowKit Rg Mp Hp Qs Ev
def rowV (m:Nat) (b:Nat):Value:=.slice (some ⟨b,0,none⟩) m m
def MatAt (w:World) (ob m:Nat) (bs:List Nat) (F:Fld):Prop :=
 bs.length=m∧w.heap[ob]?=some (.cells (bs.map (rowV m)).toArray 72 (0,0))∧(∀ (i b:Nat),bs[i]?=some b→w.heap[b]?=some (Obj.cells (iv (rowL m F 0 i)).toArray 3 (0,0)))∧bs.Nodup∧ob∉bs
def matR (ob m:Nat) (bs:List Nat) (F:Fld):Res where
 holds w G:=MatAt w ob m bs F∧G=ob::bs
 keep:=fun ⟨⟨h1,h2,h3,h4,h5⟩,h6⟩ hk=>⟨⟨h1,by rw [hk ob (by simp [h6])];exact h2,fun i b hb=>by rw [hk b (by rw [h6];simp [List.mem_of_getElem? hb])];exact h3 i b hb,h4,h5⟩,h6⟩
 lt:=fun ⟨⟨h1,h2,h3,h4,h5⟩,h6⟩ x hx=>by
  rw [h6,List.mem_cons] at hx;rcases hx with rfl|hx
  ·exact lBk h2
  ·obtain⟨i,hi,rfl⟩:=List.mem_iff_getElem.1 hx;exact lBk (h3 i _ (List.getElem?_eq_getElem hi))
section
variable {W w:World} {ob m:Nat} {bs:List Nat} {F:Fld} {Ps:List Res}
theorem mat_row (h:Has W w (matR ob m bs F::Ps)) {y:Nat} (hy:y<m):∃ b,bs[y]?=some b∧w.cell? ⟨ob,y,none⟩=some (.slice (some ⟨b,0,none⟩) m m)∧(∀ x:Nat,x<m→w.cell? ⟨b,x,none⟩=some (.int .i64 (F x y)))∧(∀ x,w.frozen? ⟨b,x,none⟩=false)∧b<w.heap.size∧ob<w.heap.size:=by
 obtain⟨_,⟨⟨h1,h2,h3,h4,h5⟩,_⟩⟩:=h.head;have hb:bs[y]?=some (bs[y]'o_):=List.getElem?_eq_getElem o_;have hr:=h3 y _ hb;refine⟨_,hb,?_,fun x hx=>?_,fun x=>hEF hr x,lBk hr,lBk h2⟩;·
  rw [hEC h2 y];simp [hb,rowV]
 ·rw [hEC hr x];have:=iv_get (rowL_get (m:=m) (F:=F) (ox:=0) (y:=y) hx);rw [Int.zero_add] at this;simpa using this
theorem mat_set (h:Has W w (matR ob m bs F::Ps)) {y x b:Nat} (hx:x<m) (hb:bs[y]?=some b) {v:Int} {G:Fld} (hG:∀ i j:Nat,G i j=if i=x∧j=y then v else F i j):Has W (w.setCell ⟨b,x,none⟩ (.int .i64 v)) (matR ob m bs G::Ps) :=
 h.turn fun H ⟨⟨h1,h2,h3,h4,h5⟩,h6⟩=>by
  have hbm:b∈bs:=List.mem_of_getElem? hb;refine⟨H,⟨⟨h1,?_,fun i c hc=>?_,h4,h5⟩,h6⟩,(Fr.refl H w).setCell (.inl (by rw [h6];simp [hbm])) _,fun z hz=>.inl hz⟩;·rw [heap_setCell_else _ _ _ _ (fun e:ob=b=>h5 (by rw [e];exact hbm))];exact h2
  ·by_cases e:c=b;·
    subst e;obtain rfl:i=y:=by obtain⟨hi,hi'⟩:=List.getElem?_eq_some_iff.1 hc;exact (List.getElem?_inj hi h4).1 (hc.trans hb.symm)
    have:=heap_setCell_here (h3 i c hc) x (.int .i64 v);rw [this,iv_setIf,rowL_set (G:=G) hx fun k hk=>?_];rw [hG k i];simp
   ·rw [heap_setCell_else _ _ _ _ e,h3 i c hc];congr 4;refine List.map_congr_left fun k hk=>?_;rw [Int.zero_add,hG k i,if_neg];rintro⟨rfl,rfl⟩;exact e (Option.some.inj (hc.symm.trans hb))
end
def FillPost (W:World) (r:Rule) (hv nv:Value) (mb sb rb:Nat) (ns:List K4) (mm:List ((Int×Int)×Int)) (ob m:Nat) (bs:List Nat) (F:Fld) (Ps:List Res) (e:Ending) (w':World):Prop :=
 e=.returned (.tuple #[])∧Has W w' (memoL r hv nv mb sb rb ns mm (matR ob m bs F::Ps))
theorem fill_zero {W w:World} {r:Rule} {hv nv:Value} {mb sb rb:Nat} {ns:List K4} {mm:List ((Int×Int)×Int)} {ob m:Nat} {bs:List Nat} {F:Fld} {Ps:List Res} (h:Has W w (memoL r hv nv mb sb rb ns mm (matR ob m bs F::Ps))) {id:Int} {t:Tr} (hi:Is r.S ns 0 id t) {x y:Nat} (hx:x<m) (hy:y<m) (hm:m≤1000) :
  Calls Tryz.prog 148 #[.pointer (some ⟨mb,0,none⟩),.int .i64 id,.int .i64 0,.int .i64 x,.int .i64 y,.slice (some ⟨ob,0,none⟩) m m] w (FillPost W r hv nv mb sb rb ns mm ob m bs (paste F 0 t x y) Ps):=by
 obtain⟨_,_,rfl⟩:=hi.zero (has_good h);obtain⟨b,hb,c0,c1,cz,cl,ol⟩:=mat_row h.fourth hy;have c1:=c1 x hx;have cz:=cz x;have HF:=q_ (mat_set h.fourth hx hb (v:=id) (G:=paste F 0 (.leaf id) x y) fun i j=>by
  unfold paste
  rw [p2_zero]
  by_cases e:i=x∧j=y
  ·rw [if_pos e,if_pos o_];rfl
  ·rw [if_neg e,if_neg o_]).back4
 clear h hi hb;go_enter Tryz.func148,Tryz.ntmps148;go_wp2;refine bodyPost_ret (v:=.tuple #[]) (by simp [results,Tryz.results148,go_sem]) rfl ?_;exact⟨rfl,HF.out⟩
end Go.Proofs.YtebolidfbflkmaaGreat
end
section
namespace Go.Proofs.YtebolidfbflkmaaGreat
open Go Go.RowKit Rg Mp Hp Qs Ev
def FillAt (W:World) (r:Rule) (hv nv:Value) (mb sb rb:Nat) (ns:List K4) (mm:List ((Int×Int)×Int)) (ob m:Nat) (bs:List Nat) (Ps:List Res) (n:Nat):Prop :=
 ∀ (w:World) (F:Fld) (id:Int) (t:Tr) (x y:Nat) (z zx zy:Int),z=n→zx=x→zy=y→Has W w (memoL r hv nv mb sb rb ns mm (matR ob m bs F::Ps))→Is r.S ns n id t→x+2 ^ n≤m→y+2 ^ n≤m →
  Calls Tryz.prog 148 #[.pointer (some ⟨mb,0,none⟩),.int .i64 id,.int .i64 z,.int .i64 zx,.int .i64 zy,.slice (some ⟨ob,0,none⟩) m m] w (FillPost W r hv nv mb sb rb ns mm ob m bs (paste F n t x y) Ps)
section
variable {W:World} {r:Rule} {hv nv:Value} {mb sb rb:Nat} {ns:List K4} {mm:List ((Int×Int)×Int)} {ob m:Nat} {bs:List Nat} {Ps:List Res}
theorem fillAt_zero (hm:m≤1000):FillAt W r hv nv mb sb rb ns mm ob m bs Ps 0:=by intro w F id t x y z zx zy hz hx hy h hi h1 h2;subst hz;subst hx;subst hy;exact fill_zero h hi o_ o_ hm
def qpaste (F:Fld) (n:Nat) (t:Tr) (x y:Int):Nat→Fld
 | 0=>F
 | q+1=>paste (qpaste F n t x y q) n (Tr.q t q) (x+(q % 2:Nat)*p2 n) (y+(q / 2:Nat)*p2 n)
theorem qpaste_four {F:Fld} {n:Nat} {t:Tr} {x y:Int} (ht:Full (n+1) t):qpaste F n t x y 4=paste F (n+1) t x y:=by
 match t,ht with
 | .node a b c d,_ =>rw [← paste_node];show paste (paste (paste (paste F n a (x+0*p2 n) (y+0*p2 n)) n b (x+1*p2 n) (y+0*p2 n)) n c (x+0*p2 n) (y+1*p2 n)) n d (x+1*p2 n) (y+1*p2 n)=_;simp only [Int.zero_mul,Int.one_mul,Int.add_zero]
theorem fill_next {w:World} {F:Fld} {n q:Nat} {t:Tr} {x y a b:Nat} (h:Has W w (memoL r hv nv mb sb rb ns mm (matR ob m bs (paste (qpaste F n t x y q) n (Tr.q t q) a b)::Ps))) (ha:a=x+q % 2*2 ^ n) (hb:b=y+q / 2*2 ^ n):Has W w (memoL r hv nv mb sb rb ns mm (matR ob m bs (qpaste F n t x y (q+1))::Ps)):=by
 subst ha;subst hb;have e:qpaste F n t x y (q+1)=paste (qpaste F n t x y q) n (Tr.q t q) ((x+q % 2*2 ^ n:Nat):Int) ((y+q / 2*2 ^ n:Nat):Int):=by show paste (qpaste F n t x y q) n (Tr.q t q) ((x:Int)+(q % 2:Nat)*p2 n) ((y:Int)+(q / 2:Nat)*p2 n)=_;unfold p2;rw [Int.natCast_add,Int.natCast_mul,Int.natCast_add,Int.natCast_mul]
 rw [e];exact h
theorem fillAt_one (hm:m≤1000) (ih:FillAt W r hv nv mb sb rb ns mm ob m bs Ps 0):FillAt W r hv nv mb sb rb ns mm ob m bs Ps (0+1):=by
 intro w F id t x y z zx zy hz hx hy h hi h1 h2;obtain rfl:z=1:=by rw [hz];rfl
 subst hx;subst hy;simp only [show (2:Nat) ^ (0+1)=2 by decide] at h1 h2;obtain⟨_,_,hk⟩:=hi.node (has_good h);have HK1:=q_ (fun w1 (h1:Has W w1 (memoL r hv nv mb sb rb ns mm (matR ob m bs F::Ps)))=>Kids_has h1 hi);have HK:=q_ hk;have HQ:=q_ (qpaste_four (F:=F) (x:=x) (y:=y) hi.2.2.1);obtain⟨_,_,_,m3,_,_,ml⟩:=mC_ h;have H:=q_ h;clear h hk hi hz;go_enter Tryz.func148,Tryz.ntmps148;go_wp2_with fail;refine (HK1.out _ H.out).mono ?_;rintro e w3 ⟨rfl,h,hf⟩;have H3:=q_ h;clear h hf H m3 ml;go_wp2;go_loopw [39] (fun x' wr=>∃ z:Int,x'=.int .i64 z∧At5 (fun q=>Has W wr (memoL r hv nv mb sb rb ns mm (matR ob m bs (qpaste F 0 t x y q)::Ps))) z) (fun x _=>4 - (intOf x).toNat);case atStart=>exact⟨0,rfl,.inl ⟨rfl,H3.out.step ((Fr.refl [] w3).alloc _)⟩⟩
 case round =>
  obtain⟨z,rfl,hz⟩:=hrel;clear H3;rcases hz with ⟨rfl,h⟩|⟨rfl,h⟩|⟨rfl,h⟩|⟨rfl,h⟩|⟨rfl,h⟩
  ·have H:=q_ h;obtain⟨_,_,_,m3,_,_,ml⟩:=mC_ h;clear h;have HC:=q_ (fun (z zx zy:Int) (e1:z=((0:Nat):Int)) (e2:zx=((x+0 % 2*2 ^ 0:Nat):Int)) (e3:zy=((y+0 / 2*2 ^ 0:Nat):Int))=>ih _ _ _ _ _ _ z zx zy e1 e2 e3 H.out (HK.out 0 o_) o_ o_);go_wp2_with fail;refine (HC.out _ _ _ o_ (by simp;try omega) (by simp;try omega)).mono ?_;rintro e w5 ⟨rfl,h⟩;have H5:=q_ h;clear h HC m3 ml H;go_wp2;go_roundw;case rel=>exact⟨1,rfl,(.inr (.inl ⟨rfl,fill_next H5.out rfl rfl⟩))⟩
   case measure=>simp [intOf]
  ·have H:=q_ h;obtain⟨_,_,_,m3,_,_,ml⟩:=mC_ h;clear h;have HC:=q_ (fun (z zx zy:Int) (e1:z=((0:Nat):Int)) (e2:zx=((x+1 % 2*2 ^ 0:Nat):Int)) (e3:zy=((y+1 / 2*2 ^ 0:Nat):Int))=>ih _ _ _ _ _ _ z zx zy e1 e2 e3 H.out (HK.out 1 o_) o_ o_);go_wp2_with fail;refine (HC.out _ _ _ o_ (by simp;try omega) (by simp;try omega)).mono ?_;rintro e w5 ⟨rfl,h⟩;have H5:=q_ h;clear h HC m3 ml H;go_wp2;go_roundw;case rel=>exact⟨2,rfl,(.inr (.inr (.inl ⟨rfl,fill_next H5.out rfl rfl⟩)))⟩
   case measure=>simp [intOf]
  ·have H:=q_ h;obtain⟨_,_,_,m3,_,_,ml⟩:=mC_ h;clear h;have HC:=q_ (fun (z zx zy:Int) (e1:z=((0:Nat):Int)) (e2:zx=((x+2 % 2*2 ^ 0:Nat):Int)) (e3:zy=((y+2 / 2*2 ^ 0:Nat):Int))=>ih _ _ _ _ _ _ z zx zy e1 e2 e3 H.out (HK.out 2 o_) o_ o_);go_wp2_with fail;refine (HC.out _ _ _ o_ (by simp;try omega) (by simp;try omega)).mono ?_;rintro e w5 ⟨rfl,h⟩;have H5:=q_ h;clear h HC m3 ml H;go_wp2;go_roundw;case rel=>exact⟨3,rfl,(.inr (.inr (.inr (.inl ⟨rfl,fill_next H5.out rfl rfl⟩))))⟩
   case measure=>simp [intOf]
  ·have H:=q_ h;obtain⟨_,_,_,m3,_,_,ml⟩:=mC_ h;clear h;have HC:=q_ (fun (z zx zy:Int) (e1:z=((0:Nat):Int)) (e2:zx=((x+3 % 2*2 ^ 0:Nat):Int)) (e3:zy=((y+3 / 2*2 ^ 0:Nat):Int))=>ih _ _ _ _ _ _ z zx zy e1 e2 e3 H.out (HK.out 3 o_) o_ o_);go_wp2_with fail;refine (HC.out _ _ _ o_ (by simp;try omega) (by simp;try omega)).mono ?_;rintro e w5 ⟨rfl,h⟩;have H5:=q_ h;clear h HC m3 ml H;go_wp2;go_roundw;case rel=>exact⟨4,rfl,(.inr (.inr (.inr (.inr ⟨rfl,fill_next H5.out rfl rfl⟩))))⟩
   case measure=>simp [intOf]
  ·have H:=q_ h;clear h;go_wp2;refine bodyPost_ret (v:=.tuple #[]) (by simp [results,Tryz.results148,go_sem]) rfl ?_;refine⟨rfl,?_⟩;rw [← HQ.out];exact H.out
theorem fillAt_two (hm:m≤1000) (ih:FillAt W r hv nv mb sb rb ns mm ob m bs Ps 1):FillAt W r hv nv mb sb rb ns mm ob m bs Ps (1+1):=by
 intro w F id t x y z zx zy hz hx hy h hi h1 h2;obtain rfl:z=2:=by rw [hz];rfl
 subst hx;subst hy;simp only [show (2:Nat) ^ (1+1)=4 by decide] at h1 h2;obtain⟨_,_,hk⟩:=hi.node (has_good h);have HK1:=q_ (fun w1 (h1:Has W w1 (memoL r hv nv mb sb rb ns mm (matR ob m bs F::Ps)))=>Kids_has h1 hi);have HK:=q_ hk;have HQ:=q_ (qpaste_four (F:=F) (x:=x) (y:=y) hi.2.2.1);obtain⟨_,_,_,m3,_,_,ml⟩:=mC_ h;have H:=q_ h;clear h hk hi hz;go_enter Tryz.func148,Tryz.ntmps148;go_wp2_with fail;refine (HK1.out _ H.out).mono ?_;rintro e w3 ⟨rfl,h,hf⟩;have H3:=q_ h;clear h hf H m3 ml;go_wp2;go_loopw [39] (fun x' wr=>∃ z:Int,x'=.int .i64 z∧At5 (fun q=>Has W wr (memoL r hv nv mb sb rb ns mm (matR ob m bs (qpaste F 1 t x y q)::Ps))) z) (fun x _=>4 - (intOf x).toNat);case atStart=>exact⟨0,rfl,.inl ⟨rfl,H3.out.step ((Fr.refl [] w3).alloc _)⟩⟩
 case round =>
  obtain⟨z,rfl,hz⟩:=hrel;clear H3;rcases hz with ⟨rfl,h⟩|⟨rfl,h⟩|⟨rfl,h⟩|⟨rfl,h⟩|⟨rfl,h⟩
  ·have H:=q_ h;obtain⟨_,_,_,m3,_,_,ml⟩:=mC_ h;clear h;have HC:=q_ (fun (z zx zy:Int) (e1:z=((1:Nat):Int)) (e2:zx=((x+0 % 2*2 ^ 1:Nat):Int)) (e3:zy=((y+0 / 2*2 ^ 1:Nat):Int))=>ih _ _ _ _ _ _ z zx zy e1 e2 e3 H.out (HK.out 0 o_) o_ o_);go_wp2_with fail;refine (HC.out _ _ _ o_ (by simp;try omega) (by simp;try omega)).mono ?_;rintro e w5 ⟨rfl,h⟩;have H5:=q_ h;clear h HC m3 ml H;go_wp2;go_roundw;case rel=>exact⟨1,rfl,(.inr (.inl ⟨rfl,fill_next H5.out rfl rfl⟩))⟩
   case measure=>simp [intOf]
  ·have H:=q_ h;obtain⟨_,_,_,m3,_,_,ml⟩:=mC_ h;clear h;have HC:=q_ (fun (z zx zy:Int) (e1:z=((1:Nat):Int)) (e2:zx=((x+1 % 2*2 ^ 1:Nat):Int)) (e3:zy=((y+1 / 2*2 ^ 1:Nat):Int))=>ih _ _ _ _ _ _ z zx zy e1 e2 e3 H.out (HK.out 1 o_) o_ o_);go_wp2_with fail;refine (HC.out _ _ _ o_ (by simp;try omega) (by simp;try omega)).mono ?_;rintro e w5 ⟨rfl,h⟩;have H5:=q_ h;clear h HC m3 ml H;go_wp2;go_roundw;case rel=>exact⟨2,rfl,(.inr (.inr (.inl ⟨rfl,fill_next H5.out rfl rfl⟩)))⟩
   case measure=>simp [intOf]
  ·have H:=q_ h;obtain⟨_,_,_,m3,_,_,ml⟩:=mC_ h;clear h;have HC:=q_ (fun (z zx zy:Int) (e1:z=((1:Nat):Int)) (e2:zx=((x+2 % 2*2 ^ 1:Nat):Int)) (e3:zy=((y+2 / 2*2 ^ 1:Nat):Int))=>ih _ _ _ _ _ _ z zx zy e1 e2 e3 H.out (HK.out 2 o_) o_ o_);go_wp2_with fail;refine (HC.out _ _ _ o_ (by simp;try omega) (by simp;try omega)).mono ?_;rintro e w5 ⟨rfl,h⟩;have H5:=q_ h;clear h HC m3 ml H;go_wp2;go_roundw;case rel=>exact⟨3,rfl,(.inr (.inr (.inr (.inl ⟨rfl,fill_next H5.out rfl rfl⟩))))⟩
   case measure=>simp [intOf]
  ·have H:=q_ h;obtain⟨_,_,_,m3,_,_,ml⟩:=mC_ h;clear h;have HC:=q_ (fun (z zx zy:Int) (e1:z=((1:Nat):Int)) (e2:zx=((x+3 % 2*2 ^ 1:Nat):Int)) (e3:zy=((y+3 / 2*2 ^ 1:Nat):Int))=>ih _ _ _ _ _ _ z zx zy e1 e2 e3 H.out (HK.out 3 o_) o_ o_);go_wp2_with fail;refine (HC.out _ _ _ o_ (by simp;try omega) (by simp;try omega)).mono ?_;rintro e w5 ⟨rfl,h⟩;have H5:=q_ h;clear h HC m3 ml H;go_wp2;go_roundw;case rel=>exact⟨4,rfl,(.inr (.inr (.inr (.inr ⟨rfl,fill_next H5.out rfl rfl⟩))))⟩
   case measure=>simp [intOf]
  ·have H:=q_ h;clear h;go_wp2;refine bodyPost_ret (v:=.tuple #[]) (by simp [results,Tryz.results148,go_sem]) rfl ?_;refine⟨rfl,?_⟩;rw [← HQ.out];exact H.out
theorem fillAt_three (hm:m≤1000) (ih:FillAt W r hv nv mb sb rb ns mm ob m bs Ps 2):FillAt W r hv nv mb sb rb ns mm ob m bs Ps (2+1):=by
 intro w F id t x y z zx zy hz hx hy h hi h1 h2;obtain rfl:z=3:=by rw [hz];rfl
 subst hx;subst hy;simp only [show (2:Nat) ^ (2+1)=8 by decide] at h1 h2;obtain⟨_,_,hk⟩:=hi.node (has_good h);have HK1:=q_ (fun w1 (h1:Has W w1 (memoL r hv nv mb sb rb ns mm (matR ob m bs F::Ps)))=>Kids_has h1 hi);have HK:=q_ hk;have HQ:=q_ (qpaste_four (F:=F) (x:=x) (y:=y) hi.2.2.1);obtain⟨_,_,_,m3,_,_,ml⟩:=mC_ h;have H:=q_ h;clear h hk hi hz;go_enter Tryz.func148,Tryz.ntmps148;go_wp2_with fail;refine (HK1.out _ H.out).mono ?_;rintro e w3 ⟨rfl,h,hf⟩;have H3:=q_ h;clear h hf H m3 ml;go_wp2;go_loopw [39] (fun x' wr=>∃ z:Int,x'=.int .i64 z∧At5 (fun q=>Has W wr (memoL r hv nv mb sb rb ns mm (matR ob m bs (qpaste F 2 t x y q)::Ps))) z) (fun x _=>4 - (intOf x).toNat);case atStart=>exact⟨0,rfl,.inl ⟨rfl,H3.out.step ((Fr.refl [] w3).alloc _)⟩⟩
 case round =>
  obtain⟨z,rfl,hz⟩:=hrel;clear H3;rcases hz with ⟨rfl,h⟩|⟨rfl,h⟩|⟨rfl,h⟩|⟨rfl,h⟩|⟨rfl,h⟩
  ·have H:=q_ h;obtain⟨_,_,_,m3,_,_,ml⟩:=mC_ h;clear h;have HC:=q_ (fun (z zx zy:Int) (e1:z=((2:Nat):Int)) (e2:zx=((x+0 % 2*2 ^ 2:Nat):Int)) (e3:zy=((y+0 / 2*2 ^ 2:Nat):Int))=>ih _ _ _ _ _ _ z zx zy e1 e2 e3 H.out (HK.out 0 o_) o_ o_);go_wp2_with fail;refine (HC.out _ _ _ o_ (by simp;try omega) (by simp;try omega)).mono ?_;rintro e w5 ⟨rfl,h⟩;have H5:=q_ h;clear h HC m3 ml H;go_wp2;go_roundw;case rel=>exact⟨1,rfl,(.inr (.inl ⟨rfl,fill_next H5.out rfl rfl⟩))⟩
   case measure=>simp [intOf]
  ·have H:=q_ h;obtain⟨_,_,_,m3,_,_,ml⟩:=mC_ h;clear h;have HC:=q_ (fun (z zx zy:Int) (e1:z=((2:Nat):Int)) (e2:zx=((x+1 % 2*2 ^ 2:Nat):Int)) (e3:zy=((y+1 / 2*2 ^ 2:Nat):Int))=>ih _ _ _ _ _ _ z zx zy e1 e2 e3 H.out (HK.out 1 o_) o_ o_);go_wp2_with fail;refine (HC.out _ _ _ o_ (by simp;try omega) (by simp;try omega)).mono ?_;rintro e w5 ⟨rfl,h⟩;have H5:=q_ h;clear h HC m3 ml H;go_wp2;go_roundw;case rel=>exact⟨2,rfl,(.inr (.inr (.inl ⟨rfl,fill_next H5.out rfl rfl⟩)))⟩
   case measure=>simp [intOf]
  ·have H:=q_ h;obtain⟨_,_,_,m3,_,_,ml⟩:=mC_ h;clear h;have HC:=q_ (fun (z zx zy:Int) (e1:z=((2:Nat):Int)) (e2:zx=((x+2 % 2*2 ^ 2:Nat):Int)) (e3:zy=((y+2 / 2*2 ^ 2:Nat):Int))=>ih _ _ _ _ _ _ z zx zy e1 e2 e3 H.out (HK.out 2 o_) o_ o_);go_wp2_with fail;refine (HC.out _ _ _ o_ (by simp;try omega) (by simp;try omega)).mono ?_;rintro e w5 ⟨rfl,h⟩;have H5:=q_ h;clear h HC m3 ml H;go_wp2;go_roundw;case rel=>exact⟨3,rfl,(.inr (.inr (.inr (.inl ⟨rfl,fill_next H5.out rfl rfl⟩))))⟩
   case measure=>simp [intOf]
  ·have H:=q_ h;obtain⟨_,_,_,m3,_,_,ml⟩:=mC_ h;clear h;have HC:=q_ (fun (z zx zy:Int) (e1:z=((2:Nat):Int)) (e2:zx=((x+3 % 2*2 ^ 2:Nat):Int)) (e3:zy=((y+3 / 2*2 ^ 2:Nat):Int))=>ih _ _ _ _ _ _ z zx zy e1 e2 e3 H.out (HK.out 3 o_) o_ o_);go_wp2_with fail;refine (HC.out _ _ _ o_ (by simp;try omega) (by simp;try omega)).mono ?_;rintro e w5 ⟨rfl,h⟩;have H5:=q_ h;clear h HC m3 ml H;go_wp2;go_roundw;case rel=>exact⟨4,rfl,(.inr (.inr (.inr (.inr ⟨rfl,fill_next H5.out rfl rfl⟩))))⟩
   case measure=>simp [intOf]
  ·have H:=q_ h;clear h;go_wp2;refine bodyPost_ret (v:=.tuple #[]) (by simp [results,Tryz.results148,go_sem]) rfl ?_;refine⟨rfl,?_⟩;rw [← HQ.out];exact H.out
end
end Go.Proofs.YtebolidfbflkmaaGreat
end
section
namespace Go.Proofs.Ev
open Qs
theorem subs_mk_part {n:Nat} {F:Fld} {x y:Int} {q:Nat} (hq:q<4) {u:Tr} (hu:u∈subs (mk n F (x+(q % 2:Nat)*p2 n) (y+(q / 2:Nat)*p2 n))):u∈subs (mk (n+1) F x y):=by
 show u∈subs (mk n F x y)++subs (mk n F (x+p2 n) y)++subs (mk n F x (y+p2 n))++subs (mk n F (x+p2 n) (y+p2 n))++[_];simp only [List.mem_append]
 match q,hq with
 | 0,_=>simp only [Nat.zero_mod,Nat.zero_div,Int.natCast_zero,Int.zero_mul,Int.add_zero] at hu;exact .inl (.inl (.inl (.inl hu)))
 | 1,_=>rw [show ((1 % 2:Nat):Int)*p2 n=p2 n by simp,show ((1 / 2:Nat):Int)*p2 n=0 by simp,Int.add_zero] at hu;exact .inl (.inl (.inl (.inr hu)))
 | 2,_=>rw [show ((2 % 2:Nat):Int)*p2 n=0 by simp,show ((2 / 2:Nat):Int)*p2 n=p2 n by simp,Int.add_zero] at hu;exact .inl (.inl (.inr hu))
 | 3,_=>rw [show ((3 % 2:Nat):Int)*p2 n=p2 n by simp] at hu;exact .inl (.inr hu)
theorem subs_mk_self {n:Nat} {F:Fld} {x y:Int}:mk (n+1) F x y∈subs (mk (n+1) F x y):=by show _∈_++[mk (n+1) F x y];simp
end Go.Proofs.Ev
namespace Go.Proofs.YtebolidfbflkmaaGreat
open Go Go.RowKit Rg Mp Hp Qs Ev
def SquarePost (W:World) (r:Rule) (hv nv:Value) (mb sb rb:Nat) (L:List Tr) (ns:List K4) (mm:List ((Int×Int)×Int)) (T:Tr) (n:Nat) (Ps:List Res) (e:Ending) (w':World):Prop :=
 ∃ res ns',e=.returned (.tuple #[.int .i64 res,.int .i64 0])∧Has W w' (memoL r hv nv mb sb rb ns' mm Ps)∧ns <+: ns'∧room r.S ns' L∧Is r.S ns' n res T
def SquareAt (W:World) (r:Rule) (hv nv:Value) (mb sb rb:Nat) (L:List Tr) (mm:List ((Int×Int)×Int)) (ob m:Nat) (bs:List Nat) (F:Fld) (n:Nat):Prop :=
 ∀ (w:World) (Ps:List Res) (ns:List K4) (x y:Nat) (z zx zy:Int),z=n→zx=x→zy=y→Has W w (memoL r hv nv mb sb rb ns mm (matR ob m bs F::Ps))→room r.S ns L→x+2 ^ n≤m→y+2 ^ n≤m →
  (∀ i j:Nat,x≤i→i<x+2 ^ n→y≤j→j<y+2 ^ n→0≤F i j∧F i j<r.S)→(∀ u∈subs (mk n F x y),u∈L) →
  Calls Tryz.prog 149 #[.pointer (some ⟨mb,0,none⟩),.slice (some ⟨ob,0,none⟩) m m,.int .i64 z,.int .i64 zx,.int .i64 zy] w (SquarePost W r hv nv mb sb rb L ns mm (mk n F x y) n (matR ob m bs F::Ps))
section
variable {W:World} {r:Rule} {hv nv:Value} {mb sb rb:Nat} {L:List Tr} {mm:List ((Int×Int)×Int)} {ob m:Nat} {bs:List Nat} {F:Fld}
theorem squareAt_zero (hm:m≤1000):SquareAt W r hv nv mb sb rb L mm ob m bs F 0:=by
 intro w Ps ns x y z zx zy hz hx hy h hr h1 h2 hF hL;subst hz;subst hx;subst hy;have hv0:=hF x y o_ o_ o_ o_;obtain⟨b,hb,c0,c1,cz,cl,ol⟩:=mat_row h.fourth (y:=y) o_;have c1:=c1 x o_;have HI:=q_ (Is.leaf (ns:=ns) hv0.1 hv0.2);have H:=q_ h;have HR:=q_ hr;have h1':x<m:=o_
 have h2':y<m:=o_
 clear hv0 h hF hL cz hb hr h1 h2;go_enter Tryz.func149,Tryz.ntmps149;go_wp2;go_ret2;exact⟨F x y,ns,rfl,H.out,List.prefix_refl _,HR.out,HI.out⟩
structure SqSt (W wr:World) (r:Rule) (hv nv:Value) (mb sb rb:Nat) (L:List Tr) (ns0:List K4) (mm:List ((Int×Int)×Int)) (Ps:List Res) (n:Nat) (F:Fld) (x y:Int) (qb:Nat) (ns:List K4) (O:List Int) (m:Nat):Prop where
 has:Has W wr (memoL r hv nv mb sb rb ns mm (Hp.blk qb (.cells (iv O).toArray 132 (0,0))::Ps))
 len:O.length=4
 pre:ns0 <+: ns
 room:Qs.room r.S ns L
 done:∀ j,j<m→Is r.S ns n (O.getD j 0) (mk n F (x+(j % 2:Nat)*p2 n) (y+(j / 2:Nat)*p2 n))
theorem SqSt.put {wr wr':World} {ns0 ns ns':List K4} {Ps:List Res} {n qb k:Nat} {x y:Int} {O:List Int} (h:SqSt W wr r hv nv mb sb rb L ns0 mm Ps n F x y qb ns O k) (hm:k<4) {v:Int} {a b:Int}
  (hh:Has W wr' (memoL r hv nv mb sb rb ns' mm (Hp.blk qb (.cells (iv O).toArray 132 (0,0))::Ps))) (hp:ns <+: ns') (hr:Qs.room r.S ns' L) (hv':Is r.S ns' n v (Go.Proofs.Ev.mk n F a b)) (ha:a=x+(k % 2:Nat)*p2 n) (hb:b=y+(k / 2:Nat)*p2 n) :
  SqSt W (wr'.setCell ⟨qb,k,none⟩ (.int .i64 v)) r hv nv mb sb rb L ns0 mm Ps n F x y qb ns' (O.set k v) (k+1) where
 has:=by have:=(hST hh.fourth k (.int .i64 v)).back4;rwa [iv_setIf] at this
 len:=by rw [List.length_set];exact h.len
 pre:=h.pre.trans hp
 room:=hr
 done:=fun j hj=>by
  by_cases e:j=k;·
   subst e;rw [getD_set_same (by rw [h.len];exact hm),← ha,← hb];exact hv'
  ·rw [getD_set_else e];exact (h.done j o_).grow hp
theorem squareAt_one (hm:m≤1000) (ih:SquareAt W r hv nv mb sb rb L mm ob m bs F 0):SquareAt W r hv nv mb sb rb L mm ob m bs F (0+1):=by
 intro w Ps ns x y z zx zy hz hx hy h hr h1 h2 hFF hL;obtain rfl:z=1:=by rw [hz];rfl
 subst hx;subst hy;simp only [show (2:Nat) ^ (0+1)=2 by decide] at h1 h2 hFF;have HFF:=q_ hFF;have HSUB:=q_ hL;have HSELF:=q_ (hL _ subs_mk_self);have H:=q_ h;have HR:=q_ hr;clear h hz hr hFF hL;go_enter Tryz.func149,Tryz.ntmps149;go_wp2;obtain⟨qb,hqb⟩:∃ qb,w.heap.size=qb:=⟨_,rfl⟩;have h0:=(hAL H.out #[.int .i64 0,.int .i64 0,.int .i64 0,.int .i64 0] 132).back4;rw [hqb] at h0 ⊢;have H0:=q_ h0;clear h0 hqb H;go_loopw [29] (fun x' wr=>∃ z:Int,x'=.int .i64 z∧At5 (fun q=>∃ ns' O,SqSt W wr r hv nv mb sb rb L ns mm (matR ob m bs F::Ps) 0 F x y qb ns' O q) z) (fun x _=>4 - (intOf x).toNat);case atStart=>exact⟨0,rfl,.inl ⟨rfl,ns,[0,0,0,0],⟨H0.out,rfl,List.prefix_refl _,HR.out,fun j hj=>by omega⟩⟩⟩
 case round =>
  obtain⟨z,rfl,hz⟩:=hrel;clear H0;rcases hz with ⟨rfl,ns2,O,hs⟩|⟨rfl,ns2,O,hs⟩|⟨rfl,ns2,O,hs⟩|⟨rfl,ns2,O,hs⟩|⟨rfl,ns2,O,hs⟩
  ·obtain⟨_,_,_,m3,_,_,ml⟩:=mC_ hs.has;have HS:=q_ hs;have HC:=q_ (fun (z zx zy:Int) (e1:z=((0:Nat):Int)) (e2:zx=((x+0 % 2*2 ^ 0:Nat):Int)) (e3:zy=((y+0 / 2*2 ^ 0:Nat):Int))=>ih _ _ _ _ _ z zx zy e1 e2 e3 hs.has.fifth hs.room o_ o_ (fun i j a b c d=>HFF.out i j o_ o_ o_ o_) (fun u hu=>HSUB.out u (subs_mk_part (q:=0) o_ (by simpa [p2] using hu))));clear hs;go_wp2_with fail;refine (HC.out _ _ _ o_ (by simp;try omega) (by simp;try omega)).mono ?_;rintro e w6 ⟨res,ns4,rfl,g1,g2,g3,g4⟩;have g1:=g1.fifth;have hc:=bC_ g1.fourth (j:=0) (by have:=HS.out.len;omega);have hz:=(hCE g1.fourth).2.1 0;have hl:=(hCE g1.fourth).2.2;have HF:=q_ (HS.out.put o_ g1 g2 g3 g4 (by simp [p2]) (by simp [p2]));clear HC g1 g2 g3 g4 m3 ml;go_wp2;go_roundw;case rel=>exact⟨1,rfl,(.inr (.inl ⟨rfl,_,_,HF.out⟩))⟩
   case measure=>simp [intOf]
  ·obtain⟨_,_,_,m3,_,_,ml⟩:=mC_ hs.has;have HS:=q_ hs;have HC:=q_ (fun (z zx zy:Int) (e1:z=((0:Nat):Int)) (e2:zx=((x+1 % 2*2 ^ 0:Nat):Int)) (e3:zy=((y+1 / 2*2 ^ 0:Nat):Int))=>ih _ _ _ _ _ z zx zy e1 e2 e3 hs.has.fifth hs.room o_ o_ (fun i j a b c d=>HFF.out i j o_ o_ o_ o_) (fun u hu=>HSUB.out u (subs_mk_part (q:=1) o_ (by simpa [p2] using hu))));clear hs;go_wp2_with fail;refine (HC.out _ _ _ o_ (by simp;try omega) (by simp;try omega)).mono ?_;rintro e w6 ⟨res,ns4,rfl,g1,g2,g3,g4⟩;have g1:=g1.fifth;have hc:=bC_ g1.fourth (j:=1) (by have:=HS.out.len;omega);have hz:=(hCE g1.fourth).2.1 1;have hl:=(hCE g1.fourth).2.2;have HF:=q_ (HS.out.put o_ g1 g2 g3 g4 (by simp [p2]) (by simp [p2]));clear HC g1 g2 g3 g4 m3 ml;go_wp2;go_roundw;case rel=>exact⟨2,rfl,(.inr (.inr (.inl ⟨rfl,_,_,HF.out⟩)))⟩
   case measure=>simp [intOf]
  ·obtain⟨_,_,_,m3,_,_,ml⟩:=mC_ hs.has;have HS:=q_ hs;have HC:=q_ (fun (z zx zy:Int) (e1:z=((0:Nat):Int)) (e2:zx=((x+2 % 2*2 ^ 0:Nat):Int)) (e3:zy=((y+2 / 2*2 ^ 0:Nat):Int))=>ih _ _ _ _ _ z zx zy e1 e2 e3 hs.has.fifth hs.room o_ o_ (fun i j a b c d=>HFF.out i j o_ o_ o_ o_) (fun u hu=>HSUB.out u (subs_mk_part (q:=2) o_ (by simpa [p2] using hu))));clear hs;go_wp2_with fail;refine (HC.out _ _ _ o_ (by simp;try omega) (by simp;try omega)).mono ?_;rintro e w6 ⟨res,ns4,rfl,g1,g2,g3,g4⟩;have g1:=g1.fifth;have hc:=bC_ g1.fourth (j:=2) (by have:=HS.out.len;omega);have hz:=(hCE g1.fourth).2.1 2;have hl:=(hCE g1.fourth).2.2;have HF:=q_ (HS.out.put o_ g1 g2 g3 g4 (by simp [p2]) (by simp [p2]));clear HC g1 g2 g3 g4 m3 ml;go_wp2;go_roundw;case rel=>exact⟨3,rfl,(.inr (.inr (.inr (.inl ⟨rfl,_,_,HF.out⟩))))⟩
   case measure=>simp [intOf]
  ·obtain⟨_,_,_,m3,_,_,ml⟩:=mC_ hs.has;have HS:=q_ hs;have HC:=q_ (fun (z zx zy:Int) (e1:z=((0:Nat):Int)) (e2:zx=((x+3 % 2*2 ^ 0:Nat):Int)) (e3:zy=((y+3 / 2*2 ^ 0:Nat):Int))=>ih _ _ _ _ _ z zx zy e1 e2 e3 hs.has.fifth hs.room o_ o_ (fun i j a b c d=>HFF.out i j o_ o_ o_ o_) (fun u hu=>HSUB.out u (subs_mk_part (q:=3) o_ (by simpa [p2] using hu))));clear hs;go_wp2_with fail;refine (HC.out _ _ _ o_ (by simp;try omega) (by simp;try omega)).mono ?_;rintro e w6 ⟨res,ns4,rfl,g1,g2,g3,g4⟩;have g1:=g1.fifth;have hc:=bC_ g1.fourth (j:=3) (by have:=HS.out.len;omega);have hz:=(hCE g1.fourth).2.1 3;have hl:=(hCE g1.fourth).2.2;have HF:=q_ (HS.out.put o_ g1 g2 g3 g4 (by simp [p2]) (by simp [p2]));clear HC g1 g2 g3 g4 m3 ml;go_wp2;go_roundw;case rel=>exact⟨4,rfl,(.inr (.inr (.inr (.inr ⟨rfl,_,_,HF.out⟩))))⟩
   case measure=>simp [intOf]
  ·obtain⟨_,_,_,m3,_,_,ml⟩:=mC_ hs.has;have o0:=bC_ hs.has.fourth (j:=0) (by have:=hs.len;omega);have o1:=bC_ hs.has.fourth (j:=1) (by have:=hs.len;omega);have o2:=bC_ hs.has.fourth (j:=2) (by have:=hs.len;omega);have o3:=bC_ hs.has.fourth (j:=3) (by have:=hs.len;omega);have ol:=(hCE hs.has.fourth).2.2;have HJ:=q_ (fun w1 (hf:Fr [] wr w1)=>JoinRoom_has (hs.has.step hf) hs.room o_ (hs.done 0 o_) (hs.done 1 o_) (hs.done 2 o_) (hs.done 3 o_) (by have h9:=HSELF.out;unfold Go.Proofs.Ev.mk at h9;simpa [p2] using h9));have HS:=q_ hs;clear hs;go_wp2;(refine wT ?_);go_wp2_with fail;refine (HJ.out _ (Fr.t)).mono ?_;rintro e w5 ⟨id1,ns3,rfl,h1,h2,h3,h4⟩;have H5:=q_ (And.intro h1 (And.intro h2 (And.intro h3 h4)));clear o0 o1 o2 o3 ol h1 h2 h3 h4 m3 ml;go_wp2;refine sT_ rfl ?_;go_wp2;go_ret2;refine⟨id1,ns3,rfl,H5.out.1.fourth.drop,HS.out.pre.trans H5.out.2.1,H5.out.2.2.1,?_⟩;have h9:=H5.out.2.2.2;unfold Go.Proofs.Ev.mk;simpa [p2] using h9
theorem squareAt_two (hm:m≤1000) (ih:SquareAt W r hv nv mb sb rb L mm ob m bs F 1):SquareAt W r hv nv mb sb rb L mm ob m bs F (1+1):=by
 intro w Ps ns x y z zx zy hz hx hy h hr h1 h2 hFF hL;obtain rfl:z=2:=by rw [hz];rfl
 subst hx;subst hy;simp only [show (2:Nat) ^ (1+1)=4 by decide] at h1 h2 hFF;have HFF:=q_ hFF;have HSUB:=q_ hL;have HSELF:=q_ (hL _ subs_mk_self);have H:=q_ h;have HR:=q_ hr;clear h hz hr hFF hL;go_enter Tryz.func149,Tryz.ntmps149;go_wp2;obtain⟨qb,hqb⟩:∃ qb,w.heap.size=qb:=⟨_,rfl⟩;have h0:=(hAL H.out #[.int .i64 0,.int .i64 0,.int .i64 0,.int .i64 0] 132).back4;rw [hqb] at h0 ⊢;have H0:=q_ h0;clear h0 hqb H;go_loopw [29] (fun x' wr=>∃ z:Int,x'=.int .i64 z∧At5 (fun q=>∃ ns' O,SqSt W wr r hv nv mb sb rb L ns mm (matR ob m bs F::Ps) 1 F x y qb ns' O q) z) (fun x _=>4 - (intOf x).toNat);case atStart=>exact⟨0,rfl,.inl ⟨rfl,ns,[0,0,0,0],⟨H0.out,rfl,List.prefix_refl _,HR.out,fun j hj=>by omega⟩⟩⟩
 case round =>
  obtain⟨z,rfl,hz⟩:=hrel;clear H0;rcases hz with ⟨rfl,ns2,O,hs⟩|⟨rfl,ns2,O,hs⟩|⟨rfl,ns2,O,hs⟩|⟨rfl,ns2,O,hs⟩|⟨rfl,ns2,O,hs⟩
  ·obtain⟨_,_,_,m3,_,_,ml⟩:=mC_ hs.has;have HS:=q_ hs;have HC:=q_ (fun (z zx zy:Int) (e1:z=((1:Nat):Int)) (e2:zx=((x+0 % 2*2 ^ 1:Nat):Int)) (e3:zy=((y+0 / 2*2 ^ 1:Nat):Int))=>ih _ _ _ _ _ z zx zy e1 e2 e3 hs.has.fifth hs.room o_ o_ (fun i j a b c d=>HFF.out i j o_ o_ o_ o_) (fun u hu=>HSUB.out u (subs_mk_part (q:=0) o_ (by simpa [p2] using hu))));clear hs;go_wp2_with fail;refine (HC.out _ _ _ o_ (by simp;try omega) (by simp;try omega)).mono ?_;rintro e w6 ⟨res,ns4,rfl,g1,g2,g3,g4⟩;have g1:=g1.fifth;have hc:=bC_ g1.fourth (j:=0) (by have:=HS.out.len;omega);have hz:=(hCE g1.fourth).2.1 0;have hl:=(hCE g1.fourth).2.2;have HF:=q_ (HS.out.put o_ g1 g2 g3 g4 (by simp [p2]) (by simp [p2]));clear HC g1 g2 g3 g4 m3 ml;go_wp2;go_roundw;case rel=>exact⟨1,rfl,(.inr (.inl ⟨rfl,_,_,HF.out⟩))⟩
   case measure=>simp [intOf]
  ·obtain⟨_,_,_,m3,_,_,ml⟩:=mC_ hs.has;have HS:=q_ hs;have HC:=q_ (fun (z zx zy:Int) (e1:z=((1:Nat):Int)) (e2:zx=((x+1 % 2*2 ^ 1:Nat):Int)) (e3:zy=((y+1 / 2*2 ^ 1:Nat):Int))=>ih _ _ _ _ _ z zx zy e1 e2 e3 hs.has.fifth hs.room o_ o_ (fun i j a b c d=>HFF.out i j o_ o_ o_ o_) (fun u hu=>HSUB.out u (subs_mk_part (q:=1) o_ (by simpa [p2] using hu))));clear hs;go_wp2_with fail;refine (HC.out _ _ _ o_ (by simp;try omega) (by simp;try omega)).mono ?_;rintro e w6 ⟨res,ns4,rfl,g1,g2,g3,g4⟩;have g1:=g1.fifth;have hc:=bC_ g1.fourth (j:=1) (by have:=HS.out.len;omega);have hz:=(hCE g1.fourth).2.1 1;have hl:=(hCE g1.fourth).2.2;have HF:=q_ (HS.out.put o_ g1 g2 g3 g4 (by simp [p2]) (by simp [p2]));clear HC g1 g2 g3 g4 m3 ml;go_wp2;go_roundw;case rel=>exact⟨2,rfl,(.inr (.inr (.inl ⟨rfl,_,_,HF.out⟩)))⟩
   case measure=>simp [intOf]
  ·obtain⟨_,_,_,m3,_,_,ml⟩:=mC_ hs.has;have HS:=q_ hs;have HC:=q_ (fun (z zx zy:Int) (e1:z=((1:Nat):Int)) (e2:zx=((x+2 % 2*2 ^ 1:Nat):Int)) (e3:zy=((y+2 / 2*2 ^ 1:Nat):Int))=>ih _ _ _ _ _ z zx zy e1 e2 e3 hs.has.fifth hs.room o_ o_ (fun i j a b c d=>HFF.out i j o_ o_ o_ o_) (fun u hu=>HSUB.out u (subs_mk_part (q:=2) o_ (by simpa [p2] using hu))));clear hs;go_wp2_with fail;refine (HC.out _ _ _ o_ (by simp;try omega) (by simp;try omega)).mono ?_;rintro e w6 ⟨res,ns4,rfl,g1,g2,g3,g4⟩;have g1:=g1.fifth;have hc:=bC_ g1.fourth (j:=2) (by have:=HS.out.len;omega);have hz:=(hCE g1.fourth).2.1 2;have hl:=(hCE g1.fourth).2.2;have HF:=q_ (HS.out.put o_ g1 g2 g3 g4 (by simp [p2]) (by simp [p2]));clear HC g1 g2 g3 g4 m3 ml;go_wp2;go_roundw;case rel=>exact⟨3,rfl,(.inr (.inr (.inr (.inl ⟨rfl,_,_,HF.out⟩))))⟩
   case measure=>simp [intOf]
  ·obtain⟨_,_,_,m3,_,_,ml⟩:=mC_ hs.has;have HS:=q_ hs;have HC:=q_ (fun (z zx zy:Int) (e1:z=((1:Nat):Int)) (e2:zx=((x+3 % 2*2 ^ 1:Nat):Int)) (e3:zy=((y+3 / 2*2 ^ 1:Nat):Int))=>ih _ _ _ _ _ z zx zy e1 e2 e3 hs.has.fifth hs.room o_ o_ (fun i j a b c d=>HFF.out i j o_ o_ o_ o_) (fun u hu=>HSUB.out u (subs_mk_part (q:=3) o_ (by simpa [p2] using hu))));clear hs;go_wp2_with fail;refine (HC.out _ _ _ o_ (by simp;try omega) (by simp;try omega)).mono ?_;rintro e w6 ⟨res,ns4,rfl,g1,g2,g3,g4⟩;have g1:=g1.fifth;have hc:=bC_ g1.fourth (j:=3) (by have:=HS.out.len;omega);have hz:=(hCE g1.fourth).2.1 3;have hl:=(hCE g1.fourth).2.2;have HF:=q_ (HS.out.put o_ g1 g2 g3 g4 (by simp [p2]) (by simp [p2]));clear HC g1 g2 g3 g4 m3 ml;go_wp2;go_roundw;case rel=>exact⟨4,rfl,(.inr (.inr (.inr (.inr ⟨rfl,_,_,HF.out⟩))))⟩
   case measure=>simp [intOf]
  ·obtain⟨_,_,_,m3,_,_,ml⟩:=mC_ hs.has;have o0:=bC_ hs.has.fourth (j:=0) (by have:=hs.len;omega);have o1:=bC_ hs.has.fourth (j:=1) (by have:=hs.len;omega);have o2:=bC_ hs.has.fourth (j:=2) (by have:=hs.len;omega);have o3:=bC_ hs.has.fourth (j:=3) (by have:=hs.len;omega);have ol:=(hCE hs.has.fourth).2.2;have HJ:=q_ (fun w1 (hf:Fr [] wr w1)=>JoinRoom_has (hs.has.step hf) hs.room o_ (hs.done 0 o_) (hs.done 1 o_) (hs.done 2 o_) (hs.done 3 o_) (by have h9:=HSELF.out;unfold Go.Proofs.Ev.mk at h9;simpa [p2] using h9));have HS:=q_ hs;clear hs;go_wp2;(refine wT ?_);go_wp2_with fail;refine (HJ.out _ (Fr.t)).mono ?_;rintro e w5 ⟨id1,ns3,rfl,h1,h2,h3,h4⟩;have H5:=q_ (And.intro h1 (And.intro h2 (And.intro h3 h4)));clear o0 o1 o2 o3 ol h1 h2 h3 h4 m3 ml;go_wp2;refine sT_ rfl ?_;go_wp2;go_ret2;refine⟨id1,ns3,rfl,H5.out.1.fourth.drop,HS.out.pre.trans H5.out.2.1,H5.out.2.2.1,?_⟩;have h9:=H5.out.2.2.2;unfold Go.Proofs.Ev.mk;simpa [p2] using h9
end
end Go.Proofs.YtebolidfbflkmaaGreat
end
