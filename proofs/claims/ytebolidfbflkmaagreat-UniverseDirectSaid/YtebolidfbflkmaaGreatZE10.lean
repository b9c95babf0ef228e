/- Own texts of this claim, part 11: no condition. -/
import Derived.Test.YtebolidfbflkmaaGreatZE9
set_option linter.unusedVariables false
set_option linter.unusedSimpArgs false
set_option maxHeartbeats 16000000
set_option maxRecDepth 100000
namespace Go.Proofs.Mp
section
variable {κ ν:Type} [DecidableEq κ]
theorem Iw (l:List (κ×ν)) (k:κ) (v:ν):get? (put l k v) k=some v:=by
 unfold put get?;cases h:(l.map (·.1)).idxOf? k with
 | some i =>
  obtain⟨hi,he,hn⟩:=List.idxOf?_eq_some_iff.1 h;have hi':i<l.length:=by simpa using hi
  have e:(l.set i (k,v)).map (·.1)=l.map (·.1):=by rw [List.map_set];simp only;rw [← he];exact List.set_getElem_self hi
  simp only;rw [e,h];simp [hi']
 | none =>
  have hn:=List.idxOf?_eq_none_iff.1 h;simp only;have e:((l++[(k,v)]).map (·.1)).idxOf? k=some l.length:=by rw [List.idxOf?_eq_some_iff];refine⟨i_,i_,fun j hj he=>?_⟩;have hj':j<l.length:=hj;apply hn;simp only [List.map_append] at he;rw [List.getElem_append_left (by simpa using hj')] at he;rw [← he];exact List.getElem_mem _
  rw [e];simp
theorem Fq (l:List (κ×ν)) {k k':κ} (v:ν) (hne:k'≠k):get? (put l k v) k'=get? l k':=by
 unfold put get?;cases h:(l.map (·.1)).idxOf? k with
 | some i =>
  obtain⟨hi,he,hn⟩:=List.idxOf?_eq_some_iff.1 h;have hi':i<l.length:=by simpa using hi
  have e:(l.set i (k,v)).map (·.1)=l.map (·.1):=by rw [List.map_set];simp only;rw [← he];exact List.set_getElem_self hi
  simp only;rw [e];cases h2:(l.map (·.1)).idxOf? k' with
  | none=>rfl
  | some j =>
   obtain⟨hj,hje,_⟩:=List.idxOf?_eq_some_iff.1 h2;have:i≠j:=fun hij=>by subst hij;exact hne (hje.symm.trans he)
   simp [List.getElem?_set,this]
 | none =>
  have hn:=List.idxOf?_eq_none_iff.1 h;simp only;cases h2:(l.map (·.1)).idxOf? k' with
  | none =>
   have hn':=List.idxOf?_eq_none_iff.1 h2;have e:((l++[(k,v)]).map (·.1)).idxOf? k'=none:=by rw [List.idxOf?_eq_none_iff,List.map_append];simp only [List.mem_append,not_or];exact⟨hn',by simp [hne]⟩
   rw [e];rfl
  | some j =>
   obtain⟨hj,hje,hjn⟩:=List.idxOf?_eq_some_iff.1 h2;have hj':j<l.length:=(by simpa using hj);have e:((l++[(k,v)]).map (·.1)).idxOf? k'=some j:=by
    rw [List.idxOf?_eq_some_iff];refine⟨by simp;omega,?_,fun i hi he=>?_⟩;·
     rw [← hje];simp only [List.map_append];rw [List.getElem_append_left hj]
    ·simp only [List.map_append] at he;rw [List.getElem_append_left u_'] at he;exact hjn i hi he
   rw [e];simp [List.getElem?_append_left hj']
end
end Go.Proofs.Mp
namespace Go.Proofs.YtebolidfbflkmaaGreat
open Go Go.RowKit Rg Mp Hp Qs Ev
theorem Tt:KeysBy Tryz.prog 194 (Gh .i64):=KeysBy.pair (E:=3) Tryz.underlying194 rfl rfl rfl rfl (by decide) (by decide) Tryz.underlying3 k_
theorem Kept.put {r:Rule} {ns:List K4} {mm:List ((Int×Int)×Int)} (h:Kept r ns mm) {id k v:Int} {n:Nat} {t:Tr} (hi:Is r.S ns n id t) (hn:2≤n) (hk:0≤k) (hv:Is r.S ns (n - 1) v (stp (gen r) n k.toNat t)):Kept r ns (put mm (id,k) v):=fun id' k' v' h'=>by
 by_cases e:(id',k')=(id,k);·
  rw [e,Iw] at h';obtain rfl:=Option.some.inj h';cases e;exact⟨n,t,hi,hn,hk,hv⟩
 ·rw [Fq _ _ e] at h';exact h id' k' v' h'
theorem Keeps.put {mm:List ((Int×Int)×Int)} {key:Int×Int} {v:Int} (h:get? mm key=none):Keeps mm (put mm key v):=fun key' v' h'=>by
 by_cases e:key'=key;·subst e;rw [h] at h';cases h'
 ·rw [Fq _ _ e];exact h'
variable {W w:World}{rb:Nat}{mm:List ((Int×Int)×Int)}{Ps:List Res}
theorem Nu {mm':List ((Int×Int)×Int)} {q:Obj} (h:Has W w (Iv rb mm::Ps)) (hq:MapIs { w with heap:=w.heap.setIfInBounds rb q } rb (Gh .i64) (Value.int .i64) mm'):Has W { w with heap:=w.heap.setIfInBounds rb q } (Iv rb mm'::Ps) :=
 h.turn fun F ⟨h1,h2⟩=>⟨F,⟨hq,h2⟩,(Fr.refl F w).setBlock (.inl (by simp [h2])) q,fun x hx=>.inl hx⟩
def Qj (W:World) (r:Rule) (hv nv:Value) (mb sb rb:Nat) (L:List Tr) (n:Nat):Prop :=
 ∀ (w:World) (Ps:List Res) (ns:List K4) (mm:List ((Int×Int)×Int)) (id:Int) (t:Tr),Has W w (A9 r hv nv mb sb rb ns mm Ps)→room r.S ns L→Kept r ns mm→Is r.S ns n id t→(∀ u∈Ip (stp (gen r) n 0 t),u∈L)→RuleSrc W hv nv r Ps →
  Calls Tryz.prog 131 #[.pointer (some ⟨mb,0,none⟩),.int .i64 id,.int .i64 n] w (K2 W r hv nv mb sb rb L ns mm n (stp (gen r) n 0 t) Ps)
def PartsAt (W:World) (r:Rule) (hv nv:Value) (mb sb rb:Nat) (L:List Tr) (n:Nat):Prop :=
 ∀ (w:World) (Ps:List Res) (ns:List K4) (mm:List ((Int×Int)×Int)) (id:Int) (k:Nat) (t:Tr),Has W w (A9 r hv nv mb sb rb ns mm Ps)→room r.S ns L→Kept r ns mm→Is r.S ns n id t→k≤n - A1 (A3 r.hood)→(∀ u∈Da (gen r) (A1 (A3 r.hood)) n k t,u∈L)→RuleSrc W hv nv r Ps →
  Calls Tryz.prog 132 #[.pointer (some ⟨mb,0,none⟩),.int .i64 id,.int .i64 n,.int .i64 k,.bool (decide (k=n - A1 (A3 r.hood)))] w (K2 W r hv nv mb sb rb L ns mm n (stp (gen r) n k t) Ps)
variable {mb lo n:Nat}
theorem Qg (h:w.cell? ⟨mb,5,none⟩=some (.int .i64 lo)) (hn:n≤256) (hlo:lo≤100) :
  Calls Tryz.prog 99 #[.pointer (some ⟨mb,0,none⟩),.int .i64 n] w fun e w'=>e=.returned (.int .i64 (max ((n:Int) - lo) (-1)))∧w=w':=by
 go_enter Tryz.func99,Tryz.ntmps99;go_wp2;all_goals
  go_ret;exact⟨Dy o_,rfl⟩
theorem Tn (h:lo≤n):max ((n:Int) - (lo:Int)) (-1)=((n - lo:Nat):Int):=o_
variable {r:Rule}{hv nv:Value}{sb:Nat}{L:List Tr}
theorem direct_k {ns:List K4} {k:Nat} {t:Tr} {f:FuncId} {args:Array Value} (hk:k=0) (h:Calls Tryz.prog f args w (K2 W r hv nv mb sb rb L ns mm n (stp (gen r) n 0 t) Ps)):Calls Tryz.prog f args w (K2 W r hv nv mb sb rb L ns mm n (stp (gen r) n k t) Ps):=by subst hk;exact h
theorem step_at (hn:n≤250) (hR:Ar r=true) (hd:n=A1 (A3 r.hood)→Qj W r hv nv mb sb rb L n) (hp:A1 (A3 r.hood)<n→PartsAt W r hv nv mb sb rb L n):StepAt W r hv nv mb sb rb L n:=by
 intro w Ps ns mm id k t h hroom hkept hi hlo hk hL hsrc;have hl2:=D3 (Aa r.hood).1 (Aa r.hood).2;have hmap:=h.swap;obtain⟨F9,hM,_⟩:=hmap.head;obtain⟨_,_,_,_,m4,m5,ml⟩:=mC_ h;have H:=q_ h;have HM:=q_ hM;have HI:=q_ hi;have HD:=q_ (fun (e:n=A1 (A3 r.hood)) w1 (hf:Fr [] w w1)=>direct_k (k:=k) o_ (hd e w1 Ps ns mm id t (h.step hf) hroom hkept hi (by
  obtain⟨n',rfl⟩:∃ n',n=n'+1:=⟨n - 1,o_⟩
  intro u hu
  refine hL u ?_
  rw [Pb o_]
  obtain rfl:k=0:=o_
  exact hu) hsrc))
 have HP:=q_ (fun (e:A1 (A3 r.hood)<n) w1 (hf:Fr [] w w1)=>hp e w1 Ps ns mm id k t (h.step hf) hroom hkept hi hk hL hsrc);cases hg:get? mm (id,(k:Int)) with
 | some v =>
  have HG:=q_ hg;have HR:=q_ (And.intro hroom hkept);have HRES:=q_ (show Is r.S ns (n - 1) v (stp (gen r) n k t) by
   obtain⟨n',t',h1,h2,h3,h4⟩:=hkept _ _ _ hg
   have e1:n=n':=by
    have a:=h1.lvl (A4 h)
    have b:=hi.lvl (A4 h)
    omega
   subst e1
   have e2:t=t':=hi.2.1.symm.trans h1.2.1
   subst e2
   rwa [Int.toNat_natCast] at h4)
  clear h hroom hkept hi hL hd hp hmap hM hg;go_enter Tryz.func100,Tryz.ntmps100;go_wp2_with (at_lookup;refine Bc (f:=Gh .i64) (g:=Value.int .i64) (k:=(id,(k:Int))) (z:=.int .i64 0) rfl rfl rfl rfl HM.o Tryz.underlying137 Tt (Ds _) HG.o ?_);go_ret2;exact⟨v,ns,mm,rfl,H.o,List.prefix_refl _,HR.o.1,HR.o.2,HRES.o,Keeps.refl _,HG.o,fun v' hv'=>⟨Option.some.inj (HG.o.symm.trans hv'),rfl⟩⟩
 | none =>
  have HMISS:=q_ hg;clear h hroom hkept hi hL hd hp hmap hM hg;by_cases he:n=A1 (A3 r.hood);·
   have HMO:=q_ (Tn hlo▸Qg m5 (n:=n) o_ o_);have hmo:n - A1 (A3 r.hood)=0:=o_;rw [hmo] at HMO;have HD':=q_ (fun w1 (hf:Fr [] w w1)=>HD.o he w1 hf);clear hmo;have HE:=q_ he;clear he;go_enter Tryz.func100,Tryz.ntmps100;go_wp2_with (first|(at_lookup;refine Ad (f:=Gh .i64) (g:=Value.int .i64) (k:=(id,(k:Int))) (z:=.int .i64 0) rfl rfl rfl rfl HM.o Tryz.underlying137 Tt (Ds _) HMISS.o ?_)|(go_at_call 99;refine HMO.o.mono ?_;rintro e w5 ⟨rfl,rfl⟩)|fail);refine (HD'.o _ (Fr.t)).mono ?_;rintro e w5 ⟨res,ns',mm',rfl,g1,g2,g3,g4,g5,g6⟩;have hmap:=g1.swap;obtain⟨F9,hM,_⟩:=hmap.head;obtain⟨_,_,_,_,m4,_,ml⟩:=mC_ g1;have HM:=q_ hM;have H5:=q_ (And.intro g1 (And.intro g2 (And.intro g3 (And.intro g4 (And.intro g5 g6)))));clear g1 g2 g3 g4 g5 g6 hmap hM m5;go_wp2_with (at_mapUpdate;refine Br (f:=Gh .i64) (g:=Value.int .i64) (k:=(id,(k:Int))) (v:=res) rfl rfl rfl rfl rfl HM.o Tryz.underlying137 Tt ?_;intro q hq;have HQ:=q_ hq;clear hq m4 ml);go_ret2;refine⟨res,ns',put mm' (id,k) res,rfl,(Nu H5.o.1.swap HQ.o).swap,H5.o.2.1,H5.o.2.2.1,?_,H5.o.2.2.2.2.1,fun key v hv9=>?_,Iw _ _ _,fun v hv9=>by rw [HMISS.o] at hv9;cases hv9⟩;·exact H5.o.2.2.2.1.put (HI.o.grow H5.o.2.1) o_ o_ (by rw [Int.toNat_natCast];exact H5.o.2.2.2.2.1)
   ·by_cases e:key=(id,(k:Int));·subst e;rw [HMISS.o] at hv9;cases hv9
    ·rw [Fq _ _ e];exact H5.o.2.2.2.2.2 key v hv9
  ·have HMO:=q_ (Tn hlo▸Qg m5 (n:=n) o_ o_);have HP':=q_ (fun w1 (hf:Fr [] w w1)=>HP.o o_ w1 hf);obtain⟨d,hd⟩:∃ d,n - A1 (A3 r.hood)=d:=⟨_,rfl⟩;rw [hd] at HMO HP';have hd0:((d:Int) == 0)=false:=u_';have hkd:((k:Int) == (d:Int))=decide (k=d):=by
    rw [Bool.eq_iff_iff];simp;omega
   clear hd he;go_enter Tryz.func100,Tryz.ntmps100;go_wp2_with (first|(at_lookup;refine Ad (f:=Gh .i64) (g:=Value.int .i64) (k:=(id,(k:Int))) (z:=.int .i64 0) rfl rfl rfl rfl HM.o Tryz.underlying137 Tt (Ds _) HMISS.o ?_)|(go_at_call 99;refine HMO.o.mono ?_;rintro e w5 ⟨rfl,rfl⟩)|fail);refine (HP'.o _ (Fr.t)).mono ?_;rintro e w5 ⟨res,ns',mm',rfl,g1,g2,g3,g4,g5,g6⟩;have hmap:=g1.swap;obtain⟨F9,hM,_⟩:=hmap.head;obtain⟨_,_,_,_,m4,_,ml⟩:=mC_ g1;have HM:=q_ hM;have H5:=q_ (And.intro g1 (And.intro g2 (And.intro g3 (And.intro g4 (And.intro g5 g6)))));clear g1 g2 g3 g4 g5 g6 hmap hM m5;go_wp2_with (at_mapUpdate;refine Br (f:=Gh .i64) (g:=Value.int .i64) (k:=(id,(k:Int))) (v:=res) rfl rfl rfl rfl rfl HM.o Tryz.underlying137 Tt ?_;intro q hq;have HQ:=q_ hq;clear hq m4 ml);go_ret2;refine⟨res,ns',put mm' (id,k) res,rfl,(Nu H5.o.1.swap HQ.o).swap,H5.o.2.1,H5.o.2.2.1,?_,H5.o.2.2.2.2.1,fun key v hv9=>?_,Iw _ _ _,fun v hv9=>by rw [HMISS.o] at hv9;cases hv9⟩;·exact H5.o.2.2.2.1.put (HI.o.grow H5.o.2.1) o_ o_ (by rw [Int.toNat_natCast];exact H5.o.2.2.2.2.1)
   ·by_cases e:key=(id,(k:Int));·subst e;rw [HMISS.o] at hv9;cases hv9
    ·rw [Fq _ _ e];exact H5.o.2.2.2.2.2 key v hv9
end Go.Proofs.YtebolidfbflkmaaGreat
namespace Go.Proofs.Ev
open Qs
def Bu (F:Fld) (n:Nat) (t:Tr) (x y:Int):Fld:=fun i j=>if x≤i∧i<x+p2 n∧y≤j∧j<y+p2 n then cell n t (i - x) (j - y) else F i j
theorem paste_node (F:Fld) (n:Nat) (a b c d:Tr) (x y:Int):Bu (Bu (Bu (Bu F n a x y) n b (x+p2 n) y) n c x (y+p2 n)) n d (x+p2 n) (y+p2 n)=Bu F (n+1) (.node a b c d) x y:=by
 funext i j;have hs:=Ac n;have hp:=C2 n;unfold Bu;by_cases h:x≤i∧i<x+p2 (n+1)∧y≤j∧j<y+p2 (n+1);·
  rw [if_pos h];show _=(if j - y<p2 n then (if i - x<p2 n then cell n a (i - x) (j - y) else cell n b (i - x - p2 n) (j - y)) else (if i - x<p2 n then cell n c (i - x) (j - y - p2 n) else cell n d (i - x - p2 n) (j - y - p2 n)));by_cases hj:j - y<p2 n;·
   by_cases hi:i - x<p2 n;·rw [if_neg o_,if_neg o_,if_neg o_,if_pos o_,if_pos hj,if_pos hi]
   ·rw [if_neg o_,if_neg o_,if_pos o_,if_pos hj,if_neg hi];congr 1;omega
  ·by_cases hi:i - x<p2 n;·
    rw [if_neg o_,if_pos o_,if_neg hj,if_pos hi];congr 1;omega
   ·rw [if_pos o_,if_neg hj,if_neg hi];congr 1<;>omega
 ·rw [if_neg h,if_neg o_,if_neg o_,if_neg o_,if_neg o_]
theorem rowL_set {m:Nat} {F G:Fld} {y:Int} {k:Nat} {v:Int} (hk:k<m) (h:∀ i:Nat,i<m→G i y=if i=k then v else F i y):(T3 m F 0 y).set k v=T3 m G 0 y:=by
 apply List.ext_getElem?;intro i;rw [List.getElem?_set];by_cases hi:i<m;·
  rw [P0 hi,P0 hi,Int.zero_add,h i hi];by_cases e:k=i;·
   subst e;rw [if_pos rfl,if_pos (by rw [Ji];exact hk),if_pos rfl]
  ·rw [if_neg e,if_neg (Ne.symm e)]
 ·rw [if_neg o_,List.getElem?_eq_none (by rw [Ji];omega),List.getElem?_eq_none (by rw [Ji];omega)]
end Go.Proofs.Ev
namespace Go.Proofs.YtebolidfbflkmaaGreat
open Go Go.RowKit Rg Mp Hp Qs Ev
def Oc (m:Nat) (b:Nat):Value:=.slice (some ⟨b,0,none⟩) m m
def MatAt (w:World) (ob m:Nat) (bs:List Nat) (F:Fld):Prop :=
 bs.length=m∧w.heap[ob]?=some (.cells (bs.map (Oc m)).toArray 72 (0,0))∧(∀ (i b:Nat),bs[i]?=some b→w.heap[b]?=some (Obj.cells (iv (T3 m F 0 i)).toArray 3 (0,0)))∧bs.Nodup∧ob∉bs
def E4 (ob m:Nat) (bs:List Nat) (F:Fld):Res where
 holds w G:=MatAt w ob m bs F∧G=ob::bs
 keep:=fun ⟨⟨h1,h2,h3,h4,h5⟩,h6⟩ hk=>⟨⟨h1,by rw [hk ob (by simp [h6])];exact h2,fun i b hb=>by rw [hk b (by rw [h6];simp [List.mem_of_getElem? hb])];exact h3 i b hb,h4,h5⟩,h6⟩
 lt:=fun ⟨⟨h1,h2,h3,h4,h5⟩,h6⟩ x hx=>by
  rw [h6,List.mem_cons] at hx;rcases hx with rfl|hx
  ·exact lBk h2
  ·obtain⟨i,hi,rfl⟩:=List.mem_iff_getElem.1 hx;exact lBk (h3 i _ (List.getElem?_eq_getElem hi))
section
variable {W w:World} {ob m:Nat} {bs:List Nat} {F:Fld} {Ps:List Res}
theorem Ke (h:Has W w (E4 ob m bs F::Ps)) {y:Nat} (hy:y<m):∃ b,bs[y]?=some b∧w.cell? ⟨ob,y,none⟩=some (.slice (some ⟨b,0,none⟩) m m)∧(∀ x:Nat,x<m→w.cell? ⟨b,x,none⟩=some (.int .i64 (F x y)))∧(∀ x,w.frozen? ⟨b,x,none⟩=false)∧b<w.heap.size∧ob<w.heap.size:=by
 obtain⟨_,⟨⟨h1,h2,h3,h4,h5⟩,_⟩⟩:=h.head;have hb:bs[y]?=some (bs[y]'o_):=List.getElem?_eq_getElem o_;have hr:=h3 y _ hb;refine⟨_,hb,?_,fun x hx=>?_,fun x=>hEF hr x,lBk hr,lBk h2⟩;·
  rw [hEC h2 y];simp [hb,Oc]
 ·rw [hEC hr x];have:=Pk (P0 (m:=m) (F:=F) (ox:=0) (y:=y) hx);rw [Int.zero_add] at this;simpa using this
theorem Vo (h:Has W w (E4 ob m bs F::Ps)) {y x b:Nat} (hx:x<m) (hb:bs[y]?=some b) {v:Int} {G:Fld} (hG:∀ i j:Nat,G i j=if i=x∧j=y then v else F i j):Has W (w.setCell ⟨b,x,none⟩ (.int .i64 v)) (E4 ob m bs G::Ps) :=
 h.turn fun H ⟨⟨h1,h2,h3,h4,h5⟩,h6⟩=>by
  have hbm:b∈bs:=List.mem_of_getElem? hb;refine⟨H,⟨⟨h1,?_,fun i c hc=>?_,h4,h5⟩,h6⟩,(Fr.refl H w).setCell (.inl (by rw [h6];simp [hbm])) _,fun z hz=>.inl hz⟩;·rw [Cr _ _ _ _ (fun e:ob=b=>h5 (by rw [e];exact hbm))];exact h2
  ·by_cases e:c=b;·
    subst e;obtain rfl:i=y:=by obtain⟨hi,hi'⟩:=List.getElem?_eq_some_iff.1 hc;exact (List.getElem?_inj hi h4).1 (hc.trans hb.symm)
    have:=Cq (h3 i c hc) x (.int .i64 v);rw [this,M7,rowL_set (G:=G) hx fun k hk=>?_];rw [hG k i];simp
   ·rw [Cr _ _ _ _ e,h3 i c hc];congr 4;refine List.map_congr_left fun k hk=>?_;rw [Int.zero_add,hG k i,if_neg];rintro⟨rfl,rfl⟩;exact e (Option.some.inj (hc.symm.trans hb))
end
def Uj (W:World) (r:Rule) (hv nv:Value) (mb sb rb:Nat) (ns:List K4) (mm:List ((Int×Int)×Int)) (ob m:Nat) (bs:List Nat) (F:Fld) (Ps:List Res) (e:Ending) (w':World):Prop :=
 e=.returned (.tuple #[])∧Has W w' (A9 r hv nv mb sb rb ns mm (E4 ob m bs F::Ps))
theorem fill_zero {W w:World} {r:Rule} {hv nv:Value} {mb sb rb:Nat} {ns:List K4} {mm:List ((Int×Int)×Int)} {ob m:Nat} {bs:List Nat} {F:Fld} {Ps:List Res} (h:Has W w (A9 r hv nv mb sb rb ns mm (E4 ob m bs F::Ps))) {id:Int} {t:Tr} (hi:Is r.S ns 0 id t) {x y:Nat} (hx:x<m) (hy:y<m) (hm:m≤1000) :
  Calls Tryz.prog 148 #[.pointer (some ⟨mb,0,none⟩),.int .i64 id,.int .i64 0,.int .i64 x,.int .i64 y,.slice (some ⟨ob,0,none⟩) m m] w (Uj W r hv nv mb sb rb ns mm ob m bs (Bu F 0 t x y) Ps):=by
 obtain⟨_,_,rfl⟩:=hi.zero (A4 h);obtain⟨b,hb,c0,c1,cz,cl,ol⟩:=Ke h.fourth hy;have c1:=c1 x hx;have cz:=cz x;have HF:=q_ (Vo h.fourth hx hb (v:=id) (G:=Bu F 0 (.leaf id) x y) fun i j=>by
  unfold Bu
  rw [Gi]
  by_cases e:i=x∧j=y
  ·rw [if_pos e,if_pos o_];rfl
  ·rw [if_neg e,if_neg o_]).back4
 clear h hi hb;go_enter Tryz.func148,Tryz.ntmps148;go_wp2;refine bodyPost_ret (v:=.tuple #[]) (by simp [results,Tryz.results148,go_sem]) rfl ?_;exact⟨rfl,HF.o⟩
end Go.Proofs.YtebolidfbflkmaaGreat
namespace Go.Proofs.YtebolidfbflkmaaGreat
open Go Go.RowKit Rg Mp Hp Qs Ev
def Lo (W:World) (r:Rule) (hv nv:Value) (mb sb rb:Nat) (ns:List K4) (mm:List ((Int×Int)×Int)) (ob m:Nat) (bs:List Nat) (Ps:List Res) (n:Nat):Prop :=
 ∀ (w:World) (F:Fld) (id:Int) (t:Tr) (x y:Nat) (z zx zy:Int),z=n→zx=x→zy=y→Has W w (A9 r hv nv mb sb rb ns mm (E4 ob m bs F::Ps))→Is r.S ns n id t→x+2 ^ n≤m→y+2 ^ n≤m →
  Calls Tryz.prog 148 #[.pointer (some ⟨mb,0,none⟩),.int .i64 id,.int .i64 z,.int .i64 zx,.int .i64 zy,.slice (some ⟨ob,0,none⟩) m m] w (Uj W r hv nv mb sb rb ns mm ob m bs (Bu F n t x y) Ps)
section
variable {W:World} {r:Rule} {hv nv:Value} {mb sb rb:Nat} {ns:List K4} {mm:List ((Int×Int)×Int)} {ob m:Nat} {bs:List Nat} {Ps:List Res}
theorem O1 (hm:m≤1000):Lo W r hv nv mb sb rb ns mm ob m bs Ps 0:=by intro w F id t x y z zx zy hz hx hy h hi h1 h2;subst hz;subst hx;subst hy;exact fill_zero h hi o_ o_ hm
def Gq (F:Fld) (n:Nat) (t:Tr) (x y:Int):Nat→Fld
 | 0=>F
 | q+1=>Bu (Gq F n t x y q) n (Tr.q t q) (x+(q % 2:Nat)*p2 n) (y+(q / 2:Nat)*p2 n)
theorem Jk {F:Fld} {n:Nat} {t:Tr} {x y:Int} (ht:Full (n+1) t):Gq F n t x y 4=Bu F (n+1) t x y:=by
 match t,ht with
 | .node a b c d,_ =>rw [← paste_node];show Bu (Bu (Bu (Bu F n a (x+0*p2 n) (y+0*p2 n)) n b (x+1*p2 n) (y+0*p2 n)) n c (x+0*p2 n) (y+1*p2 n)) n d (x+1*p2 n) (y+1*p2 n)=_;simp only [Int.zero_mul,Int.one_mul,Int.add_zero]
theorem C4 {w:World} {F:Fld} {n q:Nat} {t:Tr} {x y a b:Nat} (h:Has W w (A9 r hv nv mb sb rb ns mm (E4 ob m bs (Bu (Gq F n t x y q) n (Tr.q t q) a b)::Ps))) (ha:a=x+q % 2*2 ^ n) (hb:b=y+q / 2*2 ^ n):Has W w (A9 r hv nv mb sb rb ns mm (E4 ob m bs (Gq F n t x y (q+1))::Ps)):=by
 subst ha;subst hb;have e:Gq F n t x y (q+1)=Bu (Gq F n t x y q) n (Tr.q t q) ((x+q % 2*2 ^ n:Nat):Int) ((y+q / 2*2 ^ n:Nat):Int):=by show Bu (Gq F n t x y q) n (Tr.q t q) ((x:Int)+(q % 2:Nat)*p2 n) ((y:Int)+(q / 2:Nat)*p2 n)=_;unfold p2;rw [Int.natCast_add,Int.natCast_mul,Int.natCast_add,Int.natCast_mul]
 rw [e];exact h
theorem Px (hm:m≤1000) (ih:Lo W r hv nv mb sb rb ns mm ob m bs Ps 0):Lo W r hv nv mb sb rb ns mm ob m bs Ps (0+1):=by
 intro w F id t x y z zx zy hz hx hy h hi h1 h2;obtain rfl:z=1:=by rw [hz];rfl
 subst hx;subst hy;simp only [show (2:Nat) ^ (0+1)=2 by decide] at h1 h2;obtain⟨_,_,hk⟩:=hi.node (A4 h);have HK1:=q_ (fun w1 (h1:Has W w1 (A9 r hv nv mb sb rb ns mm (E4 ob m bs F::Ps)))=>Bg h1 hi);have HK:=q_ hk;have HQ:=q_ (Jk (F:=F) (x:=x) (y:=y) hi.2.2.1);obtain⟨_,_,_,m3,_,_,ml⟩:=mC_ h;have H:=q_ h;clear h hk hi hz;go_enter Tryz.func148,Tryz.ntmps148;go_wp2_with fail;refine (HK1.o _ H.o).mono ?_;rintro e w3 ⟨rfl,h,hf⟩;have H3:=q_ h;clear h hf H m3 ml;go_wp2;go_loopw [39] (fun x' wr=>∃ z:Int,x'=.int .i64 z∧At5 (fun q=>Has W wr (A9 r hv nv mb sb rb ns mm (E4 ob m bs (Gq F 0 t x y q)::Ps))) z) (fun x _=>4 - (intOf x).toNat);case atStart=>exact⟨0,rfl,.inl ⟨rfl,H3.o.step ((Fr.refl [] w3).alloc _)⟩⟩
 case round =>
  obtain⟨z,rfl,hz⟩:=hrel;clear H3;rcases hz with ⟨rfl,h⟩|⟨rfl,h⟩|⟨rfl,h⟩|⟨rfl,h⟩|⟨rfl,h⟩
  ·have H:=q_ h;obtain⟨_,_,_,m3,_,_,ml⟩:=mC_ h;clear h;have HC:=q_ (fun (z zx zy:Int) (e1:z=((0:Nat):Int)) (e2:zx=((x+0 % 2*2 ^ 0:Nat):Int)) (e3:zy=((y+0 / 2*2 ^ 0:Nat):Int))=>ih _ _ _ _ _ _ z zx zy e1 e2 e3 H.o (HK.o 0 o_) o_ o_);go_wp2_with fail;refine (HC.o _ _ _ o_ t_ t_).mono ?_;rintro e w5 ⟨rfl,h⟩;have H5:=q_ h;clear h HC m3 ml H;go_wp2;go_roundw;case rel=>exact⟨1,rfl,(.inr (.inl ⟨rfl,C4 H5.o rfl rfl⟩))⟩
   case measure=>simp [intOf]
  ·have H:=q_ h;obtain⟨_,_,_,m3,_,_,ml⟩:=mC_ h;clear h;have HC:=q_ (fun (z zx zy:Int) (e1:z=((0:Nat):Int)) (e2:zx=((x+1 % 2*2 ^ 0:Nat):Int)) (e3:zy=((y+1 / 2*2 ^ 0:Nat):Int))=>ih _ _ _ _ _ _ z zx zy e1 e2 e3 H.o (HK.o 1 o_) o_ o_);go_wp2_with fail;refine (HC.o _ _ _ o_ t_ t_).mono ?_;rintro e w5 ⟨rfl,h⟩;have H5:=q_ h;clear h HC m3 ml H;go_wp2;go_roundw;case rel=>exact⟨2,rfl,(.inr (.inr (.inl ⟨rfl,C4 H5.o rfl rfl⟩)))⟩
   case measure=>simp [intOf]
  ·have H:=q_ h;obtain⟨_,_,_,m3,_,_,ml⟩:=mC_ h;clear h;have HC:=q_ (fun (z zx zy:Int) (e1:z=((0:Nat):Int)) (e2:zx=((x+2 % 2*2 ^ 0:Nat):Int)) (e3:zy=((y+2 / 2*2 ^ 0:Nat):Int))=>ih _ _ _ _ _ _ z zx zy e1 e2 e3 H.o (HK.o 2 o_) o_ o_);go_wp2_with fail;refine (HC.o _ _ _ o_ t_ t_).mono ?_;rintro e w5 ⟨rfl,h⟩;have H5:=q_ h;clear h HC m3 ml H;go_wp2;go_roundw;case rel=>exact⟨3,rfl,(.inr (.inr (.inr (.inl ⟨rfl,C4 H5.o rfl rfl⟩))))⟩
   case measure=>simp [intOf]
  ·have H:=q_ h;obtain⟨_,_,_,m3,_,_,ml⟩:=mC_ h;clear h;have HC:=q_ (fun (z zx zy:Int) (e1:z=((0:Nat):Int)) (e2:zx=((x+3 % 2*2 ^ 0:Nat):Int)) (e3:zy=((y+3 / 2*2 ^ 0:Nat):Int))=>ih _ _ _ _ _ _ z zx zy e1 e2 e3 H.o (HK.o 3 o_) o_ o_);go_wp2_with fail;refine (HC.o _ _ _ o_ t_ t_).mono ?_;rintro e w5 ⟨rfl,h⟩;have H5:=q_ h;clear h HC m3 ml H;go_wp2;go_roundw;case rel=>exact⟨4,rfl,(.inr (.inr (.inr (.inr ⟨rfl,C4 H5.o rfl rfl⟩))))⟩
   case measure=>simp [intOf]
  ·have H:=q_ h;clear h;go_wp2;refine bodyPost_ret (v:=.tuple #[]) (by simp [results,Tryz.results148,go_sem]) rfl ?_;refine⟨rfl,?_⟩;rw [← HQ.o];exact H.o
theorem Pw (hm:m≤1000) (ih:Lo W r hv nv mb sb rb ns mm ob m bs Ps 1):Lo W r hv nv mb sb rb ns mm ob m bs Ps (1+1):=by
 intro w F id t x y z zx zy hz hx hy h hi h1 h2;obtain rfl:z=2:=by rw [hz];rfl
 subst hx;subst hy;simp only [show (2:Nat) ^ (1+1)=4 by decide] at h1 h2;obtain⟨_,_,hk⟩:=hi.node (A4 h);have HK1:=q_ (fun w1 (h1:Has W w1 (A9 r hv nv mb sb rb ns mm (E4 ob m bs F::Ps)))=>Bg h1 hi);have HK:=q_ hk;have HQ:=q_ (Jk (F:=F) (x:=x) (y:=y) hi.2.2.1);obtain⟨_,_,_,m3,_,_,ml⟩:=mC_ h;have H:=q_ h;clear h hk hi hz;go_enter Tryz.func148,Tryz.ntmps148;go_wp2_with fail;refine (HK1.o _ H.o).mono ?_;rintro e w3 ⟨rfl,h,hf⟩;have H3:=q_ h;clear h hf H m3 ml;go_wp2;go_loopw [39] (fun x' wr=>∃ z:Int,x'=.int .i64 z∧At5 (fun q=>Has W wr (A9 r hv nv mb sb rb ns mm (E4 ob m bs (Gq F 1 t x y q)::Ps))) z) (fun x _=>4 - (intOf x).toNat);case atStart=>exact⟨0,rfl,.inl ⟨rfl,H3.o.step ((Fr.refl [] w3).alloc _)⟩⟩
 case round =>
  obtain⟨z,rfl,hz⟩:=hrel;clear H3;rcases hz with ⟨rfl,h⟩|⟨rfl,h⟩|⟨rfl,h⟩|⟨rfl,h⟩|⟨rfl,h⟩
  ·have H:=q_ h;obtain⟨_,_,_,m3,_,_,ml⟩:=mC_ h;clear h;have HC:=q_ (fun (z zx zy:Int) (e1:z=((1:Nat):Int)) (e2:zx=((x+0 % 2*2 ^ 1:Nat):Int)) (e3:zy=((y+0 / 2*2 ^ 1:Nat):Int))=>ih _ _ _ _ _ _ z zx zy e1 e2 e3 H.o (HK.o 0 o_) o_ o_);go_wp2_with fail;refine (HC.o _ _ _ o_ t_ t_).mono ?_;rintro e w5 ⟨rfl,h⟩;have H5:=q_ h;clear h HC m3 ml H;go_wp2;go_roundw;case rel=>exact⟨1,rfl,(.inr (.inl ⟨rfl,C4 H5.o rfl rfl⟩))⟩
   case measure=>simp [intOf]
  ·have H:=q_ h;obtain⟨_,_,_,m3,_,_,ml⟩:=mC_ h;clear h;have HC:=q_ (fun (z zx zy:Int) (e1:z=((1:Nat):Int)) (e2:zx=((x+1 % 2*2 ^ 1:Nat):Int)) (e3:zy=((y+1 / 2*2 ^ 1:Nat):Int))=>ih _ _ _ _ _ _ z zx zy e1 e2 e3 H.o (HK.o 1 o_) o_ o_);go_wp2_with fail;refine (HC.o _ _ _ o_ t_ t_).mono ?_;rintro e w5 ⟨rfl,h⟩;have H5:=q_ h;clear h HC m3 ml H;go_wp2;go_roundw;case rel=>exact⟨2,rfl,(.inr (.inr (.inl ⟨rfl,C4 H5.o rfl rfl⟩)))⟩
   case measure=>simp [intOf]
  ·have H:=q_ h;obtain⟨_,_,_,m3,_,_,ml⟩:=mC_ h;clear h;have HC:=q_ (fun (z zx zy:Int) (e1:z=((1:Nat):Int)) (e2:zx=((x+2 % 2*2 ^ 1:Nat):Int)) (e3:zy=((y+2 / 2*2 ^ 1:Nat):Int))=>ih _ _ _ _ _ _ z zx zy e1 e2 e3 H.o (HK.o 2 o_) o_ o_);go_wp2_with fail;refine (HC.o _ _ _ o_ t_ t_).mono ?_;rintro e w5 ⟨rfl,h⟩;have H5:=q_ h;clear h HC m3 ml H;go_wp2;go_roundw;case rel=>exact⟨3,rfl,(.inr (.inr (.inr (.inl ⟨rfl,C4 H5.o rfl rfl⟩))))⟩
   case measure=>simp [intOf]
  ·have H:=q_ h;obtain⟨_,_,_,m3,_,_,ml⟩:=mC_ h;clear h;have HC:=q_ (fun (z zx zy:Int) (e1:z=((1:Nat):Int)) (e2:zx=((x+3 % 2*2 ^ 1:Nat):Int)) (e3:zy=((y+3 / 2*2 ^ 1:Nat):Int))=>ih _ _ _ _ _ _ z zx zy e1 e2 e3 H.o (HK.o 3 o_) o_ o_);go_wp2_with fail;refine (HC.o _ _ _ o_ t_ t_).mono ?_;rintro e w5 ⟨rfl,h⟩;have H5:=q_ h;clear h HC m3 ml H;go_wp2;go_roundw;case rel=>exact⟨4,rfl,(.inr (.inr (.inr (.inr ⟨rfl,C4 H5.o rfl rfl⟩))))⟩
   case measure=>simp [intOf]
  ·have H:=q_ h;clear h;go_wp2;refine bodyPost_ret (v:=.tuple #[]) (by simp [results,Tryz.results148,go_sem]) rfl ?_;refine⟨rfl,?_⟩;rw [← HQ.o];exact H.o
theorem fillAt_three (hm:m≤1000) (ih:Lo W r hv nv mb sb rb ns mm ob m bs Ps 2):Lo W r hv nv mb sb rb ns mm ob m bs Ps (2+1):=by
 intro w F id t x y z zx zy hz hx hy h hi h1 h2;obtain rfl:z=3:=by rw [hz];rfl
 subst hx;subst hy;simp only [show (2:Nat) ^ (2+1)=8 by decide] at h1 h2;obtain⟨_,_,hk⟩:=hi.node (A4 h);have HK1:=q_ (fun w1 (h1:Has W w1 (A9 r hv nv mb sb rb ns mm (E4 ob m bs F::Ps)))=>Bg h1 hi);have HK:=q_ hk;have HQ:=q_ (Jk (F:=F) (x:=x) (y:=y) hi.2.2.1);obtain⟨_,_,_,m3,_,_,ml⟩:=mC_ h;have H:=q_ h;clear h hk hi hz;go_enter Tryz.func148,Tryz.ntmps148;go_wp2_with fail;refine (HK1.o _ H.o).mono ?_;rintro e w3 ⟨rfl,h,hf⟩;have H3:=q_ h;clear h hf H m3 ml;go_wp2;go_loopw [39] (fun x' wr=>∃ z:Int,x'=.int .i64 z∧At5 (fun q=>Has W wr (A9 r hv nv mb sb rb ns mm (E4 ob m bs (Gq F 2 t x y q)::Ps))) z) (fun x _=>4 - (intOf x).toNat);case atStart=>exact⟨0,rfl,.inl ⟨rfl,H3.o.step ((Fr.refl [] w3).alloc _)⟩⟩
 case round =>
  obtain⟨z,rfl,hz⟩:=hrel;clear H3;rcases hz with ⟨rfl,h⟩|⟨rfl,h⟩|⟨rfl,h⟩|⟨rfl,h⟩|⟨rfl,h⟩
  ·have H:=q_ h;obtain⟨_,_,_,m3,_,_,ml⟩:=mC_ h;clear h;have HC:=q_ (fun (z zx zy:Int) (e1:z=((2:Nat):Int)) (e2:zx=((x+0 % 2*2 ^ 2:Nat):Int)) (e3:zy=((y+0 / 2*2 ^ 2:Nat):Int))=>ih _ _ _ _ _ _ z zx zy e1 e2 e3 H.o (HK.o 0 o_) o_ o_);go_wp2_with fail;refine (HC.o _ _ _ o_ t_ t_).mono ?_;rintro e w5 ⟨rfl,h⟩;have H5:=q_ h;clear h HC m3 ml H;go_wp2;go_roundw;case rel=>exact⟨1,rfl,(.inr (.inl ⟨rfl,C4 H5.o rfl rfl⟩))⟩
   case measure=>simp [intOf]
  ·have H:=q_ h;obtain⟨_,_,_,m3,_,_,ml⟩:=mC_ h;clear h;have HC:=q_ (fun (z zx zy:Int) (e1:z=((2:Nat):Int)) (e2:zx=((x+1 % 2*2 ^ 2:Nat):Int)) (e3:zy=((y+1 / 2*2 ^ 2:Nat):Int))=>ih _ _ _ _ _ _ z zx zy e1 e2 e3 H.o (HK.o 1 o_) o_ o_);go_wp2_with fail;refine (HC.o _ _ _ o_ t_ t_).mono ?_;rintro e w5 ⟨rfl,h⟩;have H5:=q_ h;clear h HC m3 ml H;go_wp2;go_roundw;case rel=>exact⟨2,rfl,(.inr (.inr (.inl ⟨rfl,C4 H5.o rfl rfl⟩)))⟩
   case measure=>simp [intOf]
  ·have H:=q_ h;obtain⟨_,_,_,m3,_,_,ml⟩:=mC_ h;clear h;have HC:=q_ (fun (z zx zy:Int) (e1:z=((2:Nat):Int)) (e2:zx=((x+2 % 2*2 ^ 2:Nat):Int)) (e3:zy=((y+2 / 2*2 ^ 2:Nat):Int))=>ih _ _ _ _ _ _ z zx zy e1 e2 e3 H.o (HK.o 2 o_) o_ o_);go_wp2_with fail;refine (HC.o _ _ _ o_ t_ t_).mono ?_;rintro e w5 ⟨rfl,h⟩;have H5:=q_ h;clear h HC m3 ml H;go_wp2;go_roundw;case rel=>exact⟨3,rfl,(.inr (.inr (.inr (.inl ⟨rfl,C4 H5.o rfl rfl⟩))))⟩
   case measure=>simp [intOf]
  ·have H:=q_ h;obtain⟨_,_,_,m3,_,_,ml⟩:=mC_ h;clear h;have HC:=q_ (fun (z zx zy:Int) (e1:z=((2:Nat):Int)) (e2:zx=((x+3 % 2*2 ^ 2:Nat):Int)) (e3:zy=((y+3 / 2*2 ^ 2:Nat):Int))=>ih _ _ _ _ _ _ z zx zy e1 e2 e3 H.o (HK.o 3 o_) o_ o_);go_wp2_with fail;refine (HC.o _ _ _ o_ t_ t_).mono ?_;rintro e w5 ⟨rfl,h⟩;have H5:=q_ h;clear h HC m3 ml H;go_wp2;go_roundw;case rel=>exact⟨4,rfl,(.inr (.inr (.inr (.inr ⟨rfl,C4 H5.o rfl rfl⟩))))⟩
   case measure=>simp [intOf]
  ·have H:=q_ h;clear h;go_wp2;refine bodyPost_ret (v:=.tuple #[]) (by simp [results,Tryz.results148,go_sem]) rfl ?_;refine⟨rfl,?_⟩;rw [← HQ.o];exact H.o
end
end Go.Proofs.YtebolidfbflkmaaGreat
namespace Go.Proofs.Ev
open Qs
variable {n:Nat}{F:Fld}{x y:Int}
theorem C5 {q:Nat} (hq:q<4) {u:Tr} (hu:u∈Ip (mk n F (x+(q % 2:Nat)*p2 n) (y+(q / 2:Nat)*p2 n))):u∈Ip (mk (n+1) F x y):=by
 show u∈Ip (mk n F x y)++Ip (mk n F (x+p2 n) y)++Ip (mk n F x (y+p2 n))++Ip (mk n F (x+p2 n) (y+p2 n))++[_];simp only [List.mem_append]
 match q,hq with
 | 0,_=>simp only [Nat.zero_mod,Nat.zero_div,Int.natCast_zero,Int.zero_mul,Int.add_zero] at hu;exact .inl (.inl (.inl (.inl hu)))
 | 1,_=>rw [show ((1 % 2:Nat):Int)*p2 n=p2 n by simp,show ((1 / 2:Nat):Int)*p2 n=0 by simp,Int.add_zero] at hu;exact .inl (.inl (.inl (.inr hu)))
 | 2,_=>rw [show ((2 % 2:Nat):Int)*p2 n=0 by simp,show ((2 / 2:Nat):Int)*p2 n=p2 n by simp,Int.add_zero] at hu;exact .inl (.inl (.inr hu))
 | 3,_=>rw [show ((3 % 2:Nat):Int)*p2 n=p2 n by simp] at hu;exact .inl (.inr hu)
theorem Ls:mk (n+1) F x y∈Ip (mk (n+1) F x y):=by show _∈_++[mk (n+1) F x y];simp
end Go.Proofs.Ev
namespace Go.Proofs.YtebolidfbflkmaaGreat
open Go Go.RowKit Rg Mp Hp Qs Ev
def SquarePost (W:World) (r:Rule) (hv nv:Value) (mb sb rb:Nat) (L:List Tr) (ns:List K4) (mm:List ((Int×Int)×Int)) (T:Tr) (n:Nat) (Ps:List Res) (e:Ending) (w':World):Prop :=
 ∃ res ns',e=.returned (.tuple #[.int .i64 res,.int .i64 0])∧Has W w' (A9 r hv nv mb sb rb ns' mm Ps)∧ns <+: ns'∧room r.S ns' L∧Is r.S ns' n res T
def K1 (W:World) (r:Rule) (hv nv:Value) (mb sb rb:Nat) (L:List Tr) (mm:List ((Int×Int)×Int)) (ob m:Nat) (bs:List Nat) (F:Fld) (n:Nat):Prop :=
 ∀ (w:World) (Ps:List Res) (ns:List K4) (x y:Nat) (z zx zy:Int),z=n→zx=x→zy=y→Has W w (A9 r hv nv mb sb rb ns mm (E4 ob m bs F::Ps))→room r.S ns L→x+2 ^ n≤m→y+2 ^ n≤m →
  (∀ i j:Nat,x≤i→i<x+2 ^ n→y≤j→j<y+2 ^ n→0≤F i j∧F i j<r.S)→(∀ u∈Ip (mk n F x y),u∈L) →
  Calls Tryz.prog 149 #[.pointer (some ⟨mb,0,none⟩),.slice (some ⟨ob,0,none⟩) m m,.int .i64 z,.int .i64 zx,.int .i64 zy] w (SquarePost W r hv nv mb sb rb L ns mm (mk n F x y) n (E4 ob m bs F::Ps))
section
variable {W:World} {r:Rule} {hv nv:Value} {mb sb rb:Nat} {L:List Tr} {mm:List ((Int×Int)×Int)} {ob m:Nat} {bs:List Nat} {F:Fld}
theorem Ku (hm:m≤1000):K1 W r hv nv mb sb rb L mm ob m bs F 0:=by
 intro w Ps ns x y z zx zy hz hx hy h hr h1 h2 hF hL;subst hz;subst hx;subst hy;have hv0:=hF x y o_ o_ o_ o_;obtain⟨b,hb,c0,c1,cz,cl,ol⟩:=Ke h.fourth (y:=y) o_;have c1:=c1 x o_;have HI:=q_ (Is.leaf (ns:=ns) hv0.1 hv0.2);have H:=q_ h;have HR:=q_ hr;have h1':x<m:=o_
 have h2':y<m:=o_
 clear hv0 h hF hL cz hb hr h1 h2;go_enter Tryz.func149,Tryz.ntmps149;go_wp2;go_ret2;exact⟨F x y,ns,rfl,H.o,List.prefix_refl _,HR.o,HI.o⟩
structure SqSt (W wr:World) (r:Rule) (hv nv:Value) (mb sb rb:Nat) (L:List Tr) (ns0:List K4) (mm:List ((Int×Int)×Int)) (Ps:List Res) (n:Nat) (F:Fld) (x y:Int) (qb:Nat) (ns:List K4) (O:List Int) (m:Nat):Prop where
 has:Has W wr (A9 r hv nv mb sb rb ns mm (Hp.blk qb (.cells (iv O).toArray 132 (0,0))::Ps))
 len:O.length=4
 pre:ns0 <+: ns
 room:Qs.room r.S ns L
 done:∀ j,j<m→Is r.S ns n (O.getD j 0) (mk n F (x+(j % 2:Nat)*p2 n) (y+(j / 2:Nat)*p2 n))
theorem SqSt.put {wr wr':World} {ns0 ns ns':List K4} {Ps:List Res} {n qb k:Nat} {x y:Int} {O:List Int} (h:SqSt W wr r hv nv mb sb rb L ns0 mm Ps n F x y qb ns O k) (hm:k<4) {v:Int} {a b:Int}
  (hh:Has W wr' (A9 r hv nv mb sb rb ns' mm (Hp.blk qb (.cells (iv O).toArray 132 (0,0))::Ps))) (hp:ns <+: ns') (hr:Qs.room r.S ns' L) (hv':Is r.S ns' n v (Go.Proofs.Ev.mk n F a b)) (ha:a=x+(k % 2:Nat)*p2 n) (hb:b=y+(k / 2:Nat)*p2 n) :
  SqSt W (wr'.setCell ⟨qb,k,none⟩ (.int .i64 v)) r hv nv mb sb rb L ns0 mm Ps n F x y qb ns' (O.set k v) (k+1) where
 has:=by have:=(hST hh.fourth k (.int .i64 v)).back4;rwa [M7] at this
 len:=by rw [List.length_set];exact h.len
 pre:=h.pre.trans hp
 room:=hr
 done:=fun j hj=>by
  by_cases e:j=k;·
   subst e;rw [Gt (by rw [h.len];exact hm),← ha,← hb];exact hv'
  ·rw [Gu e];exact (h.done j o_).grow hp
theorem Lu (hm:m≤1000) (ih:K1 W r hv nv mb sb rb L mm ob m bs F 0):K1 W r hv nv mb sb rb L mm ob m bs F (0+1):=by
 intro w Ps ns x y z zx zy hz hx hy h hr h1 h2 hFF hL;obtain rfl:z=1:=by rw [hz];rfl
 subst hx;subst hy;simp only [show (2:Nat) ^ (0+1)=2 by decide] at h1 h2 hFF;have HFF:=q_ hFF;have HSUB:=q_ hL;have HSELF:=q_ (hL _ Ls);have H:=q_ h;have HR:=q_ hr;clear h hz hr hFF hL;go_enter Tryz.func149,Tryz.ntmps149;go_wp2;obtain⟨qb,hqb⟩:∃ qb,w.heap.size=qb:=⟨_,rfl⟩;have h0:=(hAL H.o #[.int .i64 0,.int .i64 0,.int .i64 0,.int .i64 0] 132).back4;rw [hqb] at h0 ⊢;have H0:=q_ h0;clear h0 hqb H;go_loopw [29] (fun x' wr=>∃ z:Int,x'=.int .i64 z∧At5 (fun q=>∃ ns' O,SqSt W wr r hv nv mb sb rb L ns mm (E4 ob m bs F::Ps) 0 F x y qb ns' O q) z) (fun x _=>4 - (intOf x).toNat);case atStart=>exact⟨0,rfl,.inl ⟨rfl,ns,[0,0,0,0],⟨H0.o,rfl,List.prefix_refl _,HR.o,fun j hj=>by omega⟩⟩⟩
 case round =>
  obtain⟨z,rfl,hz⟩:=hrel;clear H0;rcases hz with ⟨rfl,ns2,O,hs⟩|⟨rfl,ns2,O,hs⟩|⟨rfl,ns2,O,hs⟩|⟨rfl,ns2,O,hs⟩|⟨rfl,ns2,O,hs⟩
  ·obtain⟨_,_,_,m3,_,_,ml⟩:=mC_ hs.has;have HS:=q_ hs;have HC:=q_ (fun (z zx zy:Int) (e1:z=((0:Nat):Int)) (e2:zx=((x+0 % 2*2 ^ 0:Nat):Int)) (e3:zy=((y+0 / 2*2 ^ 0:Nat):Int))=>ih _ _ _ _ _ z zx zy e1 e2 e3 hs.has.fifth hs.room o_ o_ (fun i j a b c d=>HFF.o i j o_ o_ o_ o_) (fun u hu=>HSUB.o u (C5 (q:=0) o_ (by simpa [p2] using hu))));clear hs;go_wp2_with fail;refine (HC.o _ _ _ o_ t_ t_).mono ?_;rintro e w6 ⟨res,ns4,rfl,g1,g2,g3,g4⟩;have g1:=g1.fifth;have hc:=bC_ g1.fourth (j:=0) (by have:=HS.o.len;omega);have hz:=(hCE g1.fourth).2.1 0;have hl:=(hCE g1.fourth).2.2;have HF:=q_ (HS.o.put o_ g1 g2 g3 g4 (by simp [p2]) (by simp [p2]));clear HC g1 g2 g3 g4 m3 ml;go_wp2;go_roundw;case rel=>exact⟨1,rfl,(.inr (.inl ⟨rfl,_,_,HF.o⟩))⟩
   case measure=>simp [intOf]
  ·obtain⟨_,_,_,m3,_,_,ml⟩:=mC_ hs.has;have HS:=q_ hs;have HC:=q_ (fun (z zx zy:Int) (e1:z=((0:Nat):Int)) (e2:zx=((x+1 % 2*2 ^ 0:Nat):Int)) (e3:zy=((y+1 / 2*2 ^ 0:Nat):Int))=>ih _ _ _ _ _ z zx zy e1 e2 e3 hs.has.fifth hs.room o_ o_ (fun i j a b c d=>HFF.o i j o_ o_ o_ o_) (fun u hu=>HSUB.o u (C5 (q:=1) o_ (by simpa [p2] using hu))));clear hs;go_wp2_with fail;refine (HC.o _ _ _ o_ t_ t_).mono ?_;rintro e w6 ⟨res,ns4,rfl,g1,g2,g3,g4⟩;have g1:=g1.fifth;have hc:=bC_ g1.fourth (j:=1) (by have:=HS.o.len;omega);have hz:=(hCE g1.fourth).2.1 1;have hl:=(hCE g1.fourth).2.2;have HF:=q_ (HS.o.put o_ g1 g2 g3 g4 (by simp [p2]) (by simp [p2]));clear HC g1 g2 g3 g4 m3 ml;go_wp2;go_roundw;case rel=>exact⟨2,rfl,(.inr (.inr (.inl ⟨rfl,_,_,HF.o⟩)))⟩
   case measure=>simp [intOf]
  ·obtain⟨_,_,_,m3,_,_,ml⟩:=mC_ hs.has;have HS:=q_ hs;have HC:=q_ (fun (z zx zy:Int) (e1:z=((0:Nat):Int)) (e2:zx=((x+2 % 2*2 ^ 0:Nat):Int)) (e3:zy=((y+2 / 2*2 ^ 0:Nat):Int))=>ih _ _ _ _ _ z zx zy e1 e2 e3 hs.has.fifth hs.room o_ o_ (fun i j a b c d=>HFF.o i j o_ o_ o_ o_) (fun u hu=>HSUB.o u (C5 (q:=2) o_ (by simpa [p2] using hu))));clear hs;go_wp2_with fail;refine (HC.o _ _ _ o_ t_ t_).mono ?_;rintro e w6 ⟨res,ns4,rfl,g1,g2,g3,g4⟩;have g1:=g1.fifth;have hc:=bC_ g1.fourth (j:=2) (by have:=HS.o.len;omega);have hz:=(hCE g1.fourth).2.1 2;have hl:=(hCE g1.fourth).2.2;have HF:=q_ (HS.o.put o_ g1 g2 g3 g4 (by simp [p2]) (by simp [p2]));clear HC g1 g2 g3 g4 m3 ml;go_wp2;go_roundw;case rel=>exact⟨3,rfl,(.inr (.inr (.inr (.inl ⟨rfl,_,_,HF.o⟩))))⟩
   case measure=>simp [intOf]
  ·obtain⟨_,_,_,m3,_,_,ml⟩:=mC_ hs.has;have HS:=q_ hs;have HC:=q_ (fun (z zx zy:Int) (e1:z=((0:Nat):Int)) (e2:zx=((x+3 % 2*2 ^ 0:Nat):Int)) (e3:zy=((y+3 / 2*2 ^ 0:Nat):Int))=>ih _ _ _ _ _ z zx zy e1 e2 e3 hs.has.fifth hs.room o_ o_ (fun i j a b c d=>HFF.o i j o_ o_ o_ o_) (fun u hu=>HSUB.o u (C5 (q:=3) o_ (by simpa [p2] using hu))));clear hs;go_wp2_with fail;refine (HC.o _ _ _ o_ t_ t_).mono ?_;rintro e w6 ⟨res,ns4,rfl,g1,g2,g3,g4⟩;have g1:=g1.fifth;have hc:=bC_ g1.fourth (j:=3) (by have:=HS.o.len;omega);have hz:=(hCE g1.fourth).2.1 3;have hl:=(hCE g1.fourth).2.2;have HF:=q_ (HS.o.put o_ g1 g2 g3 g4 (by simp [p2]) (by simp [p2]));clear HC g1 g2 g3 g4 m3 ml;go_wp2;go_roundw;case rel=>exact⟨4,rfl,(.inr (.inr (.inr (.inr ⟨rfl,_,_,HF.o⟩))))⟩
   case measure=>simp [intOf]
  ·obtain⟨_,_,_,m3,_,_,ml⟩:=mC_ hs.has;have o0:=bC_ hs.has.fourth (j:=0) (by have:=hs.len;omega);have o1:=bC_ hs.has.fourth (j:=1) (by have:=hs.len;omega);have o2:=bC_ hs.has.fourth (j:=2) (by have:=hs.len;omega);have o3:=bC_ hs.has.fourth (j:=3) (by have:=hs.len;omega);have ol:=(hCE hs.has.fourth).2.2;have HJ:=q_ (fun w1 (hf:Fr [] wr w1)=>Ak (hs.has.step hf) hs.room o_ (hs.done 0 o_) (hs.done 1 o_) (hs.done 2 o_) (hs.done 3 o_) (by have h9:=HSELF.o;unfold Go.Proofs.Ev.mk at h9;simpa [p2] using h9));have HS:=q_ hs;clear hs;go_wp2;(refine wT ?_);go_wp2_with fail;refine (HJ.o _ (Fr.t)).mono ?_;rintro e w5 ⟨id1,ns3,rfl,h1,h2,h3,h4⟩;have H5:=q_ (And.intro h1 (And.intro h2 (And.intro h3 h4)));clear o0 o1 o2 o3 ol h1 h2 h3 h4 m3 ml;go_wp2;refine sT_ rfl ?_;go_wp2;go_ret2;refine⟨id1,ns3,rfl,H5.o.1.fourth.drop,HS.o.pre.trans H5.o.2.1,H5.o.2.2.1,?_⟩;have h9:=H5.o.2.2.2;unfold Go.Proofs.Ev.mk;simpa [p2] using h9
theorem squareAt_two (hm:m≤1000) (ih:K1 W r hv nv mb sb rb L mm ob m bs F 1):K1 W r hv nv mb sb rb L mm ob m bs F (1+1):=by
 intro w Ps ns x y z zx zy hz hx hy h hr h1 h2 hFF hL;obtain rfl:z=2:=by rw [hz];rfl
 subst hx;subst hy;simp only [show (2:Nat) ^ (1+1)=4 by decide] at h1 h2 hFF;have HFF:=q_ hFF;have HSUB:=q_ hL;have HSELF:=q_ (hL _ Ls);have H:=q_ h;have HR:=q_ hr;clear h hz hr hFF hL;go_enter Tryz.func149,Tryz.ntmps149;go_wp2;obtain⟨qb,hqb⟩:∃ qb,w.heap.size=qb:=⟨_,rfl⟩;have h0:=(hAL H.o #[.int .i64 0,.int .i64 0,.int .i64 0,.int .i64 0] 132).back4;rw [hqb] at h0 ⊢;have H0:=q_ h0;clear h0 hqb H;go_loopw [29] (fun x' wr=>∃ z:Int,x'=.int .i64 z∧At5 (fun q=>∃ ns' O,SqSt W wr r hv nv mb sb rb L ns mm (E4 ob m bs F::Ps) 1 F x y qb ns' O q) z) (fun x _=>4 - (intOf x).toNat);case atStart=>exact⟨0,rfl,.inl ⟨rfl,ns,[0,0,0,0],⟨H0.o,rfl,List.prefix_refl _,HR.o,fun j hj=>by omega⟩⟩⟩
 case round =>
  obtain⟨z,rfl,hz⟩:=hrel;clear H0;rcases hz with ⟨rfl,ns2,O,hs⟩|⟨rfl,ns2,O,hs⟩|⟨rfl,ns2,O,hs⟩|⟨rfl,ns2,O,hs⟩|⟨rfl,ns2,O,hs⟩
  ·obtain⟨_,_,_,m3,_,_,ml⟩:=mC_ hs.has;have HS:=q_ hs;have HC:=q_ (fun (z zx zy:Int) (e1:z=((1:Nat):Int)) (e2:zx=((x+0 % 2*2 ^ 1:Nat):Int)) (e3:zy=((y+0 / 2*2 ^ 1:Nat):Int))=>ih _ _ _ _ _ z zx zy e1 e2 e3 hs.has.fifth hs.room o_ o_ (fun i j a b c d=>HFF.o i j o_ o_ o_ o_) (fun u hu=>HSUB.o u (C5 (q:=0) o_ (by simpa [p2] using hu))));clear hs;go_wp2_with fail;refine (HC.o _ _ _ o_ t_ t_).mono ?_;rintro e w6 ⟨res,ns4,rfl,g1,g2,g3,g4⟩;have g1:=g1.fifth;have hc:=bC_ g1.fourth (j:=0) (by have:=HS.o.len;omega);have hz:=(hCE g1.fourth).2.1 0;have hl:=(hCE g1.fourth).2.2;have HF:=q_ (HS.o.put o_ g1 g2 g3 g4 (by simp [p2]) (by simp [p2]));clear HC g1 g2 g3 g4 m3 ml;go_wp2;go_roundw;case rel=>exact⟨1,rfl,(.inr (.inl ⟨rfl,_,_,HF.o⟩))⟩
   case measure=>simp [intOf]
  ·obtain⟨_,_,_,m3,_,_,ml⟩:=mC_ hs.has;have HS:=q_ hs;have HC:=q_ (fun (z zx zy:Int) (e1:z=((1:Nat):Int)) (e2:zx=((x+1 % 2*2 ^ 1:Nat):Int)) (e3:zy=((y+1 / 2*2 ^ 1:Nat):Int))=>ih _ _ _ _ _ z zx zy e1 e2 e3 hs.has.fifth hs.room o_ o_ (fun i j a b c d=>HFF.o i j o_ o_ o_ o_) (fun u hu=>HSUB.o u (C5 (q:=1) o_ (by simpa [p2] using hu))));clear hs;go_wp2_with fail;refine (HC.o _ _ _ o_ t_ t_).mono ?_;rintro e w6 ⟨res,ns4,rfl,g1,g2,g3,g4⟩;have g1:=g1.fifth;have hc:=bC_ g1.fourth (j:=1) (by have:=HS.o.len;omega);have hz:=(hCE g1.fourth).2.1 1;have hl:=(hCE g1.fourth).2.2;have HF:=q_ (HS.o.put o_ g1 g2 g3 g4 (by simp [p2]) (by simp [p2]));clear HC g1 g2 g3 g4 m3 ml;go_wp2;go_roundw;case rel=>exact⟨2,rfl,(.inr (.inr (.inl ⟨rfl,_,_,HF.o⟩)))⟩
   case measure=>simp [intOf]
  ·obtain⟨_,_,_,m3,_,_,ml⟩:=mC_ hs.has;have HS:=q_ hs;have HC:=q_ (fun (z zx zy:Int) (e1:z=((1:Nat):Int)) (e2:zx=((x+2 % 2*2 ^ 1:Nat):Int)) (e3:zy=((y+2 / 2*2 ^ 1:Nat):Int))=>ih _ _ _ _ _ z zx zy e1 e2 e3 hs.has.fifth hs.room o_ o_ (fun i j a b c d=>HFF.o i j o_ o_ o_ o_) (fun u hu=>HSUB.o u (C5 (q:=2) o_ (by simpa [p2] using hu))));clear hs;go_wp2_with fail;refine (HC.o _ _ _ o_ t_ t_).mono ?_;rintro e w6 ⟨res,ns4,rfl,g1,g2,g3,g4⟩;have g1:=g1.fifth;have hc:=bC_ g1.fourth (j:=2) (by have:=HS.o.len;omega);have hz:=(hCE g1.fourth).2.1 2;have hl:=(hCE g1.fourth).2.2;have HF:=q_ (HS.o.put o_ g1 g2 g3 g4 (by simp [p2]) (by simp [p2]));clear HC g1 g2 g3 g4 m3 ml;go_wp2;go_roundw;case rel=>exact⟨3,rfl,(.inr (.inr (.inr (.inl ⟨rfl,_,_,HF.o⟩))))⟩
   case measure=>simp [intOf]
  ·obtain⟨_,_,_,m3,_,_,ml⟩:=mC_ hs.has;have HS:=q_ hs;have HC:=q_ (fun (z zx zy:Int) (e1:z=((1:Nat):Int)) (e2:zx=((x+3 % 2*2 ^ 1:Nat):Int)) (e3:zy=((y+3 / 2*2 ^ 1:Nat):Int))=>ih _ _ _ _ _ z zx zy e1 e2 e3 hs.has.fifth hs.room o_ o_ (fun i j a b c d=>HFF.o i j o_ o_ o_ o_) (fun u hu=>HSUB.o u (C5 (q:=3) o_ (by simpa [p2] using hu))));clear hs;go_wp2_with fail;refine (HC.o _ _ _ o_ t_ t_).mono ?_;rintro e w6 ⟨res,ns4,rfl,g1,g2,g3,g4⟩;have g1:=g1.fifth;have hc:=bC_ g1.fourth (j:=3) (by have:=HS.o.len;omega);have hz:=(hCE g1.fourth).2.1 3;have hl:=(hCE g1.fourth).2.2;have HF:=q_ (HS.o.put o_ g1 g2 g3 g4 (by simp [p2]) (by simp [p2]));clear HC g1 g2 g3 g4 m3 ml;go_wp2;go_roundw;case rel=>exact⟨4,rfl,(.inr (.inr (.inr (.inr ⟨rfl,_,_,HF.o⟩))))⟩
   case measure=>simp [intOf]
  ·obtain⟨_,_,_,m3,_,_,ml⟩:=mC_ hs.has;have o0:=bC_ hs.has.fourth (j:=0) (by have:=hs.len;omega);have o1:=bC_ hs.has.fourth (j:=1) (by have:=hs.len;omega);have o2:=bC_ hs.has.fourth (j:=2) (by have:=hs.len;omega);have o3:=bC_ hs.has.fourth (j:=3) (by have:=hs.len;omega);have ol:=(hCE hs.has.fourth).2.2;have HJ:=q_ (fun w1 (hf:Fr [] wr w1)=>Ak (hs.has.step hf) hs.room o_ (hs.done 0 o_) (hs.done 1 o_) (hs.done 2 o_) (hs.done 3 o_) (by have h9:=HSELF.o;unfold Go.Proofs.Ev.mk at h9;simpa [p2] using h9));have HS:=q_ hs;clear hs;go_wp2;(refine wT ?_);go_wp2_with fail;refine (HJ.o _ (Fr.t)).mono ?_;rintro e w5 ⟨id1,ns3,rfl,h1,h2,h3,h4⟩;have H5:=q_ (And.intro h1 (And.intro h2 (And.intro h3 h4)));clear o0 o1 o2 o3 ol h1 h2 h3 h4 m3 ml;go_wp2;refine sT_ rfl ?_;go_wp2;go_ret2;refine⟨id1,ns3,rfl,H5.o.1.fourth.drop,HS.o.pre.trans H5.o.2.1,H5.o.2.2.1,?_⟩;have h9:=H5.o.2.2.2;unfold Go.Proofs.Ev.mk;simpa [p2] using h9
end
end Go.Proofs.YtebolidfbflkmaaGreat
namespace Go.Proofs.YtebolidfbflkmaaGreat
open Go Go.RowKit Rg Hp Ev
theorem Ag {a b:Bool} (h:a=b):Ending.returned (.bool a)=Ending.returned (.bool b):=by rw [h]
variable {l:List (Int×Int)}{x y:Int}
theorem hoodAt_zero (h:l[0]?=some (x,y)):Gs l 0=decide (-2≤x∧x≤2∧-2≤y∧y≤2):=by unfold Gs Vj;rw [List.getD_eq_getElem?_getD,h];simp
variable {k:Nat}
theorem hoodAt_succ {q:Int×Int} (h:l[k+1]?=some (x,y)) (h':l[k]?=some q):Gs l (k+1)=(decide (-2≤x∧x≤2∧-2≤y∧y≤2) && before q (x,y)):=by unfold Gs Vj;rw [List.getD_eq_getElem?_getD,h,Nat.add_sub_cancel,List.getD_eq_getElem?_getD,h'];simp
theorem Nw (hk:k<l.length) (h:Gs l k=false):Db l=false:=by
 unfold Db;have:(List.range l.length).all (Gs l)=false:=by rw [List.all_eq_false];exact⟨k,List.mem_range.2 hk,by rw [h];simp⟩
 rw [this,Bool.and_false]
theorem hoodR_true (h1:1≤l.length) (h2:l.length≤25) (h:∀ k,k<l.length→Gs l k=true):Db l=true:=by unfold Db;rw [decide_eq_true h1,decide_eq_true h2,Bool.true_and,Bool.true_and,List.all_eq_true];exact fun k hk=>h k (List.mem_range.1 hk)
theorem hoodR_len (h:¬ (1≤l.length∧l.length≤25)):Db l=false:=by
 unfold Db;by_cases h1:1≤l.length;·rw [decide_eq_false (show ¬ l.length≤25 from fun h2=>h ⟨h1,h2⟩),Bool.and_false,Bool.false_and]
 ·rw [decide_eq_false h1,Bool.false_and,Bool.false_and]
variable {w:World}{a:Option Addr}{c:Nat}
theorem Mr (hl:PtsAt w (.slice a l.length c) l) (hlen:l.length≤1000000) :
  Calls Tryz.prog 122 #[.slice a l.length c] w fun e w'=>e=.returned (.bool (Db l))∧Fr [] w w':=by
 have Hl:=q_ hl;clear hl;by_cases h1:1≤l.length∧l.length≤25;·
  obtain⟨h1,h2⟩:=h1;go_enter Tryz.func122,Tryz.ntmps122;go_wp2;go_loopw [15] (fun x wr=>∃ k:Nat,x=.int .i64 k∧k≤l.length∧(∀ j,j<k→Gs l j=true)∧Fr [] w wr) (fun x _=>l.length - (intOf x).toNat);case atStart=>exact⟨0,rfl,o_,o_,Fr.refl _ _⟩
  case round =>
   obtain⟨k,rfl,hk,hn,hf⟩:=hrel;have Hk:=q_ hn;have Hf:=q_ hf;clear hn hf;by_cases hlt:k<l.length;·
    obtain⟨⟨x,y⟩,hp⟩:∃ p,l[k]?=some p:=⟨_,List.getElem?_eq_getElem hlt⟩;obtain⟨g,off,rfl,hg,e0,e1⟩:=(Hl.o.fr Hf.o).cell hp;simp only at e0 e1;cases k with
    | zero =>
     have HA:=q_ (hoodAt_zero hp);clear hp;simp only [Nat.zero_mul,Nat.add_zero] at e0 e1;go_wp2;(refine wT ?_);go_wp2;all_goals
      refine sT_ rfl ?_;go_wp2;first
       | (go_ret;exact⟨Ag (Nw hlt (HA.o.trans t_)).symm,by first|(have:=Hf.o;(repeat first|exact Fr.refl _ _|assumption|apply Fr.n|apply Fr.d|apply Fr.a|refine Fr.s ?_ (.inr t_) _);done)|exact Fr.trans0 (by have:=Hf.o;exact Fr.t) Hf1.o⟩)
       | (
        go_roundw
        case rel =>
         refine⟨0+1,by go_num,o_,fun j hj=>?_,by first|(have:=Hf.o;(repeat first|exact Fr.refl _ _|assumption|apply Fr.n|apply Fr.d|apply Fr.a|refine Fr.s ?_ (.inr t_) _);done)|exact Fr.trans0 (by have:=Hf.o;exact Fr.t) Hf1.o⟩
         rcases Nat.lt_or_ge j (0) with h|h
         ·exact Hk.o j h
         ·obtain rfl:j=0:=o_
          exact HA.o.trans t_
        case measure=>simp [intOf];omega)
    | succ k =>
     obtain⟨⟨u,v⟩,hq⟩:∃ p,l[k]?=some p:=⟨_,List.getElem?_eq_getElem o_⟩;obtain⟨g',off',he,_,e2,e3⟩:=(Hl.o.fr Hf.o).cell hq;cases he;simp only at e2 e3;have ha:=hoodAt_succ hp hq;have hb:=cmpP_before (u,v) (x,y);have hc:=fun w=>cmpP_calls (p:=(u,v)) (q:=(x,y)) (w:=w);simp only at hc;generalize cmpP (u,v) (x,y)=z at hb hc;generalize before (u,v) (x,y)=b at ha hb;have HA:=q_ ha;have HC:=q_ hc;clear hp hq ha hc;have hd:decide (0≤z)=!b:=hb;clear hb;cases b;all_goals
      simp only [Bool.not_false,Bool.not_true] at hd;go_wp2;(refine wT ?_);go_wp2_with (refine (HC.o _).mono ?_;rintro e w1 ⟨rfl,hf⟩;have Hf1:=q_ hf;clear hf);all_goals
       refine sT_ rfl ?_;go_wp2;first
        | (go_ret;exact⟨Ag (Nw hlt (HA.o.trans t_)).symm,by first|(have:=Hf.o;(repeat first|exact Fr.refl _ _|assumption|apply Fr.n|apply Fr.d|apply Fr.a|refine Fr.s ?_ (.inr t_) _);done)|exact Fr.trans0 (by have:=Hf.o;exact Fr.t) Hf1.o⟩)
        | (
         go_roundw
         case rel =>
          refine⟨(k+1)+1,by go_num,o_,fun j hj=>?_,by first|(have:=Hf.o;(repeat first|exact Fr.refl _ _|assumption|apply Fr.n|apply Fr.d|apply Fr.a|refine Fr.s ?_ (.inr t_) _);done)|exact Fr.trans0 (by have:=Hf.o;exact Fr.t) Hf1.o⟩
          rcases Nat.lt_or_ge j ((k+1)) with h|h
          ·exact Hk.o j h
          ·obtain rfl:j=(k+1):=o_
           exact HA.o.trans t_
         case measure=>simp [intOf];omega)
   ·obtain rfl:k=l.length:=o_;go_wp2;go_ret;exact⟨Ag (hoodR_true h1 h2 Hk.o).symm,Hf.o⟩
 ·rw [hoodR_len h1];have h2:l.length=0∨25<l.length:=o_
  clear h1;rcases h2 with h|h
  ·go_enter Tryz.func122,Tryz.ntmps122;go_wp2;go_ret;exact⟨rfl,Fr.t⟩
  ·go_enter Tryz.func122,Tryz.ntmps122;go_wp2;go_ret;exact⟨rfl,Fr.t⟩
variable {p:Int×Int}
theorem hood_near (h:Db l=true) (hk:l[k]?=some p):-2≤p.1∧p.1≤2∧-2≤p.2∧p.2≤2:=by have h1:=Fp h (List.mem_of_getElem? hk);have h2:=Aa l;omega
theorem foldl_take_succ (hk:l[k]?=some p) (r:Int):(l.take (k+1)).foldl C0 r=C0 ((l.take k).foldl C0 r) p:=by rw [List.take_add_one,hk];simp
theorem fold_rad2 (h:Db l=true) (k:Nat):0≤(l.take k).foldl C0 0∧(l.take k).foldl C0 0≤2:=by refine⟨(Mc _ 0).1,Jv _ 0 2 o_ fun p hp=>?_⟩;have h1:=Fp h (List.mem_of_mem_take hp);have h2:=Aa l;omega
theorem radius_true (h:Db l=true):A3 l=l.foldl C0 0:=by unfold A3;rw [if_pos h]
theorem radius_false (h:Db l=false):A3 l=0:=by unfold A3;rw [h];rfl
theorem lt_fold (a b:Int):(if a<b then b else a)=max a b:=o_
theorem run_max5 (r x y:Int) (w:World):(Builtin.max_ #[3,3,3,3,3] 3 #[.int .i64 r,.int .i64 x,.int .i64 (-x),.int .i64 y,.int .i64 (-y)]).run Tryz.prog w=.ok (.int .i64 (C0 r (x,y))) w:=by unfold Builtin.max_;simp [Builtin.max2];simp only [lt_fold];rfl
theorem HRadius_calls (hl:PtsAt w (.slice a l.length c) l) (hlen:l.length≤1000000) :
  Calls Tryz.prog 84 #[.slice a l.length c] w fun e w'=>e=.returned (.int .i64 (A3 l))∧Fr [] w w':=by
 have hr:=fun w1 (hf:Fr [] w w1)=>Mr (hl.fr hf) hlen;have HR:=q_ hr;have Hl:=q_ hl;clear hl hr;cases hR:Db l with
 | false =>have H:=q_ (radius_false hR);rw [hR] at HR;clear hR;go_enter Tryz.func84,Tryz.ntmps84;go_wp2_with fail;refine (HR.o _ (Fr.t)).mono ?_;rintro e w1 ⟨rfl,hf⟩;have Hf:=q_ hf;clear hf;go_wp2;go_ret;exact⟨Dy H.o.symm,Fr.trans0 (Fr.t) Hf.o⟩
 | true =>
  have H:=q_ (radius_true hR);have HF:=q_ (fold_rad2 hR);have HN:=q_ (fun k p (h:l[k]?=some p)=>hood_near hR h);rw [hR] at HR;clear hR;go_enter Tryz.func84,Tryz.ntmps84;go_wp2_with fail;refine (HR.o _ (Fr.t)).mono ?_;rintro e w1 ⟨rfl,hf⟩;have Hf:=q_ (Fr.trans0 (Fr.t:Fr [] w _) hf);clear hf;go_wp2;go_loopw [3,10] (fun r x wr=>∃ k:Nat,x=.int .i64 k∧k≤l.length∧r=.int .i64 ((l.take k).foldl C0 0)∧Fr [] w wr) (fun _ x _=>l.length - (intOf x).toNat);case atStart=>exact⟨0,rfl,o_,rfl,Hf.o⟩
  case round =>
   clear Hf;obtain⟨k,rfl,hk,rfl,hf⟩:=hrel;have Hf:=q_ hf;clear hf;by_cases hlt:k<l.length;·
    obtain⟨⟨x,y⟩,hp⟩:∃ p,l[k]?=some p:=⟨_,List.getElem?_eq_getElem hlt⟩;obtain⟨g,off,rfl,hg,e0,e1⟩:=(Hl.o.fr Hf.o).cell hp;have HS:=q_ (foldl_take_succ hp 0);obtain⟨n1,n2,n3,n4⟩:=HN.o k _ hp;obtain⟨f1,f2⟩:=HF.o k;simp only at e0 e1 n1 n2 n3 n4;generalize (l.take k).foldl C0 0=r at HS f1 f2 ⊢;clear hp;have hmx:=fun w=>run_max5 r x y w;obtain⟨r',hr'⟩:∃ r',C0 r (x,y)=r':=⟨_,rfl⟩;rw [hr'] at HS;simp only [hr'] at hmx;clear hr';go_wp2;go_roundw;case rel=>exact⟨k+1,by go_num,o_,by rw [HS.o],by have:=Hf.o;exact Fr.t⟩
    case measure=>simp [intOf];omega
   ·obtain rfl:k=l.length:=o_;have e:(l.take l.length).foldl C0 0=A3 l:=(by rw [List.take_length];exact H.o.symm);rw [e];clear e;go_wp2;go_ret;exact⟨rfl,Hf.o⟩
end Go.Proofs.YtebolidfbflkmaaGreat
namespace Go.Proofs.Ev
open Qs
variable {r:Rule}
theorem rightR_S (h:¬ (2≤r.S∧r.S≤8)):Ar r=false:=by unfold Ar;rw [decide_eq_false h];simp
theorem rightR_hood (h:Db r.hood=false):Ar r=false:=by unfold Ar;rw [h];simp
theorem rightR_len (h:¬ (1≤r.nodes.length∧r.nodes.length≤4096)):Ar r=false:=by unfold Ar;rw [decide_eq_false h];simp
theorem rightR_root (h:¬ D4 r (r.nodes.length - 1:Int)=r.hood.length):Ar r=false:=by unfold Ar;rw [decide_eq_false h];simp
variable {i:Nat}
theorem F3 (hi:i<r.nodes.length) (h:G7 r i=false):Ar r=false:=by
 unfold Ar;have:(List.range r.nodes.length).all (G7 r)=false:=by rw [List.all_eq_false];exact⟨i,List.mem_range.2 hi,by rw [h];simp⟩
 rw [this,Bool.and_false]
theorem rightR_true (h1:2≤r.S∧r.S≤8) (h2:Db r.hood=true) (h3:1≤r.nodes.length∧r.nodes.length≤4096) (h4:D4 r (r.nodes.length - 1:Int)=r.hood.length) (h5:∀ i,i<r.nodes.length→G7 r i=true):Ar r=true:=by unfold Ar;rw [decide_eq_true h1,h2,decide_eq_true h3,decide_eq_true h4,Bool.true_and,Bool.true_and,Bool.true_and,Bool.true_and,List.all_eq_true];exact fun i hi=>h5 i (List.mem_range.1 hi)
theorem Ph {x:Int×List Int} (hx:r.nodes[i]?=some x):D4 r i=x.1:=by unfold D4;rw [Int.toNat_natCast,List.getD_eq_getElem?_getD,hx];rfl
theorem levelAt_last {x:Int×List Int} (h:1≤r.nodes.length) (hx:r.nodes[r.nodes.length - 1]?=some x):D4 r (r.nodes.length - 1:Int)=x.1:=by rw [show ((r.nodes.length:Int) - 1)=((r.nodes.length - 1:Nat):Int) by omega];exact Ph hx
theorem Qx {x:Int×List Int} (hx:r.nodes[i]?=some x):G7 r i=(decide (1≤x.1∧x.1≤r.hood.length∧((x.2.length:Nat):Int)=r.S) && x.2.all (Ic r x.1 i)):=by unfold G7;rw [List.getD_eq_getElem?_getD,hx];rfl
theorem Km {α:Type} {l:List α} {f:α→Bool} {x:α} (hx:l[i]?=some x) (h:f x=false):l.all f=false:=by rw [List.all_eq_false];exact⟨x,List.mem_of_getElem? hx,by rw [h];simp⟩
theorem all_true {α:Type} {l:List α} {f:α→Bool} (h:∀ i x,l[i]?=some x→i<l.length→f x=true):l.all f=true:=by rw [List.all_eq_true];intro x hx;obtain⟨i,hi,rfl⟩:=List.mem_iff_getElem.1 hx;exact h i _ (List.getElem?_eq_getElem hi) hi
variable {lv k:Int}
theorem entOK_neg (h:k<0):Ic r lv i k=false:=by unfold Ic;rw [decide_eq_false o_];simp
theorem Rf (h:0≤k) (h1:lv=1):Ic r lv i k=decide (k<r.S):=by unfold Ic;rw [decide_eq_true h,if_pos h1,if_neg o_];simp
theorem Lj (h:0≤k) (h1:1<lv):Ic r lv i k=decide (k<i∧D4 r k=lv - 1):=by unfold Ic;rw [decide_eq_true h,if_pos h1,if_neg o_];simp
end Go.Proofs.Ev
namespace Go.Proofs.YtebolidfbflkmaaGreat
open Go Go.RowKit Rg Hp Ev
theorem Mn {w:World} {r:Rule} {ha na:Option Addr} {hc nc:Nat} (hr:RuleAt w (.slice ha r.hood.length hc) (.slice na r.nodes.length nc) r) (hlh:r.hood.length≤1000000) (hln:r.nodes.length≤1000000) :
  Calls Tryz.prog 80 #[.agg #[.int .i64 r.S,.slice ha r.hood.length hc,.slice na r.nodes.length nc]] w fun e w'=>e=.returned (.bool (Ar r))∧Fr [] w w':=by
 have hh:=fun w1 (hf:Fr [] w w1)=>Mr (hr.1.fr hf) hlh;have HH:=q_ hh;have Hr:=q_ hr.2;clear hh hr;by_cases hS:2≤r.S∧r.S≤8;·
  obtain⟨hs1,hs2⟩:=hS;cases hH:Db r.hood with
  | false =>
   have HN:=q_ (rightR_hood hH);rw [hH] at HH;clear hH;go_enter Tryz.func80,Tryz.ntmps80;go_wp2;(refine wT ?_);go_wp2_with fail;refine (HH.o _ (Fr.t)).mono ?_;rintro e w1 ⟨rfl,hf⟩;have hb_:=(hf.block (w.heap.size) f_' i_).trans (show _=some (.cells #[.int .i64 r.S,.slice ha r.hood.length hc,.slice na r.nodes.length nc] 25 (0,0)) from hpT);obtain⟨b0,b1,b2,bl⟩:=l3_ hb_;have Hb:=q_ hb_;clear hb_;have Hf:=q_ (Fr.trans0 (Fr.t:Fr [] w _) hf);clear hf;go_wp2;all_goals
    refine sT_ rfl ?_;go_wp2;go_ret;exact⟨Ag HN.o.symm,by first|((repeat first|exact Fr.refl _ _|assumption|apply Fr.n|apply Fr.d|apply Fr.a|refine Fr.s ?_ (.inr t_) _);done)|(have:=Hf.o;(repeat first|exact Fr.refl _ _|assumption|apply Fr.n|apply Fr.d|apply Fr.a|refine Fr.s ?_ (.inr t_) _);done)⟩
  | true =>
   rw [hH] at HH;have HHT:=q_ hH;clear hH;by_cases hn:1≤r.nodes.length∧r.nodes.length≤4096;·
    obtain⟨hn1,hn2⟩:=hn;obtain⟨⟨lv,nx⟩,hx⟩:∃ x,r.nodes[r.nodes.length - 1]?=some x:=⟨_,List.getElem?_eq_getElem o_⟩;have hroot:=levelAt_last hn1 hx;obtain⟨m,hm⟩:∃ m,r.nodes.length - 1=m:=⟨_,rfl⟩;have hm':(r.nodes.length:Int) - 1=m:=o_;rw [hm] at hx;by_cases hl:lv=r.hood.length;·
     have hlb:(lv != (r.hood.length:Int))=false:=(by simp [hl]);have HRT:=q_ (hroot.trans hl);clear hroot;go_enter Tryz.func80,Tryz.ntmps80;go_wp2;(refine wT ?_);go_wp2_with fail;refine (HH.o _ (Fr.t)).mono ?_;rintro e w1 ⟨rfl,hf⟩;have hb_:=(hf.block (w.heap.size) f_' i_).trans (show _=some (.cells #[.int .i64 r.S,.slice ha r.hood.length hc,.slice na r.nodes.length nc] 25 (0,0)) from hpT);obtain⟨b0,b1,b2,bl⟩:=l3_ hb_;have Hb:=q_ hb_;clear hb_;have Hf:=q_ (Fr.trans0 (Fr.t:Fr [] w _) hf);clear hf;obtain⟨g,off,ra,rc,rfl,hg,e0,_,_⟩:=(Hr.o.fr Hf.o).node hx;simp only at e0;have HX:=q_ hx;have HL:=q_ hl;clear hx hl;go_wp2;refine sT_ rfl ?_;go_wp2;go_loopw [49] (fun x wr=>∃ k:Nat,x=.int .i64 k∧k≤r.nodes.length∧(∀ j,j<k→G7 r j=true)∧Fr [] w wr∧wr.heap[w.heap.size]?=some (.cells #[.int .i64 r.S,.slice ha r.hood.length hc,.slice (some ⟨g,off,none⟩) r.nodes.length nc] 25 (0,0))) (fun x _=>r.nodes.length - (intOf x).toNat);case atStart=>exact⟨0,rfl,o_,o_,by have:=Hf.o;exact Fr.t,by have:=Hb.o;(repeat first|rw [if_pos o_]|rw [if_neg o_]|rw [hDR]|rw [hDN]|rw [hAz]|rw [hSz]|rw [hAC]|rw [hSC]|rw [oMS]|rw [uPC]|rw [lSZ]|rw [lSS]|rfl);exact this⟩
     case round =>
      clear e0 hlb Hf Hb b0 b1 b2 bl HX hg HL hm hm';obtain⟨k,rfl,hk,hok,hf,hb⟩:=hrel;have Hok:=q_ hok;have Hf:=q_ hf;obtain⟨b0,b1,b2,bl⟩:=l3_ hb;simp at b0 b1 b2;have Hb:=q_ hb;clear hok hf hb;by_cases hlt:k<r.nodes.length;·
       obtain⟨⟨lw,ny⟩,hx⟩:∃ x,r.nodes[k]?=some x:=⟨_,List.getElem?_eq_getElem hlt⟩;obtain⟨_,_,ra,rc,he,hg,e0,e1,hi⟩:=(Hr.o.fr Hf.o).node hx;cases he;have hnk:=Qx hx;simp only at e0 e1 hi hnk;have HX:=q_ hnk;have HI:=q_ hi;clear hx hi hnk;by_cases hA:1≤lw∧lw≤r.hood.length∧((ny.length:Nat):Int)=r.S;·
        obtain⟨a1,a2,a3⟩:=hA;have a4:(((ny.length:Nat):Int) != r.S)=false:=(by simp [a3]);have HX:=q_ (show G7 r k=ny.all (Ic r lw k) by rw [HX.o,decide_eq_true ⟨a1,a2,a3⟩,Bool.true_and]);have HA3:=q_ a3;have a5:ny.length≤8:=o_;clear a3;go_wp2;refine aBW (fun W=>Fr [] wr W∧W.heap[w.heap.size]?=some (.cells #[.int .i64 r.S,.slice ha r.hood.length hc,.slice (some ⟨g,off,none⟩) r.nodes.length nc] 25 (0,0))∧W.heap[wr.heap.size]?=some (.cells #[.int .i64 lw,.slice ra ny.length rc] 118 (0,0))) ⟨Fr.t,by have:=Hb.o;(repeat first|rw [if_pos o_]|rw [if_neg o_]|rw [hDR]|rw [hDN]|rw [hAz]|rw [hSz]|rw [hAC]|rw [hSC]|rw [oMS]|rw [uPC]|rw [lSZ]|rw [lSS]|rfl);exact this,by (repeat first|rw [if_pos o_]|rw [if_neg o_]|rw [hDR]|rw [hDN]|rw [hAz]|rw [hSz]|rw [hAC]|rw [hSC]|rw [oMS]|rw [uPC]|rw [lSZ]|rw [lSS]|rfl)⟩ ?_;rintro W ⟨hfW,hb,hp⟩;have HfW:=q_ hfW;obtain⟨c0,c1,c2⟩:=e3_ hb;obtain⟨p0,p1⟩:=e2_ hp;have cl:=lBk hb;have pl:=lBk hp;simp at c0 c1 c2 p0 p1;have HbW:=q_ hb;have HpW:=q_ hp;clear hfW hb hp b0 b1 b2 bl e0 e1;go_loopw [76] (fun x wl=>∃ j:Nat,x=.int .i64 j∧j≤ny.length∧(∀ i y,ny[i]?=some y→i<j→Ic r lw k y=true)∧Drew W wl) (fun x _=>ny.length - (intOf x).toNat);case atStart=>exact⟨0,rfl,o_,fun i y h1 h2=>by omega,Drew.refl _⟩
        case round =>
         obtain⟨j,rfl,hj,hent,m,rfl⟩:=hrel;have Hent:=q_ hent;clear hent;by_cases hlt2:j<ny.length;·
          obtain⟨y,hy⟩:∃ y,ny[j]?=some y:=⟨_,List.getElem?_eq_getElem hlt2⟩;obtain⟨g2,off2,rfl,hg2,d0⟩:=(HI.o.fr HfW.o).cell hy;have HY:=q_ hy;clear hy;by_cases hneg:y<0;·
           have HN:=q_ (F3 hlt (by rw [HX.o,Km HY.o (entOK_neg hneg)]));go_wp2;(refine wT ?_);go_wp2;refine sT_ rfl ?_;go_wp2;go_ret;exact⟨Ag HN.o.symm,by have:=Hf.o.trans0 HfW.o;exact Fr.t⟩
          ·obtain⟨z,rfl⟩:∃ z:Nat,y=z:=⟨y.toNat,o_⟩;clear hneg;by_cases hone:lw=1;·
            have hone':(lw == 1)=true:=(by simpa using hone);have hone2:lw≤1:=o_;have HO:=q_ hone;clear hone;by_cases hz:(z:Int)<r.S;·
             have HE:=q_ (((Rf o_ HO.o).trans (decide_eq_true hz): Ic r lw k z=true));go_wp2;(refine wT ?_);go_wp2;refine sT_ rfl ?_;go_wp2;go_roundw;case rel =>
              refine⟨j+1,by go_num,o_,fun i u hu hi=>?_,⟨m+1,rfl⟩⟩;rcases Nat.lt_or_ge i j with h|h
              ·exact Hent.o i u hu h
              ·obtain rfl:i=j:=o_;obtain rfl:=Option.some.inj (HY.o.symm.trans hu);exact HE.o
             case measure=>simp [intOf];omega
            ·have HN:=q_ (F3 hlt (by rw [HX.o,Km HY.o ((Rf o_ HO.o).trans (decide_eq_false hz))]));go_wp2;(refine wT ?_);go_wp2;refine sT_ rfl ?_;go_wp2;go_ret;exact⟨Ag HN.o.symm,by have:=Hf.o.trans0 HfW.o;exact Fr.t⟩
           ·have hone':(lw == 1)=false:=(by simpa using hone);by_cases hz:(z:Int)<k;·
             obtain⟨⟨lz,nz⟩,hxz⟩:∃ x,r.nodes[z]?=some x:=⟨_,List.getElem?_eq_getElem o_⟩;obtain⟨_,_,rz,cz,he,_,f0,_,_⟩:=(Hr.o.fr (Hf.o.trans0 HfW.o)).node hxz;cases he;have hlz:=Ph hxz;simp only at f0 hlz;have HLZ:=q_ hlz;clear hxz hlz;by_cases hle:lz=lw - 1;·
              subst hle;have HE:=q_ (((Lj o_ o_).trans (decide_eq_true ⟨hz,HLZ.o⟩): Ic r lw k z=true));go_wp2;(refine wT ?_);go_wp2;refine sT_ rfl ?_;go_wp2;go_roundw;case rel =>
               refine⟨j+1,by go_num,o_,fun i u hu hi=>?_,⟨m+1,rfl⟩⟩;rcases Nat.lt_or_ge i j with h|h
               ·exact Hent.o i u hu h
               ·obtain rfl:i=j:=o_;obtain rfl:=Option.some.inj (HY.o.symm.trans hu);exact HE.o
              case measure=>simp [intOf];omega
             ·have hle':(lz != lw - 1)=true:=(by simpa using hle);have HNE:=q_ (show ¬ ((z:Int)<k∧D4 r z=lw - 1) from fun h=>hle (HLZ.o.symm.trans h.2));clear hle;have HN:=q_ (F3 hlt (by rw [HX.o,Km HY.o ((Lj o_ o_).trans (decide_eq_false HNE.o))]));go_wp2;(refine wT ?_);go_wp2;refine sT_ rfl ?_;go_wp2;go_ret;exact⟨Ag HN.o.symm,by have:=Hf.o.trans0 HfW.o;exact Fr.t⟩
            ·have HNE:=q_ (show ¬ ((z:Int)<k∧D4 r z=lw - 1) from fun h=>hz h.1);have HN:=q_ (F3 hlt (by rw [HX.o,Km HY.o ((Lj o_ o_).trans (decide_eq_false HNE.o))]));go_wp2;(refine wT ?_);go_wp2;refine sT_ rfl ?_;go_wp2;go_ret;exact⟨Ag HN.o.symm,by have:=Hf.o.trans0 HfW.o;exact Fr.t⟩
         ·obtain rfl:j=ny.length:=o_;have Hall:=q_ (show G7 r k=true from HX.o.trans (all_true fun i y h1 h2=>Hent.o i y h1 h2));go_wp2;go_roundw;case rel =>
           refine⟨k+1,by go_num,o_,fun i hi=>?_,by have:=Hf.o.trans0 HfW.o;exact Fr.t,by have:=HbW.o;(repeat first|rw [if_pos o_]|rw [if_neg o_]|rw [hDR]|rw [hDN]|rw [hAz]|rw [hSz]|rw [hAC]|rw [hSC]|rw [oMS]|rw [uPC]|rw [lSZ]|rw [lSS]|rfl);exact this⟩;rcases Nat.lt_or_ge i k with h|h
           ·exact Hok.o i h
           ·obtain rfl:i=k:=o_;exact Hall.o
          case measure=>simp [intOf];omega
       ·have hA':lw<1∨r.hood.length<lw∨1≤lw∧lw≤r.hood.length∧(((ny.length:Nat):Int) != r.S)=true:=by
         simp only [bne_iff_ne];omega
        have HN:=q_ (F3 hlt (by rw [HX.o,decide_eq_false hA,Bool.false_and]));clear hA;rcases hA' with h|h|⟨h1,h2,h3⟩
        ·go_wp2;go_ret;exact⟨Ag HN.o.symm,by have:=Hf.o;exact Fr.t⟩
        ·go_wp2;all_goals
          go_ret;exact⟨Ag HN.o.symm,by have:=Hf.o;exact Fr.t⟩
        ·go_wp2;go_ret;exact⟨Ag HN.o.symm,by have:=Hf.o;exact Fr.t⟩
      ·obtain rfl:k=r.nodes.length:=o_;go_wp2;go_ret;exact⟨Ag (rightR_true ⟨hs1,hs2⟩ HHT.o ⟨hn1,hn2⟩ HRT.o Hok.o).symm,Hf.o⟩
    ·have HN:=q_ (rightR_root (r:=r) (by rw [hroot];exact hl));clear hroot;go_enter Tryz.func80,Tryz.ntmps80;go_wp2;(refine wT ?_);go_wp2_with fail;refine (HH.o _ (Fr.t)).mono ?_;rintro e w1 ⟨rfl,hf⟩;have hb_:=(hf.block (w.heap.size) f_' i_).trans (show _=some (.cells #[.int .i64 r.S,.slice ha r.hood.length hc,.slice na r.nodes.length nc] 25 (0,0)) from hpT);obtain⟨b0,b1,b2,bl⟩:=l3_ hb_;have Hb:=q_ hb_;clear hb_;have Hf:=q_ (Fr.trans0 (Fr.t:Fr [] w _) hf);clear hf;obtain⟨g,off,ra,rc,rfl,hg,e0,_,_⟩:=(Hr.o.fr Hf.o).node hx;simp only at e0;have hlb:(lv == (r.hood.length:Int))=false:=(by simpa using hl);have hlc:(lv != (r.hood.length:Int))=true:=(by simpa using hl);have HX:=q_ hx;have HL:=q_ hl;clear hx hl;go_wp2;all_goals
      refine sT_ rfl ?_;go_wp2;go_ret;exact⟨Ag HN.o.symm,by first|((repeat first|exact Fr.refl _ _|assumption|apply Fr.n|apply Fr.d|apply Fr.a|refine Fr.s ?_ (.inr t_) _);done)|(have:=Hf.o;(repeat first|exact Fr.refl _ _|assumption|apply Fr.n|apply Fr.d|apply Fr.a|refine Fr.s ?_ (.inr t_) _);done)⟩
   ·have HN:=q_ (rightR_len hn);have hn':r.nodes.length<1∨4096<r.nodes.length:=o_;clear hn;rcases hn' with h|h
    ·go_enter Tryz.func80,Tryz.ntmps80;go_wp2;(refine wT ?_);go_wp2_with fail;refine (HH.o _ (Fr.t)).mono ?_;rintro e w1 ⟨rfl,hf⟩;have hb_:=(hf.block (w.heap.size) f_' i_).trans (show _=some (.cells #[.int .i64 r.S,.slice ha r.hood.length hc,.slice na r.nodes.length nc] 25 (0,0)) from hpT);obtain⟨b0,b1,b2,bl⟩:=l3_ hb_;have Hb:=q_ hb_;clear hb_;have Hf:=q_ (Fr.trans0 (Fr.t:Fr [] w _) hf);clear hf;go_wp2;all_goals
      refine sT_ rfl ?_;go_wp2;go_ret;exact⟨Ag HN.o.symm,by first|((repeat first|exact Fr.refl _ _|assumption|apply Fr.n|apply Fr.d|apply Fr.a|refine Fr.s ?_ (.inr t_) _);done)|(have:=Hf.o;(repeat first|exact Fr.refl _ _|assumption|apply Fr.n|apply Fr.d|apply Fr.a|refine Fr.s ?_ (.inr t_) _);done)⟩
    ·go_enter Tryz.func80,Tryz.ntmps80;go_wp2;(refine wT ?_);go_wp2_with fail;refine (HH.o _ (Fr.t)).mono ?_;rintro e w1 ⟨rfl,hf⟩;have hb_:=(hf.block (w.heap.size) f_' i_).trans (show _=some (.cells #[.int .i64 r.S,.slice ha r.hood.length hc,.slice na r.nodes.length nc] 25 (0,0)) from hpT);obtain⟨b0,b1,b2,bl⟩:=l3_ hb_;have Hb:=q_ hb_;clear hb_;have Hf:=q_ (Fr.trans0 (Fr.t:Fr [] w _) hf);clear hf;go_wp2;all_goals
      refine sT_ rfl ?_;go_wp2;go_ret;exact⟨Ag HN.o.symm,by first|((repeat first|exact Fr.refl _ _|assumption|apply Fr.n|apply Fr.d|apply Fr.a|refine Fr.s ?_ (.inr t_) _);done)|(have:=Hf.o;(repeat first|exact Fr.refl _ _|assumption|apply Fr.n|apply Fr.d|apply Fr.a|refine Fr.s ?_ (.inr t_) _);done)⟩
 ·have HN:=q_ (rightR_S hS);have hS':r.S<2∨8<r.S:=o_
  clear hS;rcases hS' with h|h
  ·go_enter Tryz.func80,Tryz.ntmps80;go_wp2;(refine wT ?_);go_wp2;all_goals
    refine sT_ rfl ?_;go_wp2;go_ret;exact⟨Ag HN.o.symm,by first|((repeat first|exact Fr.refl _ _|assumption|apply Fr.n|apply Fr.d|apply Fr.a|refine Fr.s ?_ (.inr t_) _);done)|(have:=Hf.o;(repeat first|exact Fr.refl _ _|assumption|apply Fr.n|apply Fr.d|apply Fr.a|refine Fr.s ?_ (.inr t_) _);done)⟩
  ·go_enter Tryz.func80,Tryz.ntmps80;go_wp2;(refine wT ?_);go_wp2;all_goals
    refine sT_ rfl ?_;go_wp2;go_ret;exact⟨Ag HN.o.symm,by first|((repeat first|exact Fr.refl _ _|assumption|apply Fr.n|apply Fr.d|apply Fr.a|refine Fr.s ?_ (.inr t_) _);done)|(have:=Hf.o;(repeat first|exact Fr.refl _ _|assumption|apply Fr.n|apply Fr.d|apply Fr.a|refine Fr.s ?_ (.inr t_) _);done)⟩
open Mp Qs
theorem Lx (w:World) {a b i j:Nat} (h:a≠b) (u v:Value):(w.setCell ⟨a,i,none⟩ u).setCell ⟨b,j,none⟩ v=(w.setCell ⟨b,j,none⟩ v).setCell ⟨a,i,none⟩ u:=by
 unfold World.setCell;congr 1;apply Array.ext_getElem?;intro k;simp only [Array.getElem?_modify];by_cases ha:a=k;·
  by_cases hb:b=k;·exact absurd (ha.trans hb.symm) h
  ·simp [ha,hb]
 ·by_cases hb:b=k;·simp [ha,hb]
  ·simp [ha,hb]
theorem make_rows4 (w:World):(Instr.makeSlice 217 (.int .i64 4) (.int .i64 4)).run Tryz.prog w=.ok (.slice (some ⟨w.heap.size,0,none⟩) 4 4) (w.alloc (.cells #[.slice none 0 0,.slice none 0 0,.slice none 0 0,.slice none 0 0] 72 (0,0))):=by kernel_rfl
theorem make_row4 (w:World):(Instr.makeSlice 72 (.int .i64 4) (.int .i64 4)).run Tryz.prog w=.ok (.slice (some ⟨w.heap.size,0,none⟩) 4 4) (w.alloc (.cells #[.int .i64 0,.int .i64 0,.int .i64 0,.int .i64 0] 3 (0,0))):=by kernel_rfl
def Ay (ob m:Nat) (bs:List Nat):Res where
 holds w G:=(bs.length≤m∧w.heap[ob]?=some (.cells (bs.map (Oc m)++List.replicate (m - bs.length) (Value.slice none 0 0)).toArray 72 (0,0))∧(∀ (i b:Nat),bs[i]?=some b→w.heap[b]?=some (Obj.cells (iv (List.replicate m 0)).toArray 3 (0,0)))∧bs.Nodup∧ob∉bs)∧G=ob::bs
 keep:=fun ⟨⟨h1,h2,h3,h4,h5⟩,h6⟩ hk=>⟨⟨h1,by rw [hk ob (by simp [h6])];exact h2,fun i b hb=>by rw [hk b (by rw [h6];simp [List.mem_of_getElem? hb])];exact h3 i b hb,h4,h5⟩,h6⟩
 lt:=fun ⟨⟨h1,h2,h3,h4,h5⟩,h6⟩ x hx=>by
  rw [h6,List.mem_cons] at hx;rcases hx with rfl|hx
  ·exact lBk h2
  ·obtain⟨i,hi,rfl⟩:=List.mem_iff_getElem.1 hx;exact lBk (h3 i _ (List.getElem?_eq_getElem hi))
theorem pmat_list {m b:Nat} {bs:List Nat} (hl:bs.length<m):(bs.map (Oc m)++List.replicate (m - bs.length) (Value.slice none 0 0)).set bs.length (Oc m b)=(bs++[b]).map (Oc m)++List.replicate (m - (bs++[b]).length) (Value.slice none 0 0):=by obtain⟨d,hd⟩:∃ d,m - bs.length=d+1:=⟨m - bs.length - 1,o_⟩;rw [hd,List.replicate_succ,List.set_append_right _ _ i_,List.map_append,List.append_assoc];simp;congr 1;omega
section
variable {W w:World} {ob m:Nat} {bs:List Nat} {Ps:List Res}
theorem P4 {cs:Array Value} (h:Has W w (Hp.blk ob (.cells cs 72 (0,0))::Ps)) (hc:cs=(List.replicate m (.slice none 0 0)).toArray):Has W w (Ay ob m []::Ps) :=
 h.turn fun F ⟨h1,h2⟩=>⟨F,⟨⟨i_,by rw [h1,hc];simp,i_,i_,i_⟩,h2⟩,Fr.refl _ _,fun x hx=>.inl hx⟩
theorem T7 {b:Nat} {cs:Array Value} (h:Has W w (Hp.blk b (.cells cs 3 (0,0))::Ay ob m bs::Ps)) (hc:cs=(iv (List.replicate m 0)).toArray) (hl:bs.length<m):Has W (w.setCell ⟨ob,bs.length,none⟩ (Oc m b)) (Ay ob m (bs++[b])::Ps):=by
 obtain⟨G,⟨F1,F2,⟨h1,h2⟩,⟨G1,G2,⟨⟨g1,g2,g3,g4,g5⟩,g6⟩,k2,k3,rfl⟩,h4,rfl⟩,hf,hge⟩:=h;subst h2;subst g6;have hbo:b≠ob:=fun e=>h4 b i_ (by rw [e];simp);have hbb:b∉bs:=fun e=>h4 b i_ (by simp [e]);refine⟨ob::(bs++[b])++G2,⟨ob::(bs++[b]),G2,⟨⟨by simp;omega,?_,fun i c hc'=>?_,?_,?_⟩,rfl⟩,?_,?_,rfl⟩,?_,?_⟩;·
  rw [Cq g2 bs.length (Oc m b),← pmat_list hl];simp
 ·have hne:c≠ob:=by
   intro e;rw [e] at hc';have:=List.mem_of_getElem? hc';simp only [List.mem_append,List.mem_singleton] at this;rcases this with h|h
   ·exact g5 h
   ·exact hbo h.symm
  rw [Cr _ _ _ _ hne];rcases List.mem_append.1 (List.mem_of_getElem? hc') with h|h
  ·obtain⟨j,hj,hje⟩:=List.mem_iff_getElem.1 h;exact g3 j c (by rw [List.getElem?_eq_getElem hj,hje])
  ·rw [List.mem_singleton] at h;rw [h,h1,hc]
 ·rw [List.nodup_append];exact⟨g4,i_,fun x hx y hy e=>by simp at hy;subst hy;subst e;exact hbb hx⟩
 ·simp only [List.mem_append,List.mem_singleton,not_or];exact⟨g5,Ne.symm hbo⟩
 ·exact k2.keep fun x hx=>Cr _ _ _ _ fun e:x=ob=>k3 ob i_ (by rw [← e];exact hx)
 ·intro x hx hx2;simp only [List.mem_cons,List.mem_append,List.not_mem_nil,or_false] at hx;rcases hx with rfl|hx|rfl
  ·exact k3 x i_ hx2
  ·exact k3 x (by simp [hx]) hx2
  ·exact h4 x i_ (by simp [hx2])
 ·exact hf.setCell (.inr (hge ob i_)) _
 ·intro x hx;refine hge x ?_;simp only [List.mem_append,List.mem_cons,List.not_mem_nil,or_false] at hx ⊢;rcases hx with (rfl|hx|rfl)|hx<;>simp [*]
theorem Ka (h:Has W w (Ay ob m bs::Ps)) (hl:bs.length=m):Has W w (E4 ob m bs (fun _ _=>0)::Ps) :=
 h.turn fun F ⟨⟨h1,h2,h3,h4,h5⟩,h6⟩=>⟨F,⟨⟨hl,by rw [h2,hl];simp,fun i b hb=>by rw [h3 i b hb];congr 4;apply List.ext_getElem?;intro j;simp [T3];by_cases hj:j<m<;>simp [hj],h4,h5⟩,h6⟩,Fr.refl _ _,fun x hx=>.inl hx⟩
theorem Kb (h:Has W w (Ay ob m bs::Ps)) (hl:bs.length<m):(∃ v,w.cell? ⟨ob,bs.length,none⟩=some v∧v=.slice none 0 0)∧w.frozen? ⟨ob,bs.length,none⟩=false∧ob<w.heap.size:=by obtain⟨F,⟨⟨h1,h2,h3,h4,h5⟩,h6⟩⟩:=h.head;refine⟨⟨_,?_,rfl⟩,hEF h2 _,lBk h2⟩;rw [hEC h2];obtain⟨d,hd⟩:∃ d,m - bs.length=d+1:=⟨m - bs.length - 1,o_⟩;rw [hd];simp
theorem U2 {A B C D E:Res} (h:Has W w (E::D::A::B::C::Ps)):Has W w (A::B::C::D::E::Ps) :=
 Has.fifth (h.perm ((List.perm_append_comm (l₁:=[E,D]) (l₂:=[A,B,C])).append_right Ps))
theorem Lp {A B C:Res} {X:Array Value} (h:Has W w (A::B::C::Ps)) (hX:X=(List.replicate m (.slice none 0 0)).toArray) :
  Has W ((w.alloc (.cells X 72 (0,0))).alloc (.cells X 72 (0,0))) (A::B::C::Ay w.heap.size m []::Ay (w.heap.size+1) m []::Ps):=by
 have h1:=hAL (hAL h X 72) X 72;rw [hAz] at h1;exact U2 (P4 (P4 h1.swap hX).swap hX)
theorem two_rows {A B C:Res} {X:Array Value} {oa ob:Nat} {aL bs:List Nat} (h:Has W w (A::B::C::Ay oa m aL::Ay ob m bs::Ps)) (hX:X=(iv (List.replicate m 0)).toArray) (ha:aL.length<m) (hb:bs.length<m) :
  Has W ((((w.alloc (.cells X 3 (0,0))).alloc (.cells X 3 (0,0))).setCell ⟨oa,aL.length,none⟩ (Oc m w.heap.size)).setCell ⟨ob,bs.length,none⟩ (Oc m (w.heap.size+1))) (A::B::C::Ay oa m (aL++[w.heap.size])::Ay ob m (bs++[w.heap.size+1])::Ps):=by
 have h1:=hAL (hAL h X 3) X 3;rw [hAz] at h1;have p:[Hp.blk (w.heap.size+1) (.cells X 3 (0,0)),Hp.blk w.heap.size (.cells X 3 (0,0)),A,B,C,Ay oa m aL,Ay ob m bs].Perm [Hp.blk w.heap.size (.cells X 3 (0,0)),Ay oa m aL,Hp.blk (w.heap.size+1) (.cells X 3 (0,0)),Ay ob m bs,A,B,C]:=by refine (List.Perm.swap _ _ _).trans (List.Perm.cons _ ?_);refine ((List.perm_append_comm (l₁:=[Hp.blk (w.heap.size+1) (.cells X 3 (0,0)),A,B,C]) (l₂:=[Ay oa m aL])).append_right [Ay ob m bs]).trans (List.Perm.cons _ (List.Perm.cons _ ?_));exact List.perm_append_comm (l₁:=[A,B,C]) (l₂:=[Ay ob m bs])
 have h2:=T7 (h1.perm (p.append_right Ps)) hX ha;have q:[Ay oa m (aL++[w.heap.size]),Hp.blk (w.heap.size+1) (.cells X 3 (0,0)),Ay ob m bs,A,B,C].Perm [Hp.blk (w.heap.size+1) (.cells X 3 (0,0)),Ay ob m bs,Ay oa m (aL++[w.heap.size]),A,B,C] :=
  (List.Perm.swap _ _ _).trans (List.Perm.cons _ (List.Perm.swap _ _ _))
 have h3:=T7 (h2.perm (q.append_right Ps)) hX hb;exact U2 h3
theorem V7 {A B C:Res} {oa ob:Nat} {al bl:List Nat} (h:Has W w (A::B::C::Ay oa m al::Ay ob m bl::Ps)):oa≠ob:=by have p:[A,B,C,Ay oa m al,Ay ob m bl].Perm [Ay oa m al,Ay ob m bl,A,B,C]:=List.perm_append_comm (l₁:=[A,B,C]) (l₂:=[Ay oa m al,Ay ob m bl]);obtain⟨F,⟨F1,F2,h1,⟨G1,G2,g1,_,_,rfl⟩,h3,_⟩,_⟩:=h.perm (p.append_right Ps);obtain⟨_,rfl⟩:=h1;obtain⟨_,rfl⟩:=g1;intro e;exact h3 oa i_ (by simp [e])
theorem pmat_lt {A B C:Res} {oa ob:Nat} {al bl:List Nat} (h:Has W w (A::B::C::Ay oa m al::Ay ob m bl::Ps)):oa<w.heap.size∧ob<w.heap.size:=by obtain⟨F,⟨⟨_,h2,_⟩,_⟩⟩:=h.fourth.head;obtain⟨G,⟨⟨_,g2,_⟩,_⟩⟩:=h.fifth.fourth.head;exact⟨lBk h2,lBk g2⟩
theorem K5 {A B C:Res} {X:Array Value} {oa ob i:Nat} {al bl:List Nat} (h:Has W w (A::B::C::Ay oa m al::Ay ob m bl::Ps)) (hX:X=(iv (List.replicate m 0)).toArray) (ha:al.length=i) (hb:bl.length=i) (hi:i<m) :
  Has W ((((w.setCell ⟨oa,i,none⟩ (Oc m w.heap.size)).setCell ⟨ob,i,none⟩ (Oc m (w.heap.size+1))).alloc (.cells X 3 (0,0))).alloc (.cells X 3 (0,0))) (A::B::C::Ay oa m (al++[w.heap.size])::Ay ob m (bl++[w.heap.size+1])::Ps):=by
 obtain⟨l1,l2⟩:=pmat_lt h;have h1:=two_rows h hX o_ o_;rw [ha,hb] at h1;rw [World.setCell_alloc_past _ _ _ _ u_',World.setCell_alloc_past _ _ _ _ l1,World.setCell_alloc_past _ _ _ _ u_',World.setCell_alloc_past _ _ _ _ u_'] at h1;exact h1
end
structure NextSt (W wr:World) (r:Rule) (hv nv:Value) (mb sb rb:Nat) (ns:List K4) (mm:List ((Int×Int)×Int)) (Ps:List Res) (oa ob m:Nat) (al bl:List Nat) (F0 G:Fld) (lo y x:Nat):Prop where
 has:Has W wr (A9 r hv nv mb sb rb ns mm (E4 oa m al F0::E4 ob m bl G::Ps))
 done:∀ i j:Nat,lo≤i→i<m - lo→lo≤j→j<m - lo→(j<y∨j=y∧i<x)→G i j=gen r F0 i j
theorem NextSt.put {W wr wr':World} {r:Rule} {hv nv:Value} {mb sb rb:Nat} {ns:List K4} {mm:List ((Int×Int)×Int)} {Ps:List Res} {oa ob m:Nat} {al bl:List Nat} {F0 G:Fld} {lo y x b:Nat} (h:NextSt W wr r hv nv mb sb rb ns mm Ps oa ob m al bl F0 G lo y x)
  (hf:Fr [] wr wr') (hx:x<m) (hb:bl[y]?=some b) {v:Int} (hv':v=gen r F0 x y):∃ G',NextSt W (wr'.setCell ⟨b,x,none⟩ (.int .i64 v)) r hv nv mb sb rb ns mm Ps oa ob m al bl F0 G' lo y (x+1):=by
 refine⟨fun i j=>if i=x∧j=y then v else G i j,⟨?_,fun i j h1 h2 h3 h4 h5=>?_⟩⟩
 ·have h1:=Vo (h.has.step hf).fifth.fourth hx hb (v:=v) (G:=fun i j=>if i=x∧j=y then v else G i j) fun i j=>by
   by_cases e:i=x∧j=y;·rw [if_pos e,if_pos o_]
   ·rw [if_neg e,if_neg o_]
  exact h1.back4.fifth
 ·by_cases e:i=x∧j=y;·
   obtain⟨rfl,rfl⟩:=e;show (if _∧_ then v else _)=_;rw [if_pos ⟨rfl,rfl⟩];exact hv'
  ·show (if _∧_ then v else _)=_;rw [if_neg o_];exact h.done i j h1 h2 h3 h4 o_
theorem Kt {l:List (Int×Int)} {k:Nat} {p:Int×Int} (hk:l[k]?=some p) (f:Int×Int→Int):(l.take (k+1)).map f=(l.take k).map f++[f p]:=by rw [List.take_add_one,hk];simp
theorem Nf {w:World} {r:Rule} {na:Option Addr} {nc:Nat} (hR:Ar r=true) (hn:NodesAt w (.slice na r.nodes.length nc) r.nodes) {ss:List Int} (hs:∀ s∈ss,0≤s∧s<r.S) (hl:ss.length<r.hood.length) {s:Int} (hs0:0≤s) (hs1:s<r.S) :
  ∃ (k:Nat) (g off:Nat) (g2 off2 rl rc:Nat),down r ss=k∧k<r.nodes.length∧na=some ⟨g,off,none⟩∧g<w.heap.size∧w.cell? ⟨g,off+k*2+1,none⟩=some (.slice (some ⟨g2,off2,none⟩) rl rc)∧(rl:Int)=r.S∧g2<w.heap.size∧w.cell? ⟨g2,off2+s.toNat,none⟩=some (.int .i64 (N4 r k s)):=by
 obtain⟨h1,h2,h3⟩:=(Vx hR hs o_).1 hl;obtain⟨k,hk⟩:∃ k:Nat,down r ss=k:=⟨(down r ss).toNat,o_⟩;rw [hk] at h2 h3;have hlt:k<r.nodes.length:=o_
 have hx:r.nodes[k]?=some r.nodes[k]:=List.getElem?_eq_getElem hlt;have hok:=P1 hR hlt;rw [Qx hx,Bool.and_eq_true,decide_eq_true_eq] at hok;obtain⟨⟨_,_,hS⟩,_⟩:=hok;obtain⟨g,off,ra,rc,rfl,hg,_,hc,hi⟩:=hn.node hx;have hsx:(r.nodes[k]).2[s.toNat]?=some (N4 r k s):=by unfold N4;rw [Int.toNat_natCast,show r.nodes.getD k (0,[])=r.nodes[k] by rw [List.getD_eq_getElem?_getD,hx];rfl,List.getD_eq_getElem?_getD,List.getElem?_eq_getElem o_];rfl
 obtain⟨g2,off2,rfl,hg2,hc2⟩:=hi.cell hsx;exact⟨k,g,off,g2,off2,_,rc,hk,hlt,rfl,hg,hc,hS,hg2,hc2⟩
end Go.Proofs.YtebolidfbflkmaaGreat
