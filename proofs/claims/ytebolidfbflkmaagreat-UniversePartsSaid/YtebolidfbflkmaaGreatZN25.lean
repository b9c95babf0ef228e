/- Own texts of this claim, part 26: no condition. -/
import Derived.Test.YtebolidfbflkmaaGreatZN24
import Derived.Test.YtebolidfbflkmaaGreatZN15
import Derived.Test.YtebolidfbflkmaaGreatZN17
import Derived.Test.YtebolidfbflkmaaGreatZN23
import Derived.Test.YtebolidfbflkmaaGreatZN11
set_option linter.unusedVariables false
set_option linter.unusedSimpArgs false
set_option maxHeartbeats 16000000
set_option maxRecDepth 100000
section
namespace Go.Proofs.YtebolidfbflkmaaGreat
open Go Go.RowKit Rg Mp Hp Qs Ev Bn Uni
theorem uH_ {W w:World} {U:UP} {ns:List K4} {mm:List ((Int×Int)×Int)} {Ps:List Res} (h:Has W w (uniL U ns mm Ps)) :
  w.heap[U.ub]?=some (.cells #[.int .i64 U.r.S,U.hv,U.nv,.pointer (some ⟨U.sb,0,none⟩),.pointer (some ⟨U.mb,0,none⟩),.int .i64 U.root,.bool false,.slice U.ga (zd (U.G:Int)).length U.gc] 85 (0,0)):=(uni_blk h).blk
theorem has_drop2 {W w:World} {A B P:Res} {Ps:List Res} (h:Has W w (P::A::B::Ps)):Has W w (P::Ps):=h.swap.drop.swap.drop
def bZ_ (W:World) (Ps:List Res) (v:Value) (x:Int):Prop:=∀ w Qs,Has W w Qs→(∀ P∈Ps,P∈Qs)→BigZ w (fun _=>True) v x
theorem ab_ {P:Program} {ops:Array Oper} {k:Nat} {o:Oper} {a:Act} {w:World} {T:TypeId} {x:Operand} {b:Nat} {p q:Value} {d:TypeDesc} (hk:ops[k]?=some o) (ho:o.op=.load T x)
  (hx:a.eval x=.pointer (some ⟨b,0,none⟩)) (hT:P.underlying T=some d) (hd:d.isRow=true) (hi:(P.info? T).map (·.size)=some 2) {T':TypeId} (h:w.heap[b]?=some (.cells #[p,q] T' (0,0)))
  (hv:(a.put o.dst (.agg #[p,q])).tmps=a.tmps):again P ops k a w :=
 aGR (cs:=[p,q]) hk ho hx hT hd hi (fun j v hj=>by rw [Nat.zero_add,hEC h,← hj];exact (Array.getElem?_toList (xs:=#[p,q])).symm) hv
theorem set1_u {W w:World} {U:UP} {ns:List K4} {mm:List ((Int×Int)×Int)} {Ps:List Res} (h:Has W w (uniL U ns mm Ps)) {id:Int} {F:Fld} (hi:Is U.r.S ns 201 id (mid 200 F)) (hl:ns.length≤88000) {x y st:Int} {R:Int} (hR:((2 ^ 200:Nat):Int)=R)
  (hx:inV R x) (hy:inV R y) (zx:Zok x) (zy:Zok y) (h0:0≤st) (h1:st<U.r.S) {a1 a2:Option Addr} {c1 c2:Nat} (bx:BigZ w (fun _=>True) (.agg #[.bool (decide (x<0)),.slice a1 (zd x).length c1]) x) (by':BigZ w (fun _=>True) (.agg #[.bool (decide (y<0)),.slice a2 (zd y).length c2]) y) {ux xb yb sb:Nat}
  (k0:w.heap[ux]?=some (.cells #[.pointer (some ⟨U.ub,0,none⟩)] 44 (0,0))) (k1:w.heap[xb]?=some (.cells #[.bool (decide (x<0)),.slice a1 (zd x).length c1] 30 (0,0)))
  (k2:w.heap[yb]?=some (.cells #[.bool (decide (y<0)),.slice a2 (zd y).length c2] 30 (0,0))) (k3:w.heap[sb]?=some (.cells #[.int .i64 st] 3 (0,0))) :
  Calls Tryz.prog 93 #[.int .i64 id,.pointer (some ⟨ux,0,none⟩),.pointer (some ⟨xb,0,none⟩),.pointer (some ⟨yb,0,none⟩),.pointer (some ⟨sb,0,none⟩)] w fun e w' =>
   ∃ id',e=.returned (.tuple #[.int .i64 id',.int .i64 0])∧∃ ns',Has W w' (uniL U ns' mm Ps)∧ns <+: ns'∧ns'.length≤ns.length+201∧Is U.r.S ns' 201 id' (mid 200 (updF F x y st)):=by
 have hRp:p2 200=R:=hR;have hzR:Zok R:=hR▸zok_pow (n:=200) o_;have hz1:Zok (x+R):=by
  have:=zok_pow (n:=201) o_;refine zok_le this ?_;have e:((2 ^ 201:Nat):Int)=R+R:=by rw [← hRp];exact p2_succ 200
  unfold inV at hx;omega
 have hz2:Zok (y+R):=by
  have:=zok_pow (n:=201) o_;refine zok_le this ?_;have e:((2 ^ 201:Nat):Int)=R+R:=by rw [← hRp];exact p2_succ 200
  unfold inV at hy;omega
 obtain⟨id',ms,hq,hg',hp',hl',hi'⟩:=change_mid (n:=200) (has_good (uS_ h)) o_ hi o_ (x:=x) (y:=y) (st:=st) (by rw [hRp];exact hx) (by rw [hRp];exact hy) (by rw [hRp];exact hz1) (by rw [hRp];exact hz2) h0 h1;rw [hRp] at hq;have HG:=q_ (And.intro hp' (And.intro hl' hi'));have HPW:=q_ (fun w1=>(hR▸power_z w1 (k:=200) (H:=2 ^ 200) rfl o_:Calls Tryz.prog 49 #[.int .i64 200] w1 (BigCall1 w1 R)));have HP1:=q_ (fun w1 (hf:Fr [] w w1) (A:Nat→Prop) v (hv:BigZ w1 A v R)=>plus_z (bx.fr0 hf) hv zx hzR hz1);have HP2:=q_ (fun w1 (hf:Fr [] w w1) (A:Nat→Prop) v (hv:BigZ w1 A v R)=>plus_z (by'.fr0 hf) hv zy hzR hz2);have HZ:=q_ (And.intro hz1 hz2);have H:=q_ h;have HQ:=q_ hq;have Hu:=q_ (uH_ h);have Ha:=q_ k0;have Hx:=q_ k1;have Hy:=q_ k2;have Hs:=q_ k3;clear hRp hzR hz1 hz2 hq hg' hp' hl' hi' bx by' h k0 k1 k2 k3 hi hl hx hy zx zy h0 h1 hR;have u3:=hEC Hu.out 3;have ul:=lBk Hu.out;have a0:=hEC Ha.out 0;have al:=lBk Ha.out;have x0:=hEC Hx.out 0;have x1:=hEC Hx.out 1;have xl:=lBk Hx.out;have y0:=hEC Hy.out 0;have y1:=hEC Hy.out 1;have yl:=lBk Hy.out;have s0:=hEC Hs.out 0;have sl:=lBk Hs.out;go_enter Tryz.func93,Tryz.ntmps93;go_wp2;refine wS [([0,1,2,3,4,5,8,11,6],[0,3,5,8,11]),([7],[0,3,8,11]),([9],[0,3,8,11]),([10],[0,3,11]),([12,13,14,15,16],[])] ?_;(simp only [wpSegs,pick,aq_,bq_,cq_,dq_,eq_]);go_wp2_with fail;refine (HPW.out _).mono ?_;rintro e w1 ⟨v1,rfl,hb1,hf⟩;(try clear u0 u1 u2 u3 u4 u5 u6 u7 ul);have hu_:=tk hf Hu;clear Hu;obtain⟨u0,u1,u2,u3,u4,u5,u6,u7,ul⟩:=l8_ hu_;have Hu:=q_ hu_;clear hu_;(try clear a0 al);have ha_:=tk hf Ha;clear Ha;have a0:=hEC ha_ 0;have al:=lBk ha_;have Ha:=q_ ha_;clear ha_;(try clear x0 x1 xl);have hx_:=tk hf Hx;clear Hx;obtain⟨x0,x1,xl⟩:=l2_ hx_;have Hx:=q_ hx_
 clear hx_;(try clear y0 y1 yl);have hy_:=tk hf Hy;clear Hy;obtain⟨y0,y1,yl⟩:=l2_ hy_;have Hy:=q_ hy_;clear hy_;(try clear s0 sl);have hs_:=tk hf Hs;clear Hs;have s0:=hEC hs_ 0;have sl:=lBk hs_;have Hs:=q_ hs_;clear hs_;have Hf1:=q_ (Fr.trans0 (Fr.t:Fr [] w _) hf);have HQ1:=q_ (HP1.out _ Hf1.out _ _ hb1);clear hf hb1;go_wp2;refine mD_ ⟨⟨ac_ (T:=44) rfl rfl rfl Tryz.underlying44 rfl a0 rfl,
  ac_ (T:=82) rfl rfl rfl Tryz.underlying82 rfl u3 rfl,
  ab_ (T:=30) rfl rfl rfl Tryz.underlying30 rfl k_ Hx.out rfl,
  ab_ (T:=30) rfl rfl rfl Tryz.underlying30 rfl k_ Hy.out rfl,
  ac_ (T:=3) rfl rfl rfl Tryz.underlying3 rfl s0 rfl,trivial⟩,?_⟩
 go_wp2_with fail;refine HQ1.out.mono ?_;rintro e w2 ⟨v2,rfl,hb2,hf⟩;(try clear u0 u1 u2 u3 u4 u5 u6 u7 ul);have hu_:=tk hf Hu;clear Hu;obtain⟨u0,u1,u2,u3,u4,u5,u6,u7,ul⟩:=l8_ hu_;have Hu:=q_ hu_;clear hu_;(try clear a0 al);have ha_:=tk hf Ha;clear Ha;have a0:=hEC ha_ 0;have al:=lBk ha_;have Ha:=q_ ha_;clear ha_;(try clear x0 x1 xl);have hx_:=tk hf Hx;clear Hx;obtain⟨x0,x1,xl⟩:=l2_ hx_;have Hx:=q_ hx_;clear hx_;(try clear y0 y1 yl);have hy_:=tk hf Hy;clear Hy;obtain⟨y0,y1,yl⟩:=l2_ hy_;have Hy:=q_ hy_;clear hy_;(try clear s0 sl);have hs_:=tk hf Hs;clear Hs;have s0:=hEC hs_ 0;have sl:=lBk hs_;have Hs:=q_ hs_;clear hs_;have Hf2:=q_ (Hf1.out.trans0 hf);obtain⟨p1,q1,rfl,h2⟩:=has_big (H.out.step Hf1.out) hf hb2 HZ.out.1;have H2:=q_ h2;clear hf hb2 h2 HQ1;go_wp2;refine mD_ ⟨⟨ac_ (T:=44) rfl rfl rfl Tryz.underlying44 rfl a0 rfl,
  ac_ (T:=82) rfl rfl rfl Tryz.underlying82 rfl u3 rfl,
  ab_ (T:=30) rfl rfl rfl Tryz.underlying30 rfl k_ Hy.out rfl,
  ac_ (T:=3) rfl rfl rfl Tryz.underlying3 rfl s0 rfl,trivial⟩,?_⟩
 go_wp2_with fail;refine (HPW.out _).mono ?_;rintro e w3 ⟨v3,rfl,hb3,hf⟩;(try clear u0 u1 u2 u3 u4 u5 u6 u7 ul);have hu_:=tk hf Hu;clear Hu;obtain⟨u0,u1,u2,u3,u4,u5,u6,u7,ul⟩:=l8_ hu_;have Hu:=q_ hu_;clear hu_;(try clear a0 al);have ha_:=tk hf Ha;clear Ha;have a0:=hEC ha_ 0;have al:=lBk ha_;have Ha:=q_ ha_;clear ha_;(try clear x0 x1 xl);have hx_:=tk hf Hx;clear Hx;obtain⟨x0,x1,xl⟩:=l2_ hx_;have Hx:=q_ hx_;clear hx_;(try clear y0 y1 yl);have hy_:=tk hf Hy;clear Hy;obtain⟨y0,y1,yl⟩:=l2_ hy_;have Hy:=q_ hy_;clear hy_;(try clear s0 sl);have hs_:=tk hf Hs;clear Hs;have s0:=hEC hs_ 0;have sl:=lBk hs_;have Hs:=q_ hs_;clear hs_;have Hf3:=q_ (Hf2.out.trans0 hf);have HQ3:=q_ (HP2.out _ Hf3.out _ _ hb3);have H3:=q_ (H2.out.step hf);clear hf hb3;go_wp2;refine mD_ ⟨⟨ac_ (T:=44) rfl rfl rfl Tryz.underlying44 rfl a0 rfl,
  ac_ (T:=82) rfl rfl rfl Tryz.underlying82 rfl u3 rfl,
  ab_ (T:=30) rfl rfl rfl Tryz.underlying30 rfl k_ Hy.out rfl,
  ac_ (T:=3) rfl rfl rfl Tryz.underlying3 rfl s0 rfl,trivial⟩,?_⟩
 go_wp2_with fail;refine HQ3.out.mono ?_;rintro e w4 ⟨v4,rfl,hb4,hf⟩;(try clear u0 u1 u2 u3 u4 u5 u6 u7 ul);have hu_:=tk hf Hu;clear Hu;obtain⟨u0,u1,u2,u3,u4,u5,u6,u7,ul⟩:=l8_ hu_;have Hu:=q_ hu_;clear hu_;(try clear a0 al);have ha_:=tk hf Ha;clear Ha;have a0:=hEC ha_ 0;have al:=lBk ha_;have Ha:=q_ ha_;clear ha_;(try clear x0 x1 xl);have hx_:=tk hf Hx;clear Hx;obtain⟨x0,x1,xl⟩:=l2_ hx_;have Hx:=q_ hx_;clear hx_;(try clear y0 y1 yl);have hy_:=tk hf Hy;clear Hy;obtain⟨y0,y1,yl⟩:=l2_ hy_;have Hy:=q_ hy_;clear hy_;(try clear s0 sl);have hs_:=tk hf Hs;clear Hs;have s0:=hEC hs_ 0;have sl:=lBk hs_;have Hs:=q_ hs_;clear hs_;obtain⟨p2,q2,rfl,h4⟩:=has_big H3.out hf hb4 HZ.out.2;have h5:=(Has.f2 h4);have HS:=q_ (Set_q h5 id (BigSrc.thing (neg:=decide (x+R<0)) (ds:=zd (x+R)) (a:=p1) (c:=q1) i_) (BigSrc.thing (neg:=decide (y+R<0)) (ds:=zd (y+R)) (a:=p2) (c:=q2) i_) st);rw [HQ.out] at HS;clear hf hb4 h4 h5 HQ3;go_wp2;refine mD_ ⟨⟨ac_ (T:=44) rfl rfl rfl Tryz.underlying44 rfl a0 rfl,
  ac_ (T:=82) rfl rfl rfl Tryz.underlying82 rfl u3 rfl,
  ac_ (T:=3) rfl rfl rfl Tryz.underlying3 rfl s0 rfl,trivial⟩,?_⟩
 go_wp2_with fail;refine HS.out.mono ?_;rintro e w5 ⟨rfl,h5⟩;have H5:=q_ (has_drop2 h5);clear h5 HS;go_wp2;refine mD_ ⟨trivial,sT_ rfl ?_⟩;go_wp2;go_ret2;first|exact⟨id',rfl,ms,H5.out,HG.out⟩|exact⟨ms,H5.out,HG.out⟩
theorem set_u {W w:World} {U:UP} {ns:List K4} {mm:List ((Int×Int)×Int)} {Ps:List Res} (h:Has W w (uniL U ns mm Ps)) {id:Int} {F:Fld} (hi:Is U.r.S ns 201 id (mid 200 F)) (hl:ns.length≤88000) {x y st:Int} {R:Int} (hR:((2 ^ 200:Nat):Int)=R)
  (hx:inV R x) (hy:inV R y) (zx:Zok x) (zy:Zok y) (h0:0≤st) (h1:st<U.r.S) {A B:Nat→Prop} {va vb:Value} (bx:BigZ w A va x) (by':BigZ w B vb y) :
  Calls Tryz.prog 47 #[.pointer (some ⟨U.ub,0,none⟩),.int .i64 id,va,vb,.int .i64 st] w fun e w' =>
   ∃ id',e=.returned (.tuple #[.int .i64 id',.int .i64 0])∧∃ ns',Has W w' (uniL U ns' mm Ps)∧ns <+: ns'∧ns'.length≤ns.length+201∧Is U.r.S ns' 201 id' (mid 200 (updF F x y st)):=by
 have bx:=bx.mono (B:=fun _=>True) fun _ _=>trivial;have by':=by'.mono (B:=fun _=>True) fun _ _=>trivial;obtain⟨a1,c1,rfl,hh1⟩:=_root_.id bx;obtain⟨a2,c2,rfl,hh2⟩:=_root_.id by';clear hh1 hh2;have HX:=q_ bx;have HY:=q_ by';have H:=q_ h;have HI:=q_ (And.intro hi (And.intro hl (And.intro hR (And.intro hx (And.intro hy (And.intro zx (And.intro zy (And.intro h0 h1))))))));clear bx by' h hi hl hR hx hy zx zy h0 h1;go_enter Tryz.func47,Tryz.ntmps47;go_wp2_with fail;refine (try_set (set1_u (H.out.step (Fr.t)) HI.out.1 HI.out.2.1 HI.out.2.2.1 HI.out.2.2.2.1 HI.out.2.2.2.2.1 HI.out.2.2.2.2.2.1 HI.out.2.2.2.2.2.2.1 HI.out.2.2.2.2.2.2.2.1 HI.out.2.2.2.2.2.2.2.2 (HX.out.fr0 (Fr.t)) (HY.out.fr0 (Fr.t)) ?k0 ?k1 ?k2 ?k3)).mono ?_;case k0=>(repeat first|rw [if_pos o_]|rw [if_neg o_]|rw [hDR]|rw [hDN]|rw [hAz]|rw [hSz]|rw [hAC]|rw [hSC]|rw [oMS]|rw [uPC]|rw [lSZ]|rw [lSS]|rfl)
 case k1=>(repeat first|rw [if_pos o_]|rw [if_neg o_]|rw [hDR]|rw [hDN]|rw [hAz]|rw [hSz]|rw [hAC]|rw [hSC]|rw [oMS]|rw [uPC]|rw [lSZ]|rw [lSS]|rfl)
 case k2=>(repeat first|rw [if_pos o_]|rw [if_neg o_]|rw [hDR]|rw [hDN]|rw [hAz]|rw [hSz]|rw [hAC]|rw [hSC]|rw [oMS]|rw [uPC]|rw [lSZ]|rw [lSS]|rfl)
 case k3=>(repeat first|rw [if_pos o_]|rw [if_neg o_]|rw [hDR]|rw [hDN]|rw [hAz]|rw [hSz]|rw [hAC]|rw [hSC]|rw [oMS]|rw [uPC]|rw [lSZ]|rw [lSS]|rfl)
 rintro e w1 ⟨id',rfl,h1⟩;have H1:=q_ h1;clear h1;go_wp2;go_ret2;first|exact⟨id',rfl,H1.out⟩|exact H1.out
end Go.Proofs.YtebolidfbflkmaaGreat
end
section
namespace Go.Proofs.Hp
open Go Go.RowKit
theorem wpList_makeK {P:Program} {ops:Array Oper} {rest:List Oper} {o:Oper} {a:Act} {W:World} {Q:Exit→Act→World→Prop} (hgd:o.guard=none) {l c:Operand} {t e:TypeId} (ho:o.op=.makeSlice t l c) {n:Nat}
  (hl:a.eval l=.int .i64 n) (hc:a.eval c=.int .i64 n) {z:Value} {k bytes:Nat} (ht:P.underlying t=some (.slice e)) (hinfo:(P.info? e).map (fun i=>(i.zero,i.size,i.bytes))=some (some z,k,bytes))
  (hb:bytes*n≤281474976710656) (h63:n≤maxLen)
  (h:∀ w' xs,w'.ownsRow W.heap.size e k (.slice (some ⟨W.heap.size,0,none⟩) n n) n xs→Fr [] W w'→W.heap.size<w'.heap.size→wpList P ops Q rest (a.put o.dst (.slice (some ⟨W.heap.size,0,none⟩) n n)) w'):wpList P ops Q (o::rest) a W:=by
 obtain⟨i,hi,hz0,hz1,hz2⟩:=info_parts hinfo;obtain⟨w',hr,ho',hg⟩:=run_make_full W W.heap.size t e i z k ht hi hz0 hz1 .i64 .i64 n (by rw [hz2];exact hb) h63 (Nat.le_refl _) (P:=P);refine Mp.wpList_run hgd (w':=w') (v:=.slice (some ⟨W.heap.size,0,none⟩) n n) ?_ (h w' _ ho' ((Fr.refl _ _).grown hg i_) (oLT ho' rfl));unfold execOp;simp only [ho,hl,hc,Sem.run_bind,hr,Result.andThen_ok];rfl
end Go.Proofs.Hp
namespace Go.Proofs.YtebolidfbflkmaaGreat
open Go Go.RowKit Rg Mp Hp Qs Ev Bn Uni
def ZIn (w:World) (F:List Nat) (v:Value) (z:Int):Prop:=∃ a c G,v=.agg #[.bool (decide (z<0)),.slice a (zd z).length c]∧(bigR (decide (z<0)) (zd z) a c).holds w G∧∀ x∈G,x∈F
def zp_ (L:List (Value×Int)):Res where
 holds w F:=(∀ e∈L,ZIn w F e.1 e.2)∧∀ x∈F,x<w.heap.size
 keep:=fun {w w' F} ⟨h1,h2⟩ hk=>⟨fun e he=>by
   obtain⟨a,c,G,h3,h4,h5⟩:=h1 e he
   exact⟨a,c,G,h3,(bigR _ _ a c).keep h4 fun x hx=>hk x (h5 x hx),h5⟩,fun x hx=>by
  obtain⟨o,ho⟩:∃ o,w.heap[x]?=some o:=⟨_,Array.getElem?_eq_getElem (h2 x hx)⟩
  exact lBk ((hk x hx).trans ho)⟩
 lt:=fun ⟨_,h2⟩=>h2
theorem zpool_nil {W w:World} {Ps:List Res} (h:Has W w Ps):Has W w (zp_ []::Ps):=h.new (Fr.refl [] w) (F:=[]) ⟨i_,i_⟩ i_
theorem zi_ {W w:World} {L:List (Value×Int)} {Ps:List Res} (h:Has W w Ps) (hm:zp_ L∈Ps) {e:Value×Int} (he:e∈L):BigZ w (fun _=>True) e.1 e.2:=by obtain⟨F,h1,_⟩:=has_mem h hm;obtain⟨a,c,G,h3,h4,h5⟩:=h1 e he;obtain⟨⟨k1,k2,k3,k4⟩,k5⟩:=h4;exact⟨a,c,h3,k3,fun _ _=>trivial,k1⟩
theorem zpool_add {W w:World} {L:List (Value×Int)} {z:Int} {a:Option Addr} {c:Nat} {Ps:List Res} (h:Has W w (bigR (decide (z<0)) (zd z) a c::zp_ L::Ps)) :
  Has W w (zp_ ((.agg #[.bool (decide (z<0)),.slice a (zd z).length c],z)::L)::Ps) :=
 h.merge fun F G hF hG hd=>by
  obtain⟨g1,g2⟩:=hG;refine⟨F++G,⟨fun e he=>?_,fun x hx=>?_⟩,Fr.refl _ _,fun x hx=>List.mem_append.1 hx⟩;·
   rw [List.mem_cons] at he;rcases he with rfl|he
   ·exact⟨a,c,F,rfl,hF,fun x hx=>List.mem_append.2 (.inl hx)⟩
   ·obtain⟨a',c',G',h3,h4,h5⟩:=g1 e he;exact⟨a',c',G',h3,h4,fun x hx=>List.mem_append.2 (.inr (h5 x hx))⟩
  ·rw [List.mem_append] at hx;rcases hx with hx|hx
   ·exact (bigR _ _ a c).lt hF x hx
   ·exact g2 x hx
theorem zm_ {W w w':World} {L:List (Value×Int)} {z:Int} {v:Value} {Ps:List Res} (h:Has W w (zp_ L::Ps)) (hf:Fr [] w w') (hb:BigZ w' (w.heap.size≤·) v z) (hz:Zok z):Has W w' (zp_ ((v,z)::L)::Ps):=by obtain⟨a,c,rfl,h2⟩:=has_big h hf hb hz;exact zpool_add h2
def PairsAt (xs:List Value) (L:List (Value×Int)) (Z:Nat→Int×Int) (k:Nat):Prop :=
 ∀ j,j<k→∃ p q s t,(Value.agg #[p,q],(Z j).1)∈L∧(Value.agg #[s,t],(Z j).2)∈L∧xs[j*4]?=some p∧xs[j*4+1]?=some q∧xs[j*4+2]?=some s∧xs[j*4+3]?=some t
theorem PairsAt.more {xs:List Value} {L:List (Value×Int)} {Z:Nat→Int×Int} {k:Nat} (h:PairsAt xs L Z k) {p q s t:Value} (hk:k*4+3<xs.length) {x y:Int} (hx:(Z k).1=x) (hy:(Z k).2=y) :
  PairsAt ((((xs.set (k*4) p).set (k*4+1) q).set (k*4+2) s).set (k*4+3) t) ((.agg #[s,t],y)::(.agg #[p,q],x)::L) Z (k+1):=fun j hj=>by
 by_cases e:j=k;·
  subst e;refine⟨p,q,s,t,by rw [hx];simp,by rw [hy];simp,?_⟩;simp only [List.getElem?_set,List.length_set];refine⟨?_,?_,?_,?_⟩<;>(repeat' split)<;>first|rfl|(exfalso;omega)|exact absurd trivial ‹¬True›
 ·obtain⟨p',q',s',t',h1,h2,h3,h4,h5,h6⟩:=h j o_;refine⟨p',q',s',t',by simp [h1],by simp [h2],?_⟩;simp only [List.getElem?_set,List.length_set];refine⟨?_,?_,?_,?_⟩<;>(repeat' split)<;>first|assumption|(exfalso;omega)
end Go.Proofs.YtebolidfbflkmaaGreat
end
section
namespace Go.Proofs.YtebolidfbflkmaaGreat
open Qs Ev
def dumW:Tr:=.node (.leaf 100) (.leaf 100) (.leaf 100) (.leaf 100)
theorem dumW_not {s:Int} {ns:List K4} (hg:GoodQ s ns):dumW∉trs s ns:=by
 intro hm;obtain⟨i,hi,he⟩:=List.mem_iff_getElem.1 hm;have hi':i<ns.length:=by rw [← trs_length s ns];exact hi
 have he:tr s ns (s+i)=dumW:=by unfold tr tget;rw [if_neg o_,show (s+(i:Int) - s).toNat=i by omega,List.getD_eq_getElem?_getD,List.getElem?_eq_getElem hi,he];rfl
 have:=(good_full hg ns.length (x:=s+i) o_ ⟨by have:=hg.1;omega,o_⟩).2;rw [he] at this;have h8:=hg.2.1;have:=this.1.2;omega
def roomC (s:Int) (ns:List K4) (L:List Tr) (c:Nat):Prop:=room s ns (List.replicate c dumW++L)
theorem roomC_iff {s:Int} {ns:List K4} {L:List Tr} {c:Nat} (hg:GoodQ s ns):roomC s ns L c↔ns.length+c+(L.filter fun t=>decide (t∉trs s ns)).length≤90000:=by unfold roomC room;rw [List.filter_append,List.length_append,List.filter_replicate,if_pos (by simpa using dumW_not hg),List.length_replicate,Nat.add_assoc]
theorem roomC_len {s:Int} {ns:List K4} {L:List Tr} {c:Nat} (hg:GoodQ s ns) (h:roomC s ns L c):ns.length+c≤90000:=by have:=(roomC_iff hg).1 h;omega
theorem roomC_of {s:Int} {ns:List K4} {L:List Tr} {c:Nat} (h:ns.length+c+L.length≤90000):roomC s ns L c:=room.of_len (by simp;omega)
theorem rG_ {s:Int} {ns ms:List K4} {L:List Tr} {c d:Nat} (hg:GoodQ s ns) (hg':GoodQ s ms) (h:roomC s ns L c) (hp:ns <+: ms) (hl:ms.length≤ns.length+d) (hd:d≤c):roomC s ms L (c - d):=by
 have h1:=(roomC_iff hg).1 h;refine (roomC_iff hg').2 ?_;have h2:(L.filter fun t=>decide (t∉trs s ms)).length≤(L.filter fun t=>decide (t∉trs s ns)).length:=by obtain⟨k,rfl⟩:=hp;rw [← List.countP_eq_length_filter,← List.countP_eq_length_filter];refine List.countP_mono_left fun t _ ht=>?_;simp only [decide_eq_true_eq] at ht ⊢;intro hm;refine ht ?_;have e:=trs_take s (ns++k) ns.length;rw [List.take_left] at e;rw [← e] at hm;exact List.mem_of_mem_take hm
 omega
open Go Go.RowKit Rg Mp Hp Bn
def poolR (L:List BV):Res where
 holds w F:=(∀ e∈L,BigIn w false (zd (e.1:Int)) e.2.1 e.2.2∧∀ x∈bvF e,x∈F)∧∀ x∈F,x<w.heap.size
 keep:=fun {w w' F} ⟨h1,h2⟩ hk=>⟨fun e he=>⟨big_keep (h1 e he).1 fun x hx=>hk x ((h1 e he).2 x hx),(h1 e he).2⟩,fun x hx=>by
  obtain⟨o,ho⟩:∃ o,w.heap[x]?=some o:=⟨_,Array.getElem?_eq_getElem (h2 x hx)⟩
  exact lBk ((hk x hx).trans ho)⟩
 lt:=fun ⟨_,h2⟩=>h2
theorem pool_nil {W w:World} {Ps:List Res} (h:Has W w Ps):Has W w (poolR []::Ps):=h.new (Fr.refl [] w) (F:=[]) ⟨i_,i_⟩ i_
theorem pool_in {W w:World} {L:List BV} {Ps:List Res} (h:Has W w Ps) (hm:poolR L∈Ps) {e:BV} (he:e∈L):BigIn w false (zd (e.1:Int)) e.2.1 e.2.2:=by obtain⟨F,h1,_⟩:=has_mem h hm;exact (h1 e he).1
theorem pool_add {W w:World} {L:List BV} {V:Nat} {a:Option Addr} {c:Nat} {Ps:List Res} (h:Has W w (bigR false (zd (V:Int)) a c::poolR L::Ps)):Has W w (poolR ((V,a,c)::L)::Ps) :=
 h.merge fun F G hF hG hd=>by
  obtain⟨f1,f2⟩:=hF;obtain⟨g1,g2⟩:=hG;refine⟨F++G,⟨fun e he=>?_,fun x hx=>?_⟩,Fr.refl _ _,fun x hx=>List.mem_append.1 hx⟩;·
   rw [List.mem_cons] at he;rcases he with rfl|he
   ·refine⟨f1,fun x hx=>List.mem_append.2 (.inl ?_)⟩;rw [f2];exact hx
   ·exact⟨(g1 e he).1,fun x hx=>List.mem_append.2 (.inr ((g1 e he).2 x hx))⟩
  ·rw [List.mem_append] at hx;rcases hx with hx|hx
   ·exact big_lt f1 x (by rw [f2] at hx;exact hx)
   ·exact g2 x hx
def pickV (g:Bool) (x y:BV):BV:=if decide (y.1<x.1)=g then x else y
theorem pickV_mem {g:Bool} {x y:BV} {L:List BV} (hx:x∈L) (hy:y∈L):pickV g x y∈L:=by unfold pickV;split<;>assumption
theorem pickV_min (x y:BV):(pickV false x y).1=min x.1 y.1:=by
 unfold pickV;by_cases h:y.1<x.1;·rw [decide_eq_true h];simp only [Bool.true_eq_false,if_false];omega
 ·rw [decide_eq_false h];simp only [if_true];omega
theorem pickV_max (x y:BV):(pickV true x y).1=max x.1 y.1:=by
 unfold pickV;by_cases h:y.1<x.1;·rw [decide_eq_true h];simp only [if_true];omega
 ·rw [decide_eq_false h];simp only [Bool.false_eq_true,if_false];omega
theorem in_z' {w:World} {e:BV} (h:BigIn w false (zd (e.1:Int)) e.2.1 e.2.2):BigZ w (fun _=>True) (bvV e) (e.1:Int):=in_z h
theorem less_q {w:World} {x y:BV} (g:Bool) (hx:BigIn w false (zd (x.1:Int)) x.2.1 x.2.2) (hy:BigIn w false (zd (y.1:Int)) y.2.1 y.2.2) (zx:Zok (x.1:Int)) (zy:Zok (y.1:Int)) :
  Calls Tryz.prog 138 #[bvV x,bvV y,.bool g] w fun e w'=>e=.returned (bvV (pickV g x y))∧Fr [] w w':=by
 have HC:=q_ (fun w1 (hf:Fr [] w w1)=>Compare_z (in_z' (hx.fr hf)) (in_z' (hy.fr hf)) zx zy);obtain⟨V,ax,cx⟩:=x;obtain⟨U,ay,cy⟩:=y;simp only [bvV] at HC ⊢;clear hx hy zx zy;obtain⟨c,hc⟩:∃ c,cmpIY (V:Int) (U:Int)=c:=⟨_,rfl⟩;have hcd:decide (c > 0)=decide (U<V):=by
  rw [← hc];unfold cmpIY;rw [decide_eq_decide];split;·omega
  ·split<;>omega
 rw [hc] at HC;clear hc;unfold pickV;simp only;by_cases hg:decide (U<V)=g;·
  rw [if_pos hg];have hb:(decide (c > 0) == g)=true:=by rw [hcd,hg];simp
  clear hcd hg;go_enter Tryz.func138,Tryz.ntmps138;go_wp2_with fail;refine (HC.out _ (Fr.t)).mono ?_;rintro e w1 ⟨rfl,hf⟩;have hx_:=(hf.block (w.heap.size) (by first|(simp;done)|(simp;omega)) i_).trans (show _=some (.cells #[.bool false,.slice ax (zd (V:Int)).length cx] 30 (0,0)) from hpT);obtain⟨x0,x1,xl⟩:=l2_ hx_;have Hx:=q_ hx_;clear hx_;have hr_:=(hf.block (w.heap.size+2) (by first|(simp;done)|(simp;omega)) i_).trans (show _=some (.cells #[.bool false,.slice none 0 0] 30 (0,0)) from hpT);have r0:=hEC hr_ 0;have r0z:=hEF hr_ 0;have r1:=hEC hr_ 1;have r1z:=hEF hr_ 1;have rl:=lBk hr_;have Hr:=q_ hr_;clear hr_;have Hf:=q_ (Fr.trans0 (Fr.t) hf:Fr [] w w1);clear hf;go_wp2;refine bodyPost_ret (big_result1 rfl (b:=w.heap.size+2) (x:=.bool false) (y:=.slice ax (zd (V:Int)).length cx) rfl ?_) rfl ⟨rfl,?_⟩;·have h:=Hr.out;(repeat first|rw [if_pos o_]|rw [if_neg o_]|rw [hDR]|rw [hDN]|rw [hAz]|rw [hSz]|rw [hAC]|rw [hSC]|rw [oMS]|rw [uPC]|rw [lSZ]|rw [lSS]|rfl);rw [h];(repeat first|rw [if_pos o_]|rw [if_neg o_]|rw [hDR]|rw [hDN]|rw [hAz]|rw [hSz]|rw [hAC]|rw [hSC]|rw [oMS]|rw [uPC]|rw [lSZ]|rw [lSS]|rfl)
  ·have h:=Hf.out;exact Fr.t
 ·rw [if_neg hg];have hb:(decide (c > 0) == g)=false:=by rw [hcd];simpa using hg
  clear hcd hg;go_enter Tryz.func138,Tryz.ntmps138;go_wp2_with fail;refine (HC.out _ (Fr.t)).mono ?_;rintro e w1 ⟨rfl,hf⟩;have hx_:=(hf.block (w.heap.size+1) (by first|(simp;done)|(simp;omega)) i_).trans (show _=some (.cells #[.bool false,.slice ay (zd (U:Int)).length cy] 30 (0,0)) from hpT);obtain⟨x0,x1,xl⟩:=l2_ hx_;have Hx:=q_ hx_;clear hx_;have hr_:=(hf.block (w.heap.size+2) (by first|(simp;done)|(simp;omega)) i_).trans (show _=some (.cells #[.bool false,.slice none 0 0] 30 (0,0)) from hpT);have r0:=hEC hr_ 0;have r0z:=hEF hr_ 0;have r1:=hEC hr_ 1;have r1z:=hEF hr_ 1;have rl:=lBk hr_;have Hr:=q_ hr_;clear hr_;have Hf:=q_ (Fr.trans0 (Fr.t) hf:Fr [] w w1);clear hf;go_wp2;refine bodyPost_ret (big_result1 rfl (b:=w.heap.size+2) (x:=.bool false) (y:=.slice ay (zd (U:Int)).length cy) rfl ?_) rfl ⟨rfl,?_⟩;·have h:=Hr.out;(repeat first|rw [if_pos o_]|rw [if_neg o_]|rw [hDR]|rw [hDN]|rw [hAz]|rw [hSz]|rw [hAC]|rw [hSC]|rw [oMS]|rw [uPC]|rw [lSZ]|rw [lSS]|rfl);rw [h];(repeat first|rw [if_pos o_]|rw [if_neg o_]|rw [hDR]|rw [hDN]|rw [hAz]|rw [hSz]|rw [hAC]|rw [hSC]|rw [oMS]|rw [uPC]|rw [lSZ]|rw [lSS]|rfl)
  ·have h:=Hf.out;exact Fr.t
theorem _root_.Go.Proofs.Hp.Has.f7 {W w:World} {A B C D E F G P:Res} {Ys:List Res} (h:Has W w (A::B::C::D::E::F::G::P::Ys)):Has W w (P::A::B::C::D::E::F::G::Ys):=h.front (Xs:=[A,B,C,D,E,F,G])
abbrev FV:=Bool×BV×BV×BV×BV
def fCL (f:FV):Array Value:=#[.bool false,.slice f.2.1.2.1 (zd (f.2.1.1:Int)).length f.2.1.2.2,.bool false,.slice f.2.2.1.2.1 (zd (f.2.2.1.1:Int)).length f.2.2.1.2.2,.bool false,.slice f.2.2.2.1.2.1 (zd (f.2.2.2.1.1:Int)).length f.2.2.2.1.2.2,.bool false,.slice f.2.2.2.2.2.1 (zd (f.2.2.2.2.1:Int)).length f.2.2.2.2.2.2,.bool f.1]
def fvV (f:FV):Value:=.agg (fCL f)
def coF (o:Option Frm):Frm:=o.getD (0,0,0,0)
def FrOk (o:Option Frm) (f:FV):Prop:=f.1=o.isSome∧(f.2.1.1:Int)=(coF o).1∧(f.2.2.1.1:Int)=(coF o).2.1∧(f.2.2.2.1.1:Int)=(coF o).2.2.1∧(f.2.2.2.2.1:Int)=(coF o).2.2.2
def InL (L:List BV) (f:FV):Prop:=f.2.1∈L∧f.2.2.1∈L∧f.2.2.2.1∈L∧f.2.2.2.2∈L
theorem InL.mono {L M:List BV} {f:FV} (h:InL L f) (hs:∀ x∈L,x∈M):InL M f:=⟨hs _ h.1,hs _ h.2.1,hs _ h.2.2.1,hs _ h.2.2.2⟩
def zBV:BV:=(0,none,0)
def zFV (ok:Bool):FV:=(ok,zBV,zBV,zBV,zBV)
def mapF (rb:Nat) (mm:List (Int×FV)):Res where
 holds w F:=MapIs w rb (Value.int .i64) fvV mm∧F=[rb]
 keep:=fun ⟨h1,h2⟩ hk=>⟨h1.of_block (hk _ (by simp [h2])),h2⟩
 lt:=fun ⟨h1,h2⟩ x hx=>by rw [h2] at hx;simp at hx;subst hx;exact h1.lt
def FInv (s:Int) (ns:List K4) (L:List BV) (mm:List (Int×FV)):Prop:=∀ e∈mm,FrOk (frT (tr s ns e.1).ht (tr s ns e.1)) e.2∧InL L e.2
theorem FInv.mono {s:Int} {ns:List K4} {L M:List BV} {mm:List (Int×FV)} (h:FInv s ns L mm) (hs:∀ x∈L,x∈M):FInv s ns M mm:=fun e he=>⟨(h e he).1,(h e he).2.mono hs⟩
def frL (b fb rb:Nat) (s:Int) (ns:List K4) (L:List BV) (mm:List (Int×FV)) (Ps:List Res):List Res :=
 poolR L::mapF rb mm::Hp.blk fb (.cells #[.pointer (some ⟨b,0,none⟩),.map (some rb)] 170 (0,0))::sTR b s ns::Ps
def FramePost (W:World) (b fb rb:Nat) (s:Int) (ns:List K4) (L:List BV) (n:Nat) (t:Tr) (Ps:List Res) (e:Ending) (w':World):Prop :=
 ∃ f L' mm',e=.returned (fvV f)∧Has W w' (frL b fb rb s ns L' mm' Ps)∧FInv s ns L' mm'∧(∀ x∈L,x∈L')∧FrOk (frT n t) f∧InL L' f
def FrameAt (W:World) (b fb rb:Nat) (s:Int) (ns:List K4) (n:Nat):Prop :=
 ∀ (w:World) (Ps:List Res) (L:List BV) (mm:List (Int×FV)) (id:Int) (t:Tr),Has W w (frL b fb rb s ns L mm Ps)→FInv s ns L mm→Is s ns n id t →
  Calls Tryz.prog 114 #[.pointer (some ⟨fb,0,none⟩),.int .i64 id] w (FramePost W b fb rb s ns L n t Ps)
theorem frame_result {fn:Func} {p:Tmp} (h:fn.results=#[.cell p 172]) {tmps:Array Value} {b:Nat} {w':World} {f:FV} (h4:tmps.getD p undef=.pointer (some ⟨b,0,none⟩)) (hb:w'.heap[b]?=some (.cells (fCL f) 172 (0,0))) :
  (results fn tmps).run Tryz.prog w'=.ok (fvV f) w':=by
 rw [results_cell1 h,h4];simp only [asAddr,Sem.run_pure,Result.andThen];rw [run_loadVar_row w' b _ _ _ _ _ hb Tryz.underlying172 rfl k_];rfl
theorem fcells_zero (ok:Bool):fCL (zFV ok)=#[.bool false,.slice none 0 0,.bool false,.slice none 0 0,.bool false,.slice none 0 0,.bool false,.slice none 0 0,.bool ok]:=by simp [fCL,zFV,zBV,zd,dg_zero]
theorem z_in {W w:World} {L:List BV} {Ps:List Res} (h:Has W w (poolR L::Ps)):Has W w (poolR (zBV::L)::Ps):=pool_add (has_zero h)
theorem fr_cells {W w:World} {b fb rb:Nat} {s:Int} {ns:List K4} {L:List BV} {mm:List (Int×FV)} {Ps:List Res} (h:Has W w (frL b fb rb s ns L mm Ps)) :
  w.cell? ⟨fb,0,none⟩=some (.pointer (some ⟨b,0,none⟩))∧w.cell? ⟨fb,1,none⟩=some (.map (some rb))∧fb<w.heap.size :=
 ⟨hEC h.f2.blk 0,hEC h.f2.blk 1,lBk h.f2.blk⟩
theorem fr_map {W w:World} {b fb rb:Nat} {s:Int} {ns:List K4} {L:List BV} {mm:List (Int×FV)} {Ps:List Res} (h:Has W w (frL b fb rb s ns L mm Ps)):MapIs w rb (Value.int .i64) fvV mm∧rb<w.heap.size:=by obtain⟨F,h1,h2⟩:=h.swap.head;exact⟨h1,h1.lt⟩
theorem fput {W w:World} {rb:Nat} {mm mm':List (Int×FV)} {Ps:List Res} {q:Obj} (h:Has W w (mapF rb mm::Ps)) (hq:MapIs { w with heap:=w.heap.setIfInBounds rb q } rb (Value.int .i64) fvV mm'):Has W { w with heap:=w.heap.setIfInBounds rb q } (mapF rb mm'::Ps) :=
 h.turn fun F ⟨h1,h2⟩=>⟨F,⟨hq,h2⟩,(Fr.refl F w).setBlock (.inl (by simp [h2])) q,fun x hx=>.inl hx⟩
theorem upd_fr {ops:Array Oper} {rest:List Oper} {o:Oper} {act:Act} {Q:Exit→Act→World→Prop} {W w:World} {rb:Nat} {mm:List (Int×FV)} {id:Int} {f:FV} {P:Res} {Ps:List Res} {m x u:Operand}
  (hg:o.guard=none) (ho:o.op=.mapUpdate 168 m x u) (hm:act.eval m=.map (some rb)) (hx:act.eval x=.int .i64 id) (hu:act.eval u=fvV f) (h:Has W w (P::mapF rb mm::Ps))
  (hnext:∀ w',Has W w' (P::mapF rb (put mm id f)::Ps)→wpList Tryz.prog ops Q rest (act.put o.dst undef) w'):wpList Tryz.prog ops Q (o::rest) act w:=by
 obtain⟨F8,hM,_⟩:=h.swap.head;exact wpList_update_is (f:=Value.int .i64) (g:=fvV) (k:=id) (v:=f) hg ho hm hx hu hM Tryz.underlying168 keysI fun q hq=>hnext _ (fput h.swap hq).swap
theorem frame_hit {W:World} {b fb rb:Nat} {s:Int} {ns:List K4} {n:Nat} {w:World} {Ps:List Res} {L:List BV} {mm:List (Int×FV)} {id:Int} {t:Tr} (h:Has W w (frL b fb rb s ns L mm Ps)) (hI:FInv s ns L mm) (hi:Is s ns n id t) {f:FV} (hg:get? mm id=some f) :
  Calls Tryz.prog 114 #[.pointer (some ⟨fb,0,none⟩),.int .i64 id] w (FramePost W b fb rb s ns L n t Ps):=by
 obtain⟨hm,hml⟩:=fr_map h;obtain⟨c0,c1,cl⟩:=fr_cells h;have hv:=hI _ (get_mem' hg);simp only at hv;rw [hi.2.1,full_ht n hi.2.2.1] at hv;have HV:=q_ hv;have HI:=q_ hI;have HM:=q_ hm;have HG:=q_ hg;have H:=q_ h;clear h hi hg hm hv hI;go_enter Tryz.func114,Tryz.ntmps114;go_wp2_with (at_lookup;refine wpList_lookup_hit (f:=Value.int .i64) (g:=fvV) (k:=id) (z:=fvV (zFV false)) rfl rfl rfl rfl (HM.out.of_block (hAE _ _ _ hml)) Tryz.underlying168 keysI k_ HG.out ?_;simp only [fvV,fCL]);refine bodyPost_ret (frame_result rfl (b:=w.heap.size) (f:=f) rfl ?_) rfl ⟨f,L,mm,rfl,H.out.step (Fr.t),HI.out,fun _ hx=>hx,HV.out.1,HV.out.2⟩;exact hpT
theorem frame_leaf {W:World} {b fb rb:Nat} {s:Int} {ns:List K4} {w:World} {Ps:List Res} {L:List BV} {mm:List (Int×FV)} {id:Int} {t:Tr} (h:Has W w (frL b fb rb s ns L mm Ps)) (hI:FInv s ns L mm) (hi:Is s ns 0 id t) (hg:get? mm id=none) :
  Calls Tryz.prog 114 #[.pointer (some ⟨fb,0,none⟩),.int .i64 id] w (FramePost W b fb rb s ns L 0 t Ps):=by
 obtain⟨h0,h1,ht⟩:=hi.zero (has_good h.f3);have HK:=q_ (fun w1 Qs (h1:Has W w1 (sTR b s ns::Qs))=>KidsLeaf_has h1 hi);have hok:FrOk (frT 0 t) (zFV (decide (id > 0))):=by
  rw [ht];unfold frT;by_cases hz:id=0;·subst hz;simp [FrOk,zFV,zBV,coF]
  ·rw [if_neg hz];simp [FrOk,zFV,zBV,coF];omega
 have HT:=q_ hi.2.1;have HFu:=q_ (full_ht 0 hi.2.2.1);have HOK:=q_ hok;have HI:=q_ hI;obtain⟨ok,hk⟩:∃ ok,decide (id > 0)=ok:=⟨_,rfl⟩;rw [hk] at HOK;clear ht hi hok hI;obtain⟨hm,hml⟩:=fr_map h;obtain⟨c0,c1,cl⟩:=fr_cells h;have HM:=q_ hm;have HG:=q_ hg;have H:=q_ h;have c03:∀ o1 o2 o3,(((w.alloc o1).alloc o2).alloc o3).cell? ⟨fb,0,none⟩=some (.pointer (some ⟨b,0,none⟩)):=fun o1 o2 o3=>(Fr.cell (((((Fr.refl [] w).alloc o1).alloc o2).alloc o3)) (p:=⟨fb,0,none⟩) cl i_).trans c0;clear hm h hg c0;go_enter Tryz.func114,Tryz.ntmps114;go_wp2_with (at_lookup;refine wpList_lookup_miss (f:=Value.int .i64) (g:=fvV) (k:=id) (z:=fvV (zFV false)) rfl rfl rfl rfl (HM.out.of_block (hAE _ _ _ hml)) Tryz.underlying168 keysI k_ HG.out ?_;simp only [fvV,fcells_zero]);have h1:=hAL ((hAL H.out (fCL (zFV false)) 172).step ((Fr.refl [] _).alloc (.cells (fCL (zFV false)) 172))) (fCL (zFV ok)) 172;simp only [hAz,fcells_zero] at h1;refine (HK.out _ _ h1.f5).mono ?_;rintro e w2 ⟨rfl,h,hf⟩;obtain⟨rq,hr4⟩:∃ rq,w.heap.size=rq:=⟨_,rfl⟩;obtain⟨s7,hs7⟩:∃ s7,rq+1+1=s7:=⟨_,rfl⟩;simp only [hr4,hs7] at h ⊢;have h:=h.f4.swap;clear hf h1 c03 c1 cl hml H HM HG hr4 hs7;have hcb:=h.f5.blk;obtain⟨c0,c1,cl⟩:=l2_ hcb;have hsb:=h.f2.blk;obtain⟨s0,s1,s2,s3,s4,s5,s6⟩:=e7_ hsb;have s7':=hEC hsb 7;have s8:=hEC hsb 8;have sl:=lBk hsb;have H4:=q_ h;clear h hcb hsb;go_wp2;(refine wT ?_);go_wp2_with (at_mapUpdate;refine upd_fr (id:=id) (f:=(zFV ok)) rfl rfl rfl rfl (by rw [show fvV (zFV ok)=_ from congrArg Value.agg (fcells_zero ok)];rfl) (H4.out.step (Fr.t)) ?_);clear c0 c1 cl s0 s1 s2 s3 s4 s5 s6 s7' s8 sl;intro w8 h5;have hsb:=h5.f2.blk;have hr4:=h5.f3.blk;obtain⟨s0,s1,s2⟩:=e3_ hsb
 have s3:=hEC hsb 3;have s4:=hEC hsb 4;have s5:=hEC hsb 5;have s6:=hEC hsb 6;have s7':=hEC hsb 7;have s8:=hEC hsb 8;have sl:=lBk hsb;obtain⟨r0,r1,r2,r3,r4,r5,r6⟩:=e7_ hr4;have r7':=hEC hr4 7;have r8:=hEC hr4 8;have rz0:=hEF hr4 0;have rz1:=hEF hr4 1;have rz2:=hEF hr4 2;have rz3:=hEF hr4 3;have rz4:=hEF hr4 4;have rz5:=hEF hr4 5;have rz6:=hEF hr4 6;have rz7':=hEF hr4 7;have rz8:=hEF hr4 8;have rl:=lBk hr4;have H5:=q_ h5;clear h5 hsb hr4 H4;go_wp2;refine sT_ rfl ?_;go_wp2;have hF:=hST (hST (hST (hST (hST (hST (hST (hST (hST H5.out.f3 0 (.bool false)) 1 (.slice none 0 0)) 2 (.bool false)) 3 (.slice none 0 0)) 4 (.bool false)) 5 (.slice none 0 0)) 6 (.bool false)) 7 (.slice none 0 0)) 8 (.bool ok);have HF:=q_ (And.intro hF.blk (hF.drop.f2.drop.f3.f2.f3));clear hF;refine bodyPost_ret (frame_result rfl (b:=rq) (f:=zFV ok) rfl ?_) rfl ⟨zFV ok,zBV::L,put mm id (zFV ok),rfl,z_in HF.out.2,?_,fun _ hx=>by simp [hx],HOK.out,?_⟩;·rw [fcells_zero];exact HF.out.1
 ·intro e he;rcases mem_put he with h|rfl
  ·exact⟨(HI.out e h).1,(HI.out e h).2.mono fun x hx=>by simp [hx]⟩
  ·refine⟨?_,?_⟩;·
    show FrOk (frT (tr s ns id).ht (tr s ns id)) _;rw [HT.out,HFu.out];exact HOK.out
   ·exact⟨by simp [zFV],by simp [zFV],by simp [zFV],by simp [zFV]⟩
 ·exact⟨by simp [zFV],by simp [zFV],by simp [zFV],by simp [zFV]⟩
end Go.Proofs.YtebolidfbflkmaaGreat
end
section
namespace Go.Proofs.Hp
open Go Go.RowKit
theorem range_take {α:Type} (n:Nat) (xs:List α):(List.range n).filterMap (fun i=>xs[i]?)=xs.take n:=by
 induction n with
 | zero=>simp
 | succ n ih =>
  rw [List.range_succ,List.filterMap_append,ih];by_cases h:n<xs.length;·rw [List.take_add_one,List.getElem?_eq_getElem h];simp [h]
  ·rw [List.take_add_one];simp [List.getElem?_eq_none (by omega:xs.length≤n)]
theorem Has.drops {W w:World} {Qs:List Res}:∀ {Es:List Res},Has W w (Es++Qs)→Has W w Qs
 | [],h=>h
 | _::_,h=>Has.drops h.drop
theorem Has.ord {W w:World} {Xs:List Res} (n:Nat) (is:List Nat) (h:Has W w Xs) (hs:(is++(List.range n).filter (fun i=>!is.contains i)).isPerm (List.range n)=true:=by decide):Has W w (is.filterMap (fun i=>Xs[i]?)++Xs.drop n):=by
 have hp:=List.isPerm_iff.1 hs;have h2:=hp.filterMap (fun i=>Xs[i]?);rw [range_take,List.filterMap_append] at h2;have h3:Xs.Perm ((((List.range n).filter (fun i=>!is.contains i)).filterMap fun i=>Xs[i]?)++(is.filterMap (fun i=>Xs[i]?)++Xs.drop n)):=by refine (List.Perm.of_eq (List.take_append_drop n Xs).symm).trans ?_;refine (h2.symm.append_right _).trans ?_;rw [← List.append_assoc];exact List.perm_append_comm.append_right _
 exact Has.drops (h.perm h3)
end Go.Proofs.Hp
end
