/- Own texts of this claim, part 29: no condition. -/
import Derived.Test.YtdanghnadbkhfaaGreatZS27
import Derived.Test.YtdanghnadbkhfaaGreatZS11
import Derived.Test.YtdanghnadbkhfaaGreatZS5
import Derived.Test.YtdanghnadbkhfaaGreatZS3
import Derived.Test.YtdanghnadbkhfaaGreatZS4
set_option linter.unusedVariables false
set_option linter.unusedSimpArgs false
section
namespace Go.Proofs.YtdanghnadbkhfaaGreat
open Go Go.RowKit Rg Mp Hp Qs Ev Bn Pt
theorem setQ_len {s:Int} {st:Int} {x y:Nat}:∀ (n:Nat) (ns:List K4) (id:Int),(setQ s n ns id x y st).2.length≤ns.length+n
 | 0,ns,id=>Nat.le_refl _
 | n+1,ns,id=>by
  have h:=setQ_len (s:=s) (st:=st) (x:=x) (y:=y) n ns ((nodeOf s ns id).get (qd n x y))
  unfold setQ
  split
  ·simp only;omega
  ·have:=join_len s (setQ s n ns ((nodeOf s ns id).get (qd n x y)) x y st).2 (putK (nodeOf s ns id) (qd n x y) (setQ s n ns ((nodeOf s ns id).get (qd n x y)) x y st).1.1)
   omega
theorem quad_in {w:World} {nx ny:Bool} {dx dy:List Nat} {ax ay:Option Addr} {cx cy:Nat} {X Y:Int} (hx:BigIn w nx dx ax cx) (hy:BigIn w ny dy ay cy) (hnx:nx=decide (X<0)) (hdx:dx=zd X) (hny:ny=decide (Y<0)) (hdy:dy=zd Y) (zx:Zok X) (zy:Zok Y) (hX:0≤X) (hY:0≤Y) {n:Nat} (hn:n≤256) {L9:Int} (hL:((n+1:Nat):Int)=L9) :
  Calls Tryz.prog 45 #[.int .i64 L9,.agg #[.bool nx,.slice ax dx.length cx],.agg #[.bool ny,.slice ay dy.length cy]] w fun e w'=>e=.returned (.int .i64 (qd n X.toNat Y.toNat:Nat))∧Fr [] w w':=by
 have bx:BigZ w (fun _=>True) (.agg #[.bool nx,.slice ax dx.length cx]) X:=by subst hnx;subst hdx;exact⟨ax,cx,rfl,hx.len,fun _ _=>trivial,hx.rd⟩
 have by':BigZ w (fun _=>True) (.agg #[.bool ny,.slice ay dy.length cy]) Y:=by subst hny;subst hdy;exact⟨ay,cy,rfl,hy.len,fun _ _=>trivial,hy.rd⟩
 exact Rquad_z bx by' zx zy hX hY hn hL
def RSetAt (W:World) (b:Nat) (s:Int) (nx:Bool) (dx:List Nat) (ax:Option Addr) (cx:Nat) (ny:Bool) (dy:List Nat) (ay:Option Addr) (cy:Nat) (X Y st:Int) (n:Nat):Prop :=
 ∀ (w:World) (Ps:List Res) (ns:List K4) (id:Int) (t:Tr) (L9:Int),((n:Nat):Int)=L9→ns.length+n≤90000→Has W w (refR b s ns::Ps)→Is s ns n id t→BigSrc W Ps nx dx ax cx→BigSrc W Ps ny dy ay cy →
  Calls Tryz.prog 74 #[.pointer (some ⟨b,0,none⟩),.int .i64 id,.int .i64 L9,.agg #[.bool nx,.slice ax dx.length cx],.agg #[.bool ny,.slice ay dy.length cy],.int .i64 st] w fun e w' =>
   e=.returned (.tuple #[.int .i64 (setQ s n ns id X.toNat Y.toNat st).1.1,.int .i64 (setQ s n ns id X.toNat Y.toNat st).1.2])∧Has W w' (refR b s (setQ s n ns id X.toNat Y.toNat st).2::Ps)
theorem RSetAt.run {W:World} {b:Nat} {s:Int} {nx:Bool} {dx:List Nat} {ax:Option Addr} {cx:Nat} {ny:Bool} {dy:List Nat} {ay:Option Addr} {cy:Nat} {X Y st:Int} {n:Nat} (hs:RSetAt W b s nx dx ax cx ny dy ay cy X Y st n) {w:World} {Ps:List Res} {ns:List K4} {id:Int} {t:Tr} {L9:Int} (hL:((n:Nat):Int)=L9) (hl:ns.length+n≤90000)
  (h:Has W w (refR b s ns::Ps)) (hi:Is s ns n id t) (hx:BigSrc W Ps nx dx ax cx) (hy:BigSrc W Ps ny dy ay cy) {id' e':Int} {ms:List K4} (he:setQ s n ns id X.toNat Y.toNat st=((id',e'),ms)) :
  Calls Tryz.prog 74 #[.pointer (some ⟨b,0,none⟩),.int .i64 id,.int .i64 L9,.agg #[.bool nx,.slice ax dx.length cx],.agg #[.bool ny,.slice ay dy.length cy],.int .i64 st] w fun e w' =>
   e=.returned (.tuple #[.int .i64 id',.int .i64 e'])∧Has W w' (refR b s ms::Ps):=by
 have:=hs w Ps ns id t L9 hL hl h hi hx hy
 rwa [he] at this
set_option maxHeartbeats 16000000 in
set_option maxRecDepth 100000 in
theorem Rset_q {W:World} {b:Nat} {s:Int} {nx:Bool} {dx:List Nat} {ax:Option Addr} {cx:Nat} {ny:Bool} {dy:List Nat} {ay:Option Addr} {cy:Nat} {X Y:Int} (st:Int) (zx:Zok X) (zy:Zok Y) (hX:0≤X) (hY:0≤Y)
  (hnx:nx=decide (X<0)) (hdx:dx=zd X) (hny:ny=decide (Y<0)) (hdy:dy=zd Y):∀ n:Nat,n≤256→RSetAt W b s nx dx ax cx ny dy ay cy X Y st n:=by
 intro n
 induction n with
 | zero =>
  intro _ w Ps ns id t L9 hL hlen h hi hx hy
  obtain rfl:L9=0:=by omega
  have H:=Lib.hid h
  clear h hi hx hy hnx hdx hny hdy zx zy hX hY hL
  go_enter Tryz.func74,Tryz.ntmps74
  go_wp2
  go_ret2
  exact⟨rfl,H.out.step (by (repeat first|exact Fr.refl _ _|assumption|apply Fr.n|apply Fr.d|apply Fr.a|refine Fr.s ?_ (.inr (by simp;try omega)) _))⟩
 | succ n ih =>
  intro hn
  have HS:=Lib.hid (ih (by omega))
  clear ih
  intro w Ps ns id t L9 hL hlen h hi hx hy
  have hg:=ref_good h
  have hko:=kids_is hg hi
  have hqi:=(hi.node hg).2.2
  obtain⟨kk,hkk⟩:∃ kk,nodeOf s ns id=kk:=⟨_,rfl⟩
  rw [hkk] at hko hqi
  have HQI:=Lib.hid hqi
  have HKK:=Lib.hid hkk
  have HKO:=Lib.hid hko
  have HKI:=Lib.hid (fun w1 Qs (h1:Has W w1 (refR b s ns::Qs))=>RKids_has h1 id)
  have HQD:=Lib.hid (fun w1 (h1:BigIn w1 nx dx ax cx) (h2:BigIn w1 ny dy ay cy)=>quad_in h1 h2 hnx hdx hny hdy zx zy hX hY (show n≤256 by omega) hL)
  have HSx:=Lib.hid hx
  have HSy:=Lib.hid hy
  have HLEN:=Lib.hid hlen
  have hb0:(L9 == 0)=false:=by simp;omega
  have hL1:IntKind.i64.wrap (L9 - 1)=(n:Nat):=by rw [show L9 - 1=((n:Nat):Int) by omega];exact IntWalk.i64_in _ (by omega)
  have H:=Lib.hid h
  clear h hi hx hy hg hnx hdx hny hdy zx zy hX hY hkk hko hqi hlen hL
  go_enter Tryz.func74,Tryz.ntmps74
  go_wp2_with fail
  have h2:=(hAL (hAL H.out #[.bool nx,.slice ax dx.length cx] 27) #[.bool ny,.slice ay dy.length cy] 27).third
  refine (HKI.out _ _ h2).mono ?_
  rw [HKO.out]
  simp only [kv]
  rintro e w1 ⟨rfl,hf⟩
  have h:=h2.step hf
  rw [show (w.alloc (.cells #[.bool nx,.slice ax dx.length cx] 27)).heap.size=w.heap.size+1 by simp] at h
  obtain⟨xb,hxb⟩:∃ xb,w.heap.size=xb:=⟨_,rfl⟩
  obtain⟨yb,hyb⟩:∃ yb,xb+1=yb:=⟨_,rfl⟩
  rw [hxb] at h ⊢
  rw [hyb] at h ⊢
  have hy2:=h.swap.blk
  have hx2:=h.third.blk
  have x0:=hEC hx2 0
  have x1:=hEC hx2 1
  have xl:=lBk hx2
  have y0:=hEC hy2 0
  have y1:=hEC hy2 1
  have yl:=lBk hy2
  have H1:=Lib.hid h
  clear h hf h2 H hxb hyb hx2 hy2
  go_wp2_with fail
  have h:=(hAL H1.out #[.int .i64 kk.a,.int .i64 kk.b,.int .i64 kk.c,.int .i64 kk.d] 81).swap
  obtain⟨kb,hkb⟩:∃ kb,w1.heap.size=kb:=⟨_,rfl⟩
  rw [hkb] at h ⊢
  refine (HQD.out _ (HSx.out _ _ h (by intro P hP;simp [hP])) (HSy.out _ _ h (by intro P hP;simp [hP]))).mono ?_
  rintro e w2 ⟨rfl,hf⟩
  have h:=h.step hf
  clear hkb H1 hf x0 x1 xl y0 y1 yl
  have hk2:=h.swap.blk
  have hy2:=h.third.blk
  have hx2:=h.fourth.blk
  have k0:=hEC hk2 0
  have k1:=hEC hk2 1
  have k2:=hEC hk2 2
  have k3:=hEC hk2 3
  have kl:=lBk hk2
  have x0:=hEC hx2 0
  have x1:=hEC hx2 1
  have xl:=lBk hx2
  have y0:=hEC hy2 0
  have y1:=hEC hy2 1
  have yl:=lBk hy2
  have H2:=Lib.hid h
  clear h hk2 hx2 hy2
  obtain⟨q,hq⟩:∃ q,qd n X.toNat Y.toNat=q:=⟨_,rfl⟩
  have hq4:=qd_lt n X.toNat Y.toNat
  rw [hq] at hq4 ⊢
  have HQQ:=Lib.hid hq
  clear hq
  have:q=0∨q=1∨q=2∨q=3:=by omega
  clear hq4
  rcases this with rfl|rfl|rfl|rfl
  ·
   have hqe:qd n X.toNat Y.toNat=0:=HQQ.out
   have hkg:kk.get 0=kk.a:=rfl
   obtain⟨⟨id5,e5⟩,ms,hJ⟩:∃ (r:Int×Int) (ms:List K4),setQ s n ns (kk.get 0) X.toNat Y.toNat st=(r,ms):=⟨_,_,rfl⟩
   have hms:ms.length≤ns.length+n:=by have:=setQ_len (s:=s) (st:=st) (x:=X.toNat) (y:=Y.toNat) n ns (kk.get 0);rw [hJ] at this;exact this
   have HMS:=Lib.hid (show ms.length<90000 from by have:=HLEN.out;omega)
   have hres:setQ s (n+1) ns id X.toNat Y.toNat st=if e5≠0 then ((0,e5),ms) else join s ms (putK kk 0 id5):=by
    show (if (setQ s n ns ((nodeOf s ns id).get (qd n X.toNat Y.toNat)) X.toNat Y.toNat st).1.2≠0 then _ else _)=_
    rw [hqe,HKK.out,hJ]
   have HJ:=Lib.hid hJ
   have HR:=Lib.hid (fun w9 (h9:Has W w9 (refR b s ns::Hp.blk kb (.cells #[.int .i64 kk.a,.int .i64 kk.b,.int .i64 kk.c,.int .i64 kk.d] 81 (0,0))::Hp.blk yb (.cells #[.bool ny,.slice ay dy.length cy] 27 (0,0))::Hp.blk xb (.cells #[.bool nx,.slice ax dx.length cx] 27 (0,0))::Ps))=>HS.out.run (L9:=((n:Nat):Int)) rfl (by have:=HLEN.out;omega) h9 (HQI.out 0 (by omega)) (HSx.out.more (by intro P hP;simp [hP])) (HSy.out.more (by intro P hP;simp [hP])) HJ.out)
   rw [hkg] at HR
   clear hqe hJ hms
   go_wp2
   (refine wRT (by kernel_rfl) (by kernel_rfl) ?_)
   go_wp2_with fail
   refine (HR.out _ (H2.out.step (by (repeat first|exact Fr.refl _ _|assumption|apply Fr.n|apply Fr.d|apply Fr.a|refine Fr.s ?_ (.inr (by simp;try omega)) _)))).mono ?_
   rintro e w5 ⟨rfl,h⟩
   clear HR k0 k1 k2 k3 kl x0 x1 xl y0 y1 yl
   by_cases he5:e5=0
   ·subst he5
    have hb5:((0:Int) != 0)=false:=rfl
    have HRS:=Lib.hid (show setQ s (n+1) ns id X.toNat Y.toNat st=join s ms (putK kk 0 id5) from hres.trans (if_neg (by simp)))
    have k0:_=some (Value.int .i64 kk.a):=(hCE h.swap).1 0
    have k1:_=some (Value.int .i64 kk.b):=(hCE h.swap).1 1
    have k2:_=some (Value.int .i64 kk.c):=(hCE h.swap).1 2
    have k3:_=some (Value.int .i64 kk.d):=(hCE h.swap).1 3
    have kz:=(hCE h.swap).2.1 0
    have kl:=(hCE h.swap).2.2
    have H5:=Lib.hid (hST h.swap 0 (.int .i64 id5)).swap
    clear h hres
    go_wp2
    refine Strict.intro rfl ?_
    go_wp2_with fail
    refine (RJoin_has H5.out HMS.out (putK kk 0 id5)).mono ?_
    rintro e w6 ⟨rfl,h⟩
    have H6:=Lib.hid h
    clear h
    go_wp2
    go_ret2
    rw [HRS.out]
    exact⟨rfl,H6.out.swap.drop.swap.drop.swap.drop⟩
   ·have hb5:(e5 != 0)=true:=by simpa using he5
    have HRS:=Lib.hid (show setQ s (n+1) ns id X.toNat Y.toNat st=((0,e5),ms) from hres.trans (if_pos he5))
    have H5:=Lib.hid h
    clear h hres he5
    go_wp2
    refine Strict.intro rfl ?_
    go_wp2
    go_ret2
    rw [HRS.out]
    exact⟨rfl,H5.out.swap.drop.swap.drop.swap.drop⟩
  ·
   have hqe:qd n X.toNat Y.toNat=1:=HQQ.out
   have hkg:kk.get 1=kk.b:=rfl
   obtain⟨⟨id5,e5⟩,ms,hJ⟩:∃ (r:Int×Int) (ms:List K4),setQ s n ns (kk.get 1) X.toNat Y.toNat st=(r,ms):=⟨_,_,rfl⟩
   have hms:ms.length≤ns.length+n:=by have:=setQ_len (s:=s) (st:=st) (x:=X.toNat) (y:=Y.toNat) n ns (kk.get 1);rw [hJ] at this;exact this
   have HMS:=Lib.hid (show ms.length<90000 from by have:=HLEN.out;omega)
   have hres:setQ s (n+1) ns id X.toNat Y.toNat st=if e5≠0 then ((0,e5),ms) else join s ms (putK kk 1 id5):=by
    show (if (setQ s n ns ((nodeOf s ns id).get (qd n X.toNat Y.toNat)) X.toNat Y.toNat st).1.2≠0 then _ else _)=_
    rw [hqe,HKK.out,hJ]
   have HJ:=Lib.hid hJ
   have HR:=Lib.hid (fun w9 (h9:Has W w9 (refR b s ns::Hp.blk kb (.cells #[.int .i64 kk.a,.int .i64 kk.b,.int .i64 kk.c,.int .i64 kk.d] 81 (0,0))::Hp.blk yb (.cells #[.bool ny,.slice ay dy.length cy] 27 (0,0))::Hp.blk xb (.cells #[.bool nx,.slice ax dx.length cx] 27 (0,0))::Ps))=>HS.out.run (L9:=((n:Nat):Int)) rfl (by have:=HLEN.out;omega) h9 (HQI.out 1 (by omega)) (HSx.out.more (by intro P hP;simp [hP])) (HSy.out.more (by intro P hP;simp [hP])) HJ.out)
   rw [hkg] at HR
   clear hqe hJ hms
   go_wp2
   (refine wRT (by kernel_rfl) (by kernel_rfl) ?_)
   go_wp2_with fail
   refine (HR.out _ (H2.out.step (by (repeat first|exact Fr.refl _ _|assumption|apply Fr.n|apply Fr.d|apply Fr.a|refine Fr.s ?_ (.inr (by simp;try omega)) _)))).mono ?_
   rintro e w5 ⟨rfl,h⟩
   clear HR k0 k1 k2 k3 kl x0 x1 xl y0 y1 yl
   by_cases he5:e5=0
   ·subst he5
    have hb5:((0:Int) != 0)=false:=rfl
    have HRS:=Lib.hid (show setQ s (n+1) ns id X.toNat Y.toNat st=join s ms (putK kk 1 id5) from hres.trans (if_neg (by simp)))
    have k0:_=some (Value.int .i64 kk.a):=(hCE h.swap).1 0
    have k1:_=some (Value.int .i64 kk.b):=(hCE h.swap).1 1
    have k2:_=some (Value.int .i64 kk.c):=(hCE h.swap).1 2
    have k3:_=some (Value.int .i64 kk.d):=(hCE h.swap).1 3
    have kz:=(hCE h.swap).2.1 1
    have kl:=(hCE h.swap).2.2
    have H5:=Lib.hid (hST h.swap 1 (.int .i64 id5)).swap
    clear h hres
    go_wp2
    refine Strict.intro rfl ?_
    go_wp2_with fail
    refine (RJoin_has H5.out HMS.out (putK kk 1 id5)).mono ?_
    rintro e w6 ⟨rfl,h⟩
    have H6:=Lib.hid h
    clear h
    go_wp2
    go_ret2
    rw [HRS.out]
    exact⟨rfl,H6.out.swap.drop.swap.drop.swap.drop⟩
   ·have hb5:(e5 != 0)=true:=by simpa using he5
    have HRS:=Lib.hid (show setQ s (n+1) ns id X.toNat Y.toNat st=((0,e5),ms) from hres.trans (if_pos he5))
    have H5:=Lib.hid h
    clear h hres he5
    go_wp2
    refine Strict.intro rfl ?_
    go_wp2
    go_ret2
    rw [HRS.out]
    exact⟨rfl,H5.out.swap.drop.swap.drop.swap.drop⟩
  ·
   have hqe:qd n X.toNat Y.toNat=2:=HQQ.out
   have hkg:kk.get 2=kk.c:=rfl
   obtain⟨⟨id5,e5⟩,ms,hJ⟩:∃ (r:Int×Int) (ms:List K4),setQ s n ns (kk.get 2) X.toNat Y.toNat st=(r,ms):=⟨_,_,rfl⟩
   have hms:ms.length≤ns.length+n:=by have:=setQ_len (s:=s) (st:=st) (x:=X.toNat) (y:=Y.toNat) n ns (kk.get 2);rw [hJ] at this;exact this
   have HMS:=Lib.hid (show ms.length<90000 from by have:=HLEN.out;omega)
   have hres:setQ s (n+1) ns id X.toNat Y.toNat st=if e5≠0 then ((0,e5),ms) else join s ms (putK kk 2 id5):=by
    show (if (setQ s n ns ((nodeOf s ns id).get (qd n X.toNat Y.toNat)) X.toNat Y.toNat st).1.2≠0 then _ else _)=_
    rw [hqe,HKK.out,hJ]
   have HJ:=Lib.hid hJ
   have HR:=Lib.hid (fun w9 (h9:Has W w9 (refR b s ns::Hp.blk kb (.cells #[.int .i64 kk.a,.int .i64 kk.b,.int .i64 kk.c,.int .i64 kk.d] 81 (0,0))::Hp.blk yb (.cells #[.bool ny,.slice ay dy.length cy] 27 (0,0))::Hp.blk xb (.cells #[.bool nx,.slice ax dx.length cx] 27 (0,0))::Ps))=>HS.out.run (L9:=((n:Nat):Int)) rfl (by have:=HLEN.out;omega) h9 (HQI.out 2 (by omega)) (HSx.out.more (by intro P hP;simp [hP])) (HSy.out.more (by intro P hP;simp [hP])) HJ.out)
   rw [hkg] at HR
   clear hqe hJ hms
   go_wp2
   (refine wRT (by kernel_rfl) (by kernel_rfl) ?_)
   go_wp2_with fail
   refine (HR.out _ (H2.out.step (by (repeat first|exact Fr.refl _ _|assumption|apply Fr.n|apply Fr.d|apply Fr.a|refine Fr.s ?_ (.inr (by simp;try omega)) _)))).mono ?_
   rintro e w5 ⟨rfl,h⟩
   clear HR k0 k1 k2 k3 kl x0 x1 xl y0 y1 yl
   by_cases he5:e5=0
   ·subst he5
    have hb5:((0:Int) != 0)=false:=rfl
    have HRS:=Lib.hid (show setQ s (n+1) ns id X.toNat Y.toNat st=join s ms (putK kk 2 id5) from hres.trans (if_neg (by simp)))
    have k0:_=some (Value.int .i64 kk.a):=(hCE h.swap).1 0
    have k1:_=some (Value.int .i64 kk.b):=(hCE h.swap).1 1
    have k2:_=some (Value.int .i64 kk.c):=(hCE h.swap).1 2
    have k3:_=some (Value.int .i64 kk.d):=(hCE h.swap).1 3
    have kz:=(hCE h.swap).2.1 2
    have kl:=(hCE h.swap).2.2
    have H5:=Lib.hid (hST h.swap 2 (.int .i64 id5)).swap
    clear h hres
    go_wp2
    refine Strict.intro rfl ?_
    go_wp2_with fail
    refine (RJoin_has H5.out HMS.out (putK kk 2 id5)).mono ?_
    rintro e w6 ⟨rfl,h⟩
    have H6:=Lib.hid h
    clear h
    go_wp2
    go_ret2
    rw [HRS.out]
    exact⟨rfl,H6.out.swap.drop.swap.drop.swap.drop⟩
   ·have hb5:(e5 != 0)=true:=by simpa using he5
    have HRS:=Lib.hid (show setQ s (n+1) ns id X.toNat Y.toNat st=((0,e5),ms) from hres.trans (if_pos he5))
    have H5:=Lib.hid h
    clear h hres he5
    go_wp2
    refine Strict.intro rfl ?_
    go_wp2
    go_ret2
    rw [HRS.out]
    exact⟨rfl,H5.out.swap.drop.swap.drop.swap.drop⟩
  ·
   have hqe:qd n X.toNat Y.toNat=3:=HQQ.out
   have hkg:kk.get 3=kk.d:=rfl
   obtain⟨⟨id5,e5⟩,ms,hJ⟩:∃ (r:Int×Int) (ms:List K4),setQ s n ns (kk.get 3) X.toNat Y.toNat st=(r,ms):=⟨_,_,rfl⟩
   have hms:ms.length≤ns.length+n:=by have:=setQ_len (s:=s) (st:=st) (x:=X.toNat) (y:=Y.toNat) n ns (kk.get 3);rw [hJ] at this;exact this
   have HMS:=Lib.hid (show ms.length<90000 from by have:=HLEN.out;omega)
   have hres:setQ s (n+1) ns id X.toNat Y.toNat st=if e5≠0 then ((0,e5),ms) else join s ms (putK kk 3 id5):=by
    show (if (setQ s n ns ((nodeOf s ns id).get (qd n X.toNat Y.toNat)) X.toNat Y.toNat st).1.2≠0 then _ else _)=_
    rw [hqe,HKK.out,hJ]
   have HJ:=Lib.hid hJ
   have HR:=Lib.hid (fun w9 (h9:Has W w9 (refR b s ns::Hp.blk kb (.cells #[.int .i64 kk.a,.int .i64 kk.b,.int .i64 kk.c,.int .i64 kk.d] 81 (0,0))::Hp.blk yb (.cells #[.bool ny,.slice ay dy.length cy] 27 (0,0))::Hp.blk xb (.cells #[.bool nx,.slice ax dx.length cx] 27 (0,0))::Ps))=>HS.out.run (L9:=((n:Nat):Int)) rfl (by have:=HLEN.out;omega) h9 (HQI.out 3 (by omega)) (HSx.out.more (by intro P hP;simp [hP])) (HSy.out.more (by intro P hP;simp [hP])) HJ.out)
   rw [hkg] at HR
   clear hqe hJ hms
   go_wp2
   (refine wRT (by kernel_rfl) (by kernel_rfl) ?_)
   go_wp2_with fail
   refine (HR.out _ (H2.out.step (by (repeat first|exact Fr.refl _ _|assumption|apply Fr.n|apply Fr.d|apply Fr.a|refine Fr.s ?_ (.inr (by simp;try omega)) _)))).mono ?_
   rintro e w5 ⟨rfl,h⟩
   clear HR k0 k1 k2 k3 kl x0 x1 xl y0 y1 yl
   by_cases he5:e5=0
   ·subst he5
    have hb5:((0:Int) != 0)=false:=rfl
    have HRS:=Lib.hid (show setQ s (n+1) ns id X.toNat Y.toNat st=join s ms (putK kk 3 id5) from hres.trans (if_neg (by simp)))
    have k0:_=some (Value.int .i64 kk.a):=(hCE h.swap).1 0
    have k1:_=some (Value.int .i64 kk.b):=(hCE h.swap).1 1
    have k2:_=some (Value.int .i64 kk.c):=(hCE h.swap).1 2
    have k3:_=some (Value.int .i64 kk.d):=(hCE h.swap).1 3
    have kz:=(hCE h.swap).2.1 3
    have kl:=(hCE h.swap).2.2
    have H5:=Lib.hid (hST h.swap 3 (.int .i64 id5)).swap
    clear h hres
    go_wp2
    refine Strict.intro rfl ?_
    go_wp2_with fail
    refine (RJoin_has H5.out HMS.out (putK kk 3 id5)).mono ?_
    rintro e w6 ⟨rfl,h⟩
    have H6:=Lib.hid h
    clear h
    go_wp2
    go_ret2
    rw [HRS.out]
    exact⟨rfl,H6.out.swap.drop.swap.drop.swap.drop⟩
   ·have hb5:(e5 != 0)=true:=by simpa using he5
    have HRS:=Lib.hid (show setQ s (n+1) ns id X.toNat Y.toNat st=((0,e5),ms) from hres.trans (if_pos he5))
    have H5:=Lib.hid h
    clear h hres he5
    go_wp2
    refine Strict.intro rfl ?_
    go_wp2
    go_ret2
    rw [HRS.out]
    exact⟨rfl,H5.out.swap.drop.swap.drop.swap.drop⟩
end Go.Proofs.YtdanghnadbkhfaaGreat
end
section
namespace Go.Proofs.YtdanghnadbkhfaaGreat
open Go Go.RowKit Rg Mp Hp Qs Ev Bn Pt
set_option maxHeartbeats 8000000 in
set_option maxRecDepth 100000 in
theorem RSet_q {W w:World} {b:Nat} {s:Int} {ns:List K4} {Ps:List Res} (h:Has W w (refR b s ns::Ps)) (hlen:ns.length+256≤90000) (id:Int) {nx ny:Bool} {dx dy:List Nat} {ax ay:Option Addr} {cx cy:Nat} (hx:BigSrc W Ps nx dx ax cx) (hy:BigSrc W Ps ny dy ay cy) (st:Int) :
  Calls Tryz.prog 26 #[.pointer (some ⟨b,0,none⟩),.int .i64 id,.agg #[.bool nx,.slice ax dx.length cx],.agg #[.bool ny,.slice ay dy.length cy],.int .i64 st] w fun e w' =>
   e=.returned (.tuple #[.int .i64 (changeQ s ns id nx dx ny dy st).1.1,.int .i64 (changeQ s ns id nx dx ny dy st).1.2])∧Has W w' (refR b s (changeQ s ns id nx dx ny dy st).2::Ps):=by
 have hg:=ref_good h
 have hx1:BigIn w nx dx ax cx:=hx w (refR b s ns::Ps) h fun P hP=>List.mem_cons_of_mem _ hP
 have hy1:BigIn w ny dy ay cy:=hy w (refR b s ns::Ps) h fun P hP=>List.mem_cons_of_mem _ hP
 have HP:=Lib.hid (fun w1 (hf:Fr [] w w1)=>Rinside_q (h.step hf) id (hx1.fr hf) (hy1.fr hf))
 have H:=Lib.hid h
 unfold changeQ
 obtain⟨p,hp⟩:∃ p,placeE (lvl s (levs s ns) id) nx dx ny dy=p:=⟨_,rfl⟩
 rw [hp] at HP ⊢
 by_cases h0:p=0
 case neg =>
  rw [if_pos h0]
  have hb:(p != 0)=true:=by simpa using h0
  clear hp hg h hx hy h0 hx1 hy1
  go_enter Tryz.func26,Tryz.ntmps26
  go_wp2_with fail
  refine (HP.out _ (by (repeat first|exact Fr.refl _ _|assumption|apply Fr.n|apply Fr.d|apply Fr.a|refine Fr.s ?_ (.inr (by simp;try omega)) _))).mono ?_
  rintro e w1 ⟨rfl,hf⟩
  have Hf:=Lib.hid (Fr.trans0 (by (repeat first|exact Fr.refl _ _|assumption|apply Fr.n|apply Fr.d|apply Fr.a|refine Fr.s ?_ (.inr (by simp;try omega)) _)) hf:Fr [] w w1)
  clear hf
  go_wp2
  go_ret2
  exact⟨rfl,H.out.step Hf.out⟩
 subst h0
 have hb:((0:Int) != 0)=false:=rfl
 rw [if_neg (by simp)]
 by_cases hst:0≤st∧st<s
 case neg =>
  rw [if_pos hst]
  by_cases hst0:st<0
  ·have hd:decide (st<0)=true:=by simpa using hst0
   clear hp hg h hx hy hst hx1 hy1 hst0
   go_enter Tryz.func26,Tryz.ntmps26
   go_wp2_with fail
   refine (HP.out _ (by (repeat first|exact Fr.refl _ _|assumption|apply Fr.n|apply Fr.d|apply Fr.a|refine Fr.s ?_ (.inr (by simp;try omega)) _))).mono ?_
   rintro e w1 ⟨rfl,hf⟩
   have Hf:=Lib.hid (Fr.trans0 (by (repeat first|exact Fr.refl _ _|assumption|apply Fr.n|apply Fr.d|apply Fr.a|refine Fr.s ?_ (.inr (by simp;try omega)) _)) hf:Fr [] w w1)
   clear hf
   go_wp2
   try refine Mid.intro ⟨trivial,Strict.intro rfl ?_⟩
   try go_wp2
   go_ret2
   exact⟨rfl,H.out.step Hf.out⟩
  ·have hd:decide (st<0)=false:=by simpa using hst0
   have hd9:decide (st ≥ s)=true:=by rw [decide_eq_true_eq];omega
   clear hp hg h hx hy hst hx1 hy1 hst0
   go_enter Tryz.func26,Tryz.ntmps26
   go_wp2_with fail
   refine (HP.out _ (by (repeat first|exact Fr.refl _ _|assumption|apply Fr.n|apply Fr.d|apply Fr.a|refine Fr.s ?_ (.inr (by simp;try omega)) _))).mono ?_
   rintro e w1 ⟨rfl,hf⟩
   have H1:=Lib.hid (H.out.step (Fr.trans0 (by (repeat first|exact Fr.refl _ _|assumption|apply Fr.n|apply Fr.d|apply Fr.a|refine Fr.s ?_ (.inr (by simp;try omega)) _)) hf))
   clear hf H
   go_wp2_with fail
   refine (RData_has H1.out).mono ?_
   rintro e w2 ⟨dv,rfl,h3⟩
   obtain⟨da,dc,rfl,_,_⟩:=oFM h3.row
   have hfld:=run_field_states w2
   have H3:=Lib.hid h3.drop
   clear h3 H1
   go_wp2
   try refine Mid.intro ⟨trivial,Strict.intro rfl ?_⟩
   try go_wp2
   go_ret2
   exact⟨rfl,H3.out⟩
 rw [if_neg (by simpa using hst)]
 have hd:decide (st<0)=false:=by rw [decide_eq_false_iff_not];omega
 have hd9:decide (st ≥ s)=false:=by rw [decide_eq_false_iff_not];omega
 obtain⟨n,hn,hn2,hi,hR1,hR2,hX1,hX2,hY1,hY2⟩:=placeE_zero hg hp
 obtain⟨X,zx,hnx,hdx,bx⟩:=hx1.z hR1
 obtain⟨Y,zy,hny,hdy,by'⟩:=hy1.z hR2
 have hsx:sv nx dx=X:=by rw [hnx,hdx,zd_sv]
 have hsy:sv ny dy=Y:=by rw [hny,hdy,zd_sv]
 have HL:=Lib.hid (fun w1 Qs (h1:Has W w1 (refR b s ns::Qs))=>RLevel_has h1 id)
 obtain⟨L9,hL9⟩:∃ L9:Int,((n:Nat):Int)=L9:=⟨_,rfl⟩
 rw [hn,hL9] at HL
 rw [hsx,hsy,hn,show ((n:Nat):Int).toNat=n by omega]
 rw [hsx] at hX1 hX2
 rw [hsy] at hY1 hY2
 have HS:=Lib.hid (Rset_q (W:=W) (b:=b) (s:=s) (ax:=ax) (cx:=cx) (ay:=ay) (cy:=cy) st zx zy hX1 hY1 hnx hdx hny hdy n hn2)
 obtain⟨⟨id5,e5⟩,ms,hJ⟩:∃ (r:Int×Int) (ms:List K4),setQ s n ns id X.toNat Y.toNat st=(r,ms):=⟨_,_,rfl⟩
 rw [hJ]
 have HR:=Lib.hid (fun w9 Qs (h9:Has W w9 (refR b s ns::Qs)) (hs:∀ P∈Ps,P∈Qs)=>HS.out.run hL9 (by omega) h9 hi (hx.more hs) (hy.more hs) hJ)
 clear hp hg h hx hy hst hx1 hy1 hn hi hR1 hR2 hX1 hX2 hY1 hY2 zx zy hnx hny hdx hdy bx by' hsx hsy hJ hL9 HS
 go_enter Tryz.func26,Tryz.ntmps26
 go_wp2_with fail
 refine (HP.out _ (by (repeat first|exact Fr.refl _ _|assumption|apply Fr.n|apply Fr.d|apply Fr.a|refine Fr.s ?_ (.inr (by simp;try omega)) _))).mono ?_
 rintro e w1 ⟨rfl,hf⟩
 have h:=(hAL (hAL H.out #[.bool nx,.slice ax dx.length cx] 27) #[.bool ny,.slice ay dy.length cy] 27).third.step hf
 rw [show (w.alloc (.cells #[.bool nx,.slice ax dx.length cx] 27)).heap.size=w.heap.size+1 by simp] at h
 obtain⟨xb,hxb⟩:∃ xb,w.heap.size=xb:=⟨_,rfl⟩
 obtain⟨yb,hyb⟩:∃ yb,xb+1=yb:=⟨_,rfl⟩
 rw [hxb] at h ⊢
 rw [hyb] at h ⊢
 have H1:=Lib.hid h
 clear h hf H hxb hyb
 go_wp2_with fail
 refine (RData_has H1.out).mono ?_
 rintro e w2 ⟨dv,rfl,h3⟩
 obtain⟨da,dc,rfl,_,_⟩:=oFM h3.row
 have hfld:=run_field_states w2
 have h:=h3.drop
 have H2:=Lib.hid h
 have x0:=hEC h.third.blk 0
 have x1:=hEC h.third.blk 1
 have xl:=lBk h.third.blk
 have y0:=hEC h.swap.blk 0
 have y1:=hEC h.swap.blk 1
 have yl:=lBk h.swap.blk
 clear h h3 H1
 go_wp2
 refine wRS [([0,1,2,3,5,6,4],[5,6]),([7,8,9,10,11,12],[])] (by kernel_rfl) (by kernel_rfl) ?_
 (simp only [wpSegs,pick,Array.getD_eq_getD_getElem?,List.getElem?_toArray,List.getElem?_cons_succ,List.getElem?_cons_zero,Option.getD_some])
 go_wp2_with fail
 refine (HL.out _ _ (H2.out.step (by (repeat first|exact Fr.refl _ _|assumption|apply Fr.n|apply Fr.d|apply Fr.a|refine Fr.s ?_ (.inr (by simp;try omega)) _)))).mono ?_
 rintro e w3 ⟨rfl,hf⟩
 have h:=H2.out.step (Fr.trans0 (by (repeat first|exact Fr.refl _ _|assumption|apply Fr.n|apply Fr.d|apply Fr.a|refine Fr.s ?_ (.inr (by simp;try omega)) _)) hf)
 have Hy:=Lib.hid h.swap.blk
 have Hx:=Lib.hid h.third.blk
 clear x0 x1 xl y0 y1 yl H2 hf hfld
 have H3:=Lib.hid h
 clear h
 go_wp2
 refine Mid.intro ⟨⟨aGR (T:=27) (cs:=[.bool nx,.slice ax dx.length cx]) rfl rfl rfl Tryz.underlying27 rfl (by kernel_rfl) (fun j v hj=>?rngx) rfl,aGR (T:=27) (cs:=[.bool ny,.slice ay dy.length cy]) rfl rfl rfl Tryz.underlying27 rfl (by kernel_rfl) (fun j v hj=>?rngy) rfl,trivial⟩,?_⟩
 case rngx =>
  rw [Nat.zero_add,hEC Hx.out,← hj]
  exact (Array.getElem?_toList (xs:=#[Value.bool nx,.slice ax dx.length cx])).symm
 case rngy =>
  rw [Nat.zero_add,hEC Hy.out,← hj]
  exact (Array.getElem?_toList (xs:=#[Value.bool ny,.slice ay dy.length cy])).symm
 go_wp2_with fail
 refine (HR.out _ _ (H3.out.step (by (repeat first|exact Fr.refl _ _|assumption|apply Fr.n|apply Fr.d|apply Fr.a|refine Fr.s ?_ (.inr (by simp;try omega)) _))) (by intro P hP;simp [hP])).mono ?_
 rintro e w4 ⟨rfl,h⟩
 have H4:=Lib.hid h
 clear h
 go_wp2
 refine Mid.intro ⟨trivial,Strict.intro rfl ?_⟩
 go_wp2
 go_ret2
 exact⟨rfl,H4.out.swap.drop.swap.drop⟩
end Go.Proofs.YtdanghnadbkhfaaGreat
end
section
namespace Go.Proofs.YtdanghnadbkhfaaGreat
open Go Go.RowKit Rg Mp Hp Qs Ev
set_option maxHeartbeats 4000000 in
set_option maxRecDepth 100000 in
theorem RCentre_q {W w:World} {b:Nat} {s:Int} {ns:List K4} {Ps:List Res} (h:Has W w (refR b s ns::Ps)) (hlen:ns.length<90000) (id:Int) :
  Calls Tryz.prog 28 #[.pointer (some ⟨b,0,none⟩),.int .i64 id] w fun e w' =>
   e=.returned (.tuple #[.int .i64 (centreQ s ns id).1.1,.int .i64 (centreQ s ns id).1.2])∧Has W w' (refR b s (centreQ s ns id).2::Ps):=by
 have hg:=ref_good h
 have HN:=Lib.hid (fun w1 Qs (h1:Has W w1 (refR b s ns::Qs))=>Rknown_q h1 id)
 have HL:=Lib.hid (fun w1 Qs (h1:Has W w1 (refR b s ns::Qs))=>RLevel_has h1 id)
 have HLEN:=Lib.hid hlen
 have H:=Lib.hid h
 unfold knownQ at HN
 unfold centreQ
 by_cases h0:lvl s (levs s ns) id<0
 ·simp only [if_pos h0] at HN ⊢
  clear HL h hg
  go_enter Tryz.func28,Tryz.ntmps28
  go_wp2_with fail
  refine (HN.out _ _ H.out).mono ?_
  rintro e w1 ⟨rfl,hf⟩
  have H1:=Lib.hid (H.out.step hf)
  clear hf H
  go_wp2
  go_ret2
  exact⟨rfl,H1.out⟩
 simp only [if_neg h0] at HN ⊢
 obtain⟨m,hm,hm256,hi⟩:=level_nat hg (id:=id) (by omega)
 rw [hm] at HL h0 ⊢
 by_cases h2:(m:Int)<2
 ·rw [if_pos h2]
  have hd:decide ((m:Int)<2)=true:=by simpa using h2
  clear h hg hi hm h2
  go_enter Tryz.func28,Tryz.ntmps28
  go_wp2_with fail
  refine (HN.out _ _ H.out).mono ?_
  rintro e w1 ⟨rfl,hf⟩
  have H1:=Lib.hid (H.out.step hf)
  clear hf H
  go_wp2_with fail
  refine (HL.out _ _ H1.out).mono ?_
  rintro e w2 ⟨rfl,hf⟩
  have H2:=Lib.hid (H1.out.step hf)
  clear hf H1
  go_wp2
  go_ret2
  exact⟨rfl,H2.out⟩
 rw [if_neg h2]
 have hd:decide ((m:Int)<2)=false:=by simpa using h2
 obtain⟨n,rfl⟩:∃ n,m=n+2:=⟨m - 2,by omega⟩
 obtain⟨_,_,hk⟩:=hi.node hg
 have HKO:=Lib.hid (kids_is hg hi)
 obtain⟨kk,hkk⟩:∃ kk,nodeOf s ns id=kk:=⟨_,rfl⟩
 rw [hkk] at hk HKO ⊢
 have HKI:=Lib.hid (fun w1 Qs (h1:Has W w1 (refR b s ns::Qs))=>RKids_has h1 id)
 have HKQ:=Lib.hid (show ∀ q,q<4→∀ x,kk.get q=x→∀ w1 Qs,Has W w1 (refR b s ns::Qs)→Calls Tryz.prog 44 #[.pointer (some ⟨b,0,none⟩),.int .i64 x] w1 fun e w'=>e=.returned (.tuple #[.agg #[.int .i64 (nodeOf s ns x).a,.int .i64 (nodeOf s ns x).b,.int .i64 (nodeOf s ns x).c,.int .i64 (nodeOf s ns x).d],.bool true])∧Fr [] w1 w' from by
  rintro q hq x rfl w1 Qs h1
  have h3:=RKids_has h1 (kk.get q)
  rw [kids_is hg (hk q hq)] at h3
  exact h3)
 clear h hg hi hm h2 hk h0 hkk
 go_enter Tryz.func28,Tryz.ntmps28
 go_wp2_with fail
 refine (HN.out _ _ H.out).mono ?_
 rintro e w1 ⟨rfl,hf⟩
 have H1:=Lib.hid (H.out.step hf)
 clear hf H
 go_wp2_with fail
 refine (HL.out _ _ H1.out).mono ?_
 rintro e w2 ⟨rfl,hf⟩
 have H2:=Lib.hid (H1.out.step hf)
 clear hf H1
 go_wp2_with fail
 refine (HKI.out _ _ H2.out).mono ?_
 rw [HKO.out]
 simp only [kv]
 rintro e w3 ⟨rfl,hf⟩
 have H3:=Lib.hid (H2.out.step hf)
 clear hf H2
 go_wp2_with fail
 have h:=(hAL H3.out #[.int .i64 kk.a,.int .i64 kk.b,.int .i64 kk.c,.int .i64 kk.d] 81).swap
 obtain⟨kb,hkb⟩:∃ x,w3.heap.size=x:=⟨_,rfl⟩
 rw [hkb] at h ⊢
 refine (HKQ.out 0 (by omega) kk.a rfl _ _ h).mono ?_
 rintro e w4 ⟨rfl,hf⟩
 have h:=h.step hf
 clear hkb H3 hf 
 have k1:=hEC (h.ord 2 [1]).blk 1
 have k2:=hEC (h.ord 2 [1]).blk 2
 have k3:=hEC (h.ord 2 [1]).blk 3
 have kl:=lBk (h.ord 2 [1]).blk
 have H4:=Lib.hid h
 clear h
 go_wp2_with fail
 have h:=(hAL H4.out #[.int .i64 (nodeOf s ns kk.a).a,.int .i64 (nodeOf s ns kk.a).b,.int .i64 (nodeOf s ns kk.a).c,.int .i64 (nodeOf s ns kk.a).d] 81).swap
 obtain⟨ab,hab⟩:∃ x,w4.heap.size=x:=⟨_,rfl⟩
 rw [hab] at h ⊢
 refine (HKQ.out 1 (by omega) kk.b rfl _ _ h).mono ?_
 rintro e w5 ⟨rfl,hf⟩
 have h:=h.step hf
 clear hab H4 hf k1 k2 k3 kl
 have k2:=hEC (h.ord 3 [2]).blk 2
 have k3:=hEC (h.ord 3 [2]).blk 3
 have kl:=lBk (h.ord 3 [2]).blk
 have H5:=Lib.hid h
 clear h
 go_wp2_with fail
 have h:=(hAL H5.out #[.int .i64 (nodeOf s ns kk.b).a,.int .i64 (nodeOf s ns kk.b).b,.int .i64 (nodeOf s ns kk.b).c,.int .i64 (nodeOf s ns kk.b).d] 81).swap
 obtain⟨bb,hbb⟩:∃ x,w5.heap.size=x:=⟨_,rfl⟩
 rw [hbb] at h ⊢
 refine (HKQ.out 2 (by omega) kk.c rfl _ _ h).mono ?_
 rintro e w6 ⟨rfl,hf⟩
 have h:=h.step hf
 clear hbb H5 hf k2 k3 kl
 have k3:=hEC (h.ord 4 [3]).blk 3
 have kl:=lBk (h.ord 4 [3]).blk
 have H6:=Lib.hid h
 clear h
 go_wp2_with fail
 have h:=(hAL H6.out #[.int .i64 (nodeOf s ns kk.c).a,.int .i64 (nodeOf s ns kk.c).b,.int .i64 (nodeOf s ns kk.c).c,.int .i64 (nodeOf s ns kk.c).d] 81).swap
 obtain⟨cb,hcb⟩:∃ x,w6.heap.size=x:=⟨_,rfl⟩
 rw [hcb] at h ⊢
 refine (HKQ.out 3 (by omega) kk.d rfl _ _ h).mono ?_
 rintro e w7 ⟨rfl,hf⟩
 have h:=h.step hf
 clear hcb H6 hf k3 kl
 have a3:=hEC (h.ord 5 [3]).blk 3
 have al:=lBk (h.ord 5 [3]).blk
 have b2:=hEC (h.ord 5 [2]).blk 2
 have bl:=lBk (h.ord 5 [2]).blk
 have c1:=hEC (h.ord 5 [1]).blk 1
 have cl:=lBk (h.ord 5 [1]).blk
 have H7:=Lib.hid h
 clear h
 go_wp2_with fail
 have h:=(hAL H7.out #[.int .i64 (nodeOf s ns kk.d).a,.int .i64 (nodeOf s ns kk.d).b,.int .i64 (nodeOf s ns kk.d).c,.int .i64 (nodeOf s ns kk.d).d] 81).swap
 refine (RJoin_has h HLEN.out ⟨(nodeOf s ns kk.a).d,(nodeOf s ns kk.b).c,(nodeOf s ns kk.c).b,(nodeOf s ns kk.d).a⟩).mono ?_
 rintro e w9 ⟨rfl,h1⟩
 have HF:=Lib.hid h1
 clear h1 h
 go_wp2
 go_ret2
 exact⟨rfl,HF.out.swap.drop.swap.drop.swap.drop.swap.drop.swap.drop⟩
end Go.Proofs.YtdanghnadbkhfaaGreat
end
section
namespace Go.Proofs.YtdanghnadbkhfaaGreat
open Go Go.RowKit Rg Mp Hp Qs Ev
theorem kr_room {f:List K4→Nat→(Int×Int)×List K4} (hf:∀ ms k,(f ms k).2.length≤ms.length+1):∀ (k:Nat) (ns:List K4),(kr f k ns).2.2.length≤ns.length+k
 | 0,ns=>Nat.le_refl _
 | k+1,ns=>by
  have h1:=kr_room hf k ns
  have h2:=hf (kr f k ns).2.2 k
  rw [kr]
  split
  ·omega
  ·split
   ·simp only;omega
   ·simp only;omega
set_option maxHeartbeats 8000000 in
set_option maxRecDepth 100000 in
theorem RExpand_q {W w:World} {b:Nat} {s:Int} {ns:List K4} {Ps:List Res} (h:Has W w (refR b s ns::Ps)) (hlen:ns.length+300≤90000) (id:Int) :
  Calls Tryz.prog 30 #[.pointer (some ⟨b,0,none⟩),.int .i64 id] w fun e w' =>
   e=.returned (.tuple #[.int .i64 (expandQ s ns id).1.1,.int .i64 (expandQ s ns id).1.2])∧Has W w' (refR b s (expandQ s ns id).2::Ps):=by
 have hg:=ref_good h
 have HN:=Lib.hid (fun w1 Qs (h1:Has W w1 (refR b s ns::Qs))=>Rknown_q h1 id)
 have HL:=Lib.hid (fun w1 Qs (h1:Has W w1 (refR b s ns::Qs))=>RLevel_has h1 id)
 have H:=Lib.hid h
 unfold knownQ at HN
 unfold expandQ
 by_cases h0:lvl s (levs s ns) id<0
 ·simp only [if_pos h0] at HN ⊢
  clear HL h hg
  go_enter Tryz.func30,Tryz.ntmps30
  go_wp2_with fail
  refine (HN.out _ _ H.out).mono ?_
  rintro e w1 ⟨rfl,hf⟩
  have H1:=Lib.hid (H.out.step hf)
  clear hf H
  go_wp2
  go_ret2
  exact⟨rfl,H1.out⟩
 simp only [if_neg h0] at HN ⊢
 obtain⟨m,hm,hm256,hi⟩:=level_nat hg (id:=id) (by omega)
 obtain⟨L9,hL9⟩:∃ L9:Int,(m:Int)=L9:=⟨_,rfl⟩
 rw [hm,hL9] at HL h0 ⊢
 by_cases h1:L9<1
 ·rw [if_pos (.inl h1)]
  have hd:decide (L9<1)=true:=by simpa using h1
  clear h hg hi hm h1 hL9
  go_enter Tryz.func30,Tryz.ntmps30
  go_wp2_with fail
  refine (HN.out _ _ H.out).mono ?_
  rintro e w1 ⟨rfl,hf⟩
  have H1:=Lib.hid (H.out.step hf)
  clear hf H
  go_wp2_with fail
  refine (HL.out _ _ H1.out).mono ?_
  rintro e w2 ⟨rfl,hf⟩
  have H2:=Lib.hid (H1.out.step hf)
  clear hf H1
  go_wp2
  go_ret2
  exact⟨rfl,H2.out⟩
 have hd:decide (L9<1)=false:=by simpa using h1
 by_cases h2:256≤L9
 ·rw [if_pos (.inr h2)]
  have hd2:(L9 == 256)=true:=by rw [beq_iff_eq];omega
  clear h hg hi hm h1 h2 hL9
  go_enter Tryz.func30,Tryz.ntmps30
  go_wp2_with fail
  refine (HN.out _ _ H.out).mono ?_
  rintro e w1 ⟨rfl,hf⟩
  have H1:=Lib.hid (H.out.step hf)
  clear hf H
  go_wp2_with fail
  refine (HL.out _ _ H1.out).mono ?_
  rintro e w2 ⟨rfl,hf⟩
  have H2:=Lib.hid (H1.out.step hf)
  clear hf H1
  go_wp2
  go_ret2
  exact⟨rfl,H2.out⟩
 have hd2:(L9 == 256)=false:=by rw [beq_eq_false_iff_ne];omega
 rw [if_neg (by omega)]
 obtain⟨L8,hL8⟩:∃ L8:Int,L9 - 1=L8:=⟨_,rfl⟩
 have hL1:IntKind.i64.wrap (L9 - 1)=L8:=by rw [hL8];exact IntWalk.i64_in _ (by omega)
 rw [hL8]
 obtain⟨⟨o,eo⟩,no,hE⟩:∃ (r:Int×Int) (no:List K4),emptyQ s ns L8=(r,no):=⟨_,_,rfl⟩
 have HE:=Lib.hid (fun w1 Qs (h1:Has W w1 (refR b s ns::Qs))=>REmpty_has h1 (by omega) L8)
 rw [hE] at HE ⊢
 simp only at HE ⊢
 obtain⟨n,hnm⟩:∃ n,m=n+1:=⟨m - 1,by omega⟩
 have hpre:ns <+: no∧no.length≤ns.length+n:=by
  have:=emptyQ_grows (s:=s) (ns:=ns) n
  rw [show L8=((n:Nat):Int) by omega] at hE
  rw [hE] at this
  exact this
 by_cases heo:eo=0
 case neg =>
  rw [if_pos heo]
  have hb:(eo != 0)=true:=by simpa using heo
  clear h hg hi hm h1 h2 hE h0 hL9 hL8 hnm hpre
  go_enter Tryz.func30,Tryz.ntmps30
  go_wp2_with fail
  refine (HN.out _ _ H.out).mono ?_
  rintro e w1 ⟨rfl,hf⟩
  have H1:=Lib.hid (H.out.step hf)
  clear hf H
  go_wp2_with fail
  refine (HL.out _ _ H1.out).mono ?_
  rintro e w2 ⟨rfl,hf⟩
  have H2:=Lib.hid (H1.out.step hf)
  clear hf H1
  go_wp2_with fail
  refine (HE.out _ _ H2.out).mono ?_
  rintro e w3 ⟨rfl,h⟩
  have H3:=Lib.hid h
  clear h
  go_wp2
  go_ret2
  exact⟨rfl,H3.out⟩
 subst heo
 rw [if_neg (by simp)]
 have hb:((0:Int) != 0)=false:=rfl
 rw [hnm] at hi
 have hi':=hi.grow hpre.1
 have hnode:nodeOf s no id=nodeOf s ns id:=by
  obtain⟨i,k,rfl,hk,_⟩:=hi.kids hg
  obtain⟨xs,rfl⟩:=hpre.1
  have hlt:=(List.getElem?_eq_some_iff.1 hk).1
  unfold nodeOf
  rw [List.getD_eq_getElem?_getD,List.getD_eq_getElem?_getD,List.getElem?_append_left (by omega)]
 have HKI:=Lib.hid (fun w1 Qs (h1:Has W w1 (refR b s no::Qs))=>(by
  have h3:=RKids_has h1 id
  rw [kids_is (ref_good h1) hi',hnode] at h3
  exact h3:Calls Tryz.prog 44 #[.pointer (some ⟨b,0,none⟩),.int .i64 id] w1 fun e w'=>e=.returned (.tuple #[kv (nodeOf s ns id),.bool true])∧Fr [] w1 w'))
 obtain⟨kk,hkk⟩:∃ kk,nodeOf s ns id=kk:=⟨_,rfl⟩
 rw [hkk] at HKI ⊢
 simp only [kv] at HKI
 have HROOM:=Lib.hid (show ∀ q,q<5→(kr (fun ms k=>join s ms (cornerK o (kk.get k) (3 - k))) q no).2.2.length<90000 from fun q hq=>by
  have:=kr_room (f:=fun ms k=>join s ms (cornerK o (kk.get k) (3 - k))) (fun ms k=>join_len s ms _) q no
  omega)
 clear h hg hi hm h1 h2 hE h0 hi' hnode hpre hnm hkk hL9 hL8 hlen
 go_enter Tryz.func30,Tryz.ntmps30
 go_wp2_with fail
 refine (HN.out _ _ H.out).mono ?_
 rintro e w1 ⟨rfl,hf⟩
 have H1:=Lib.hid (H.out.step hf)
 clear hf H
 go_wp2_with fail
 refine (HL.out _ _ H1.out).mono ?_
 rintro e w2 ⟨rfl,hf⟩
 have H2:=Lib.hid (H1.out.step hf)
 clear hf H1
 go_wp2_with fail
 refine (HE.out _ _ H2.out).mono ?_
 rintro e w3 ⟨rfl,h⟩
 have H3:=Lib.hid h
 clear h H2
 go_wp2_with fail
 refine (HKI.out _ _ H3.out).mono ?_
 rintro e w4 ⟨rfl,hf⟩
 have h:=(hAL (hAL (H3.out.step hf) #[.int .i64 kk.a,.int .i64 kk.b,.int .i64 kk.c,.int .i64 kk.d] 81) #[.int .i64 0,.int .i64 0,.int .i64 0,.int .i64 0] 81).third
 rw [show (w4.alloc (.cells #[.int .i64 kk.a,.int .i64 kk.b,.int .i64 kk.c,.int .i64 kk.d] 81)).heap.size=w4.heap.size+1 by simp] at h
 have H4:=Lib.hid h
 clear h hf H3
 obtain⟨kb,hkb⟩:∃ x,w4.heap.size=x:=⟨_,rfl⟩
 go_wp2
 rw [hkb] at H4
 obtain⟨nb,hnb⟩:∃ x,kb+1=x:=⟨_,rfl⟩
 rw [hnb] at H4 ⊢
 clear hkb hnb
 go_loopw [13] (fun x wr=>∃ z:Int,x=.int .i64 z∧At5 (fun k=>∃ ids ms,kr (fun ms k=>join s ms (cornerK o (kk.get k) (3 - k))) k no=(0,ids,ms)∧Has W wr (refR b s ms::Hp.blk nb (.cells (iv (mixL ⟨0,0,0,0⟩ ids)).toArray 81 (0,0))::Hp.blk kb (.cells #[.int .i64 kk.a,.int .i64 kk.b,.int .i64 kk.c,.int .i64 kk.d] 81 (0,0))::Ps)) z) (fun x _=>4 - (intOf x).toNat)
 case atStart=>exact⟨0,rfl,.inl ⟨rfl,[],no,rfl,H4.out⟩⟩
 case round =>
  obtain⟨z,rfl,hz⟩:=hrel
  clear H4
  rcases hz with ⟨rfl,hz⟩|⟨rfl,hz⟩|⟨rfl,hz⟩|⟨rfl,hz⟩|⟨rfl,hz⟩
  ·
   obtain⟨ids,ms,hkr,h⟩:=hz
   have hl:=kr_len hkr
   obtain rfl:=List.length_eq_zero_iff.1 hl
   have Hkr:=Lib.hid hkr
   have HMS:=Lib.hid (show ms.length<90000 from by have h9:=HROOM.out 0 (by omega);rw [hkr] at h9;exact h9)
   have c0:_=some (Value.int .i64 (kk.get 0)):=(hCE (h.ord 3 [2])).1 0
   have cl:=(hCE (h.ord 3 [2])).2.2
   have n0:=(hCE h.swap).2.1 0
   have nl:=(hCE h.swap).2.2
   have H:=Lib.hid h
   clear h hkr hl
   go_wp2_with fail
   refine (RJoin_has (hAL H.out #[.int .i64 o,.int .i64 o,.int .i64 o,.int .i64 (kk.get 0)] 81).swap HMS.out ⟨o,o,o,kk.get 0⟩).mono ?_
   obtain⟨id5,e5,ms5,hj⟩:∃ id5 e5 ms5,join s ms (cornerK o (kk.get 0) (3 - 0))=((id5,e5),ms5):=⟨_,_,_,rfl⟩
   rintro e w5 ⟨rfl,h1⟩
   rw [show (⟨o,o,o,kk.get 0⟩:K4)=cornerK o (kk.get 0) (3 - 0) from rfl,hj] at h1 ⊢
   have h1:=h1.swap.drop
   clear c0 cl n0 nl
   have nc:_=some (Value.int .i64 0):=(hCE h1.swap).1 0
   have nz:=(hCE h1.swap).2.1 0
   have nl:=(hCE h1.swap).2.2
   by_cases he5:e5=0
   ·subst he5
    have hb5:((0:Int) != 0)=false:=rfl
    have Hkr5:=Lib.hid (kr_ok Hkr.out (show (fun ms k=>join s ms (cornerK o (kk.get k) (3 - k))) ms 0=((id5,0),ms5) from hj))
    have H5:=Lib.hid h1
    clear h1 hj
    go_wp2
    go_roundw
    case rel=>exact⟨1,rfl,(.inr (.inl ⟨rfl,_,_,Hkr5.out,(hST H5.out.swap 0 _).swap⟩))⟩
    case measure=>simp [intOf]
   ·have hb5:(e5 != 0)=true:=by simpa using he5
    have HF5:=Lib.hid (fin4_bad (s:=s) (by omega) Hkr.out (show (fun ms k=>join s ms (cornerK o (kk.get k) (3 - k))) ms 0=((id5,e5),ms5) from hj) he5)
    have H5:=Lib.hid h1
    clear h1 hj he5
    go_wp2
    go_ret2
    rw [HF5.out]
    exact⟨rfl,H5.out.swap.drop.swap.drop⟩
  ·
   obtain⟨ids,ms,hkr,h⟩:=hz
   have hl:=kr_len hkr
   obtain⟨i0,rfl⟩:=List.length_eq_one_iff.1 hl
   have Hkr:=Lib.hid hkr
   have HMS:=Lib.hid (show ms.length<90000 from by have h9:=HROOM.out 1 (by omega);rw [hkr] at h9;exact h9)
   have c0:_=some (Value.int .i64 (kk.get 1)):=(hCE (h.ord 3 [2])).1 1
   have cl:=(hCE (h.ord 3 [2])).2.2
   have n0:=(hCE h.swap).2.1 1
   have nl:=(hCE h.swap).2.2
   have H:=Lib.hid h
   clear h hkr hl
   go_wp2_with fail
   refine (RJoin_has (hAL H.out #[.int .i64 o,.int .i64 o,.int .i64 (kk.get 1),.int .i64 o] 81).swap HMS.out ⟨o,o,kk.get 1,o⟩).mono ?_
   obtain⟨id5,e5,ms5,hj⟩:∃ id5 e5 ms5,join s ms (cornerK o (kk.get 1) (3 - 1))=((id5,e5),ms5):=⟨_,_,_,rfl⟩
   rintro e w5 ⟨rfl,h1⟩
   rw [show (⟨o,o,kk.get 1,o⟩:K4)=cornerK o (kk.get 1) (3 - 1) from rfl,hj] at h1 ⊢
   have h1:=h1.swap.drop
   clear c0 cl n0 nl
   have nc:_=some (Value.int .i64 0):=(hCE h1.swap).1 1
   have nz:=(hCE h1.swap).2.1 1
   have nl:=(hCE h1.swap).2.2
   by_cases he5:e5=0
   ·subst he5
    have hb5:((0:Int) != 0)=false:=rfl
    have Hkr5:=Lib.hid (kr_ok Hkr.out (show (fun ms k=>join s ms (cornerK o (kk.get k) (3 - k))) ms 1=((id5,0),ms5) from hj))
    have H5:=Lib.hid h1
    clear h1 hj
    go_wp2
    go_roundw
    case rel=>exact⟨2,rfl,(.inr (.inr (.inl ⟨rfl,_,_,Hkr5.out,(hST H5.out.swap 1 _).swap⟩)))⟩
    case measure=>simp [intOf]
   ·have hb5:(e5 != 0)=true:=by simpa using he5
    have HF5:=Lib.hid (fin4_bad (s:=s) (by omega) Hkr.out (show (fun ms k=>join s ms (cornerK o (kk.get k) (3 - k))) ms 1=((id5,e5),ms5) from hj) he5)
    have H5:=Lib.hid h1
    clear h1 hj he5
    go_wp2
    go_ret2
    rw [HF5.out]
    exact⟨rfl,H5.out.swap.drop.swap.drop⟩
  ·
   obtain⟨ids,ms,hkr,h⟩:=hz
   have hl:=kr_len hkr
   obtain⟨i0,i1,rfl⟩:=len2 hl
   have Hkr:=Lib.hid hkr
   have HMS:=Lib.hid (show ms.length<90000 from by have h9:=HROOM.out 2 (by omega);rw [hkr] at h9;exact h9)
   have c0:_=some (Value.int .i64 (kk.get 2)):=(hCE (h.ord 3 [2])).1 2
   have cl:=(hCE (h.ord 3 [2])).2.2
   have n0:=(hCE h.swap).2.1 2
   have nl:=(hCE h.swap).2.2
   have H:=Lib.hid h
   clear h hkr hl
   go_wp2_with fail
   refine (RJoin_has (hAL H.out #[.int .i64 o,.int .i64 (kk.get 2),.int .i64 o,.int .i64 o] 81).swap HMS.out ⟨o,kk.get 2,o,o⟩).mono ?_
   obtain⟨id5,e5,ms5,hj⟩:∃ id5 e5 ms5,join s ms (cornerK o (kk.get 2) (3 - 2))=((id5,e5),ms5):=⟨_,_,_,rfl⟩
   rintro e w5 ⟨rfl,h1⟩
   rw [show (⟨o,kk.get 2,o,o⟩:K4)=cornerK o (kk.get 2) (3 - 2) from rfl,hj] at h1 ⊢
   have h1:=h1.swap.drop
   clear c0 cl n0 nl
   have nc:_=some (Value.int .i64 0):=(hCE h1.swap).1 2
   have nz:=(hCE h1.swap).2.1 2
   have nl:=(hCE h1.swap).2.2
   by_cases he5:e5=0
   ·subst he5
    have hb5:((0:Int) != 0)=false:=rfl
    have Hkr5:=Lib.hid (kr_ok Hkr.out (show (fun ms k=>join s ms (cornerK o (kk.get k) (3 - k))) ms 2=((id5,0),ms5) from hj))
    have H5:=Lib.hid h1
    clear h1 hj
    go_wp2
    go_roundw
    case rel=>exact⟨3,rfl,(.inr (.inr (.inr (.inl ⟨rfl,_,_,Hkr5.out,(hST H5.out.swap 2 _).swap⟩))))⟩
    case measure=>simp [intOf]
   ·have hb5:(e5 != 0)=true:=by simpa using he5
    have HF5:=Lib.hid (fin4_bad (s:=s) (by omega) Hkr.out (show (fun ms k=>join s ms (cornerK o (kk.get k) (3 - k))) ms 2=((id5,e5),ms5) from hj) he5)
    have H5:=Lib.hid h1
    clear h1 hj he5
    go_wp2
    go_ret2
    rw [HF5.out]
    exact⟨rfl,H5.out.swap.drop.swap.drop⟩
  ·
   obtain⟨ids,ms,hkr,h⟩:=hz
   have hl:=kr_len hkr
   obtain⟨i0,i1,i2,rfl⟩:=len3 hl
   have Hkr:=Lib.hid hkr
   have HMS:=Lib.hid (show ms.length<90000 from by have h9:=HROOM.out 3 (by omega);rw [hkr] at h9;exact h9)
   have c0:_=some (Value.int .i64 (kk.get 3)):=(hCE (h.ord 3 [2])).1 3
   have cl:=(hCE (h.ord 3 [2])).2.2
   have n0:=(hCE h.swap).2.1 3
   have nl:=(hCE h.swap).2.2
   have H:=Lib.hid h
   clear h hkr hl
   go_wp2_with fail
   refine (RJoin_has (hAL H.out #[.int .i64 (kk.get 3),.int .i64 o,.int .i64 o,.int .i64 o] 81).swap HMS.out ⟨kk.get 3,o,o,o⟩).mono ?_
   obtain⟨id5,e5,ms5,hj⟩:∃ id5 e5 ms5,join s ms (cornerK o (kk.get 3) (3 - 3))=((id5,e5),ms5):=⟨_,_,_,rfl⟩
   rintro e w5 ⟨rfl,h1⟩
   rw [show (⟨kk.get 3,o,o,o⟩:K4)=cornerK o (kk.get 3) (3 - 3) from rfl,hj] at h1 ⊢
   have h1:=h1.swap.drop
   clear c0 cl n0 nl
   have nc:_=some (Value.int .i64 0):=(hCE h1.swap).1 3
   have nz:=(hCE h1.swap).2.1 3
   have nl:=(hCE h1.swap).2.2
   by_cases he5:e5=0
   ·subst he5
    have hb5:((0:Int) != 0)=false:=rfl
    have Hkr5:=Lib.hid (kr_ok Hkr.out (show (fun ms k=>join s ms (cornerK o (kk.get k) (3 - k))) ms 3=((id5,0),ms5) from hj))
    have H5:=Lib.hid h1
    clear h1 hj
    go_wp2
    go_roundw
    case rel=>exact⟨4,rfl,(.inr (.inr (.inr (.inr ⟨rfl,_,_,Hkr5.out,(hST H5.out.swap 3 _).swap⟩))))⟩
    case measure=>simp [intOf]
   ·have hb5:(e5 != 0)=true:=by simpa using he5
    have HF5:=Lib.hid (fin4_bad (s:=s) (by omega) Hkr.out (show (fun ms k=>join s ms (cornerK o (kk.get k) (3 - k))) ms 3=((id5,e5),ms5) from hj) he5)
    have H5:=Lib.hid h1
    clear h1 hj he5
    go_wp2
    go_ret2
    rw [HF5.out]
    exact⟨rfl,H5.out.swap.drop.swap.drop⟩
  ·obtain⟨ids,ms,hkr,h⟩:=hz
   obtain⟨i0,i1,i2,i3,rfl⟩:=len4 (kr_len hkr)
   have HMS:=Lib.hid (show ms.length<90000 from by have h9:=HROOM.out 4 (by omega);rw [hkr] at h9;exact h9)
   have c0:_=some (Value.int .i64 i0):=(hCE h.swap).1 0
   have c1:_=some (Value.int .i64 i1):=(hCE h.swap).1 1
   have c2:_=some (Value.int .i64 i2):=(hCE h.swap).1 2
   have c3:_=some (Value.int .i64 i3):=(hCE h.swap).1 3
   have cl:=(hCE h.swap).2.2
   have HF:=Lib.hid (fin4_ok (s:=s) hkr)
   have H:=Lib.hid h
   clear h hkr
   go_wp2_with fail
   refine (RJoin_has H.out HMS.out ⟨i0,i1,i2,i3⟩).mono ?_
   rintro e w5 ⟨rfl,h1⟩
   have H5:=Lib.hid h1
   clear h1
   go_wp2
   go_ret2
   rw [HF.out]
   exact⟨rfl,H5.out.swap.drop.swap.drop⟩
end Go.Proofs.YtdanghnadbkhfaaGreat
end
section
namespace Go.Proofs.YtdanghnadbkhfaaGreat
open Go Go.RowKit Rg Mp Hp Qs
set_option maxHeartbeats 1000000 in
theorem Clone_nil (n c:Nat) (w:World) :
  Calls Tryz.prog 71 #[.slice none n c] w fun e w'=>e=.returned (.slice none 0 0)∧w=w':=by
 have h1:=fun w:World=>Lib.run_eql_slice_nil (P:=Tryz.prog) w 22 105 none n c 0 0 Tryz.underlying22
 go_enter Tryz.func71,Tryz.ntmps71
 go_wp2
 go_ret
 exact⟨rfl,rfl⟩
def ClonePost (w:World) (n:Nat) (xs:List Value) (e:Ending) (w':World):Prop:=∃ v,e=.returned v∧w'.ownsRow w.heap.size 105 4 v n xs∧Fr [] w w'
set_option maxHeartbeats 1000000 in
theorem Clone_some (g off n c:Nat) (xs:List Value) (w:World) (hx:xs.length=n*4) (hc:∀ j u,xs[j]?=some u→w.cell? ⟨g,off+j,none⟩=some u) (h1:∀ u∈xs,u.oneCell'=true) (hn:n≤4398046511096) (hg:g<w.heap.size) :
  Calls Tryz.prog 71 #[.slice (some ⟨g,off,none⟩) n c] w (ClonePost w n xs):=by
 have hnil:=fun w:World=>Lib.run_eql_slice_nil (P:=Tryz.prog) w 22 105 (some ⟨g,off,none⟩) n c 0 0 Tryz.underlying22
 obtain⟨i0,hi0,hi1,hi2,hi3⟩:=info_parts info_quad
 have Hx:=Lib.hid hx
 have Hc:=Lib.hid hc
 have H1:=Lib.hid h1
 clear hx hc h1
 go_enter Tryz.func71,Tryz.ntmps71
 go_wp2_with (at_builtin;refine wpList_append_own_at _ rfl _ _ 22 rfl w.heap.size 105 i0 _ 4 32 Tryz.underlying22 hi0 hi1 hi2 hi3 rfl (by decide) _ 0 [] rfl ?e1 ⟨g,off,none⟩ n c xs rfl Hx.out ?e2 H1.out ?e3 ?e4 ?e5 ?_)
 case e1=>exact⟨rfl,.inr ⟨w.heap.size,0,#[],rfl,Nat.le_refl _,by rw [hAC,if_pos rfl],Nat.le_refl _,Nat.zero_le _,rfl,rfl⟩⟩
 case e2 =>
  intro j u hj
  have:=Hc.out j u hj
  have ha:(⟨g,off,none⟩:Addr).add j=⟨g,off+j,none⟩:=by
   unfold Addr.add
   split
   ·rename_i h0;rw [h0];rfl
   ·rfl
  rw [ha,World.cell?_alloc_past _ _ _ hg]
  exact this
 case e3=>unfold maxLen;omega
 case e4=>omega
 case e5=>rw [hAz];omega
 intro v' w1 hown hgrow _ hloc
 try simp only [Nat.zero_add,List.nil_append] at hown
 go_wp2
 go_ret
 exact⟨v',rfl,hown,((Fr.refl _ _).alloc _).grown hgrow (by intro x hx;simp [Value.ownBlock] at hx;omega)⟩
set_option maxHeartbeats 1000000 in
theorem Data_calls {w:World} {b:Nat} {s:Int} {ns:List K4} {F:List Nat} (hS:StoreAt w b s ns F) :
  Calls Tryz.prog 23 #[.pointer (some ⟨b,0,none⟩)] w fun e w'=>∃ v,e=.returned (.agg #[.int .i64 s,v])∧w'.ownsRow w.heap.size 105 4 v ns.length (flat ns)∧Fr [] w w':=by
 obtain⟨hgood,nv,lv,mb,hI,rfl⟩:=hS
 have hC:∀ w1,Fr [] w w1→Calls Tryz.prog 71 #[nv] w1 (ClonePost w1 ns.length (flat ns)):=fun w1 hf=>by
  obtain⟨na,nc,rfl,_,hnone⟩:=oFM hI.nodes
  have hI1:=hI.keep fun x hx=>hf.block x (hI.lt x hx) (by simp)
  rcases hI.nodes.2 with ⟨h,h0⟩|⟨g,cap,cur,h,_⟩
  ·simp only [Value.slice.injEq] at h
   obtain⟨rfl,_,rfl⟩:=h
   refine (Clone_nil _ _ w1).mono ?_
   rintro e w' ⟨rfl,rfl⟩
   have:ns=[]:=List.eq_nil_of_length_eq_zero h0
   subst this
   exact⟨_,rfl,World.ownsRow_nil _ _ _ _,Fr.refl _ _⟩
  ·simp only [Value.slice.injEq] at h
   obtain⟨rfl,_,rfl⟩:=h
   exact Clone_some g 0 ns.length _ _ w1 (flat_length ns) (fun j u hj=>by rw [Nat.zero_add];exact owns_cell hI1.nodes rfl hj) (flat_one ns) (by have:=hgood.2.2.1;omega) (oLT hI1.nodes rfl)
 have h0:=hEC hI.blk 0
 have h1:=hEC hI.blk 1
 have hb:=lBk hI.blk
 have HI:=Lib.hid hI
 clear hI
 obtain⟨na,nc,rfl,_,_⟩:=oFM HI.out.nodes
 go_enter Tryz.func23,Tryz.ntmps23
 go_wp2
 refine wRS [([0,1,2,3,4,5,6,7,8],[3]),([9,10],[])] (by kernel_rfl) (by kernel_rfl) ?_
 simp only [wpSegs,pick,Array.getD_eq_getD_getElem?,List.getElem?_toArray,List.getElem?_cons_succ,List.getElem?_cons_zero,Option.getD_some]
 go_wp2_with fail
 refine (hC _ ?_).mono ?_
 ·repeat (first|exact Fr.refl _ _|apply Fr.drewN|apply Fr.drew|apply Fr.alloc)
 rintro e w1 ⟨v,rfl,hown,hf⟩
 have hfw:Fr [] w w1:=(((Fr.refl _ _).alloc _).drew).trans0 hf
 have c0:w1.cell? ⟨b,0,none⟩=some (.int .i64 s):=(hfw.cell (p:=⟨b,0,none⟩) hb (by simp)).trans h0
 have hl:w1.heap[w.heap.size]?=some (.cells #[.int .i64 0,.slice none 0 0] 24 (0,0)):=(hf.block _ (by rw [hDR,hAz];omega) (by simp)).trans (by rw [hDR,hAC,if_pos rfl])
 have l0:=hEC hl 0
 have l1:=hEC hl 1
 have g0:=hEF hl 0
 have g1:=hEF hl 1
 obtain⟨va,vc,rfl,hva,hvn⟩:=oFM hown
 have hne:(Value.slice va ns.length vc).ownBlock≠some w.heap.size:=fun e=>by
  have:=owns_ge hown e;rw [hDR,hAz] at this;omega
 have Hown:=Lib.hid hown
 have Hne:=Lib.hid hne
 have Hf:=Lib.hid hfw
 have Hl:=Lib.hid hl
 clear hown hva hvn hf hfw hl hne
 go_wp2
 refine Mid.intro ⟨⟨again_cell (T:=3) rfl rfl rfl Tryz.underlying3 rfl c0 rfl,trivial⟩,?_⟩
 go_wp2
 refine Mid.intro ⟨trivial,Strict.intro rfl ?_⟩
 go_wp2
 exact bodyPost_ret (v:=.agg #[.int .i64 s,.slice va ns.length vc]) (by simp [results,Tryz.results23,go_sem,l0,l1]) rfl
  ⟨_,rfl,oOB (base:=w.heap.size) (owns_base Hown.out (by rw [hDR,hAz];omega)) fun x hx=>heap_setCell2 _ _ _ _ _ _ (fun e=>Hne.out (by rw [hx,e])),by repeat (first|exact Hf.out|apply Fr.drewN|apply Fr.drew|apply Fr.alloc|refine Fr.setCell ?_ (Or.inr (by simp)) _)⟩
end Go.Proofs.YtdanghnadbkhfaaGreat
end
section
namespace Go.Proofs.YtdanghnadbkhfaaGreat
open Go Go.RowKit Rg Mp Hp Qs Ev
section
variable {W w:World} {b:Nat} {s:Int} {ns:List K4} {Ps:List Res}
theorem Data_has (h:Has W w (sTR b s ns::Ps)) :
  Calls Tryz.prog 23 #[.pointer (some ⟨b,0,none⟩)] w fun e w'=>∃ a c,e=.returned (.agg #[.int .i64 s,.slice a ns.length c])∧w'.ownsRow w.heap.size 105 4 (.slice a ns.length c) ns.length (flat ns)∧Has W w' (sTR b s ns::Ps)∧Fr [] w w':=by
 obtain⟨F,hS⟩:=h.head
 refine (Data_calls hS).mono ?_
 rintro e w' ⟨v,rfl,ho,hf⟩
 obtain⟨a,c,rfl,_⟩:=oFM ho
 exact⟨a,c,rfl,ho,h.step hf,hf⟩
end
end Go.Proofs.YtdanghnadbkhfaaGreat
end
