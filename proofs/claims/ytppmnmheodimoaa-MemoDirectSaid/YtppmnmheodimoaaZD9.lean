/- Own texts of this claim, part 10: no condition. -/
import Derived.Lib.Hide
import Derived.Test.YtppmnmheodimoaaZD8
import Derived.Test.YtppmnmheodimoaaZD4
import Derived.Test.YtppmnmheodimoaaZD2
set_option linter.unusedVariables false
set_option linter.unusedSimpArgs false
section
namespace Go.Proofs.Ev
open Qs
theorem subs_mk_part {n:Nat} {F:Fld} {x y:Int} {q:Nat} (hq:q<4) {u:Tr} (hu:u∈subs (mk n F (x+(q % 2:Nat)*p2 n) (y+(q / 2:Nat)*p2 n))):u∈subs (mk (n+1) F x y):=by
 show u∈subs (mk n F x y)++subs (mk n F (x+p2 n) y)++subs (mk n F x (y+p2 n))++subs (mk n F (x+p2 n) (y+p2 n))++[_]
 simp only [List.mem_append]
 match q,hq with
 | 0,_=>simp only [Nat.zero_mod,Nat.zero_div,Int.natCast_zero,Int.zero_mul,Int.add_zero] at hu;exact .inl (.inl (.inl (.inl hu)))
 | 1,_=>rw [show ((1 % 2:Nat):Int)*p2 n=p2 n by simp,show ((1 / 2:Nat):Int)*p2 n=0 by simp,Int.add_zero] at hu;exact .inl (.inl (.inl (.inr hu)))
 | 2,_=>rw [show ((2 % 2:Nat):Int)*p2 n=0 by simp,show ((2 / 2:Nat):Int)*p2 n=p2 n by simp,Int.add_zero] at hu;exact .inl (.inl (.inr hu))
 | 3,_=>rw [show ((3 % 2:Nat):Int)*p2 n=p2 n by simp] at hu;exact .inl (.inr hu)
theorem subs_mk_self {n:Nat} {F:Fld} {x y:Int}:mk (n+1) F x y∈subs (mk (n+1) F x y):=by
 show _∈_++[mk (n+1) F x y]
 simp
end Go.Proofs.Ev
namespace Go.Proofs.Ytppmnmheodimoaa
open Go Go.RowKit Rg Mp Hp Qs Ev
def SquarePost (W:World) (r:Rule) (hv nv:Value) (mb sb rb:Nat) (L:List Tr) (ns:List K4) (mm:List ((Int×Int)×Int)) (T:Tr) (n:Nat) (Ps:List Res) (e:Ending) (w':World):Prop :=
 ∃ res ns',e=.returned (.tuple #[.int .i64 res,.int .i64 0])∧Has W w' (memoL r hv nv mb sb rb ns' mm Ps)∧ns <+: ns'∧room r.S ns' L∧Is r.S ns' n res T
def SquareAt (W:World) (r:Rule) (hv nv:Value) (mb sb rb:Nat) (L:List Tr) (mm:List ((Int×Int)×Int)) (ob m:Nat) (bs:List Nat) (F:Fld) (n:Nat):Prop :=
 ∀ (w:World) (Ps:List Res) (ns:List K4) (x y:Nat) (z zx zy:Int),z=n→zx=x→zy=y→Has W w (memoL r hv nv mb sb rb ns mm (matR ob m bs F::Ps))→room r.S ns L→x+2 ^ n≤m→y+2 ^ n≤m →
  (∀ i j:Nat,x≤i→i<x+2 ^ n→y≤j→j<y+2 ^ n→0≤F i j∧F i j<r.S)→(∀ u∈subs (mk n F x y),u∈L) →
  Calls Try.prog 82 #[.pointer (some ⟨mb,0,none⟩),.slice (some ⟨ob,0,none⟩) m m,.int .i64 z,.int .i64 zx,.int .i64 zy] w (SquarePost W r hv nv mb sb rb L ns mm (mk n F x y) n (matR ob m bs F::Ps))
section
variable {W:World} {r:Rule} {hv nv:Value} {mb sb rb:Nat} {L:List Tr} {mm:List ((Int×Int)×Int)} {ob m:Nat} {bs:List Nat} {F:Fld}
theorem squareAt_zero (hm:m≤1000):SquareAt W r hv nv mb sb rb L mm ob m bs F 0:=by
 intro w Ps ns x y z zx zy hz hx hy h hr h1 h2 hF hL
 subst hz
 subst hx
 subst hy
 have hv0:=hF x y (by omega) (by omega) (by omega) (by omega)
 obtain⟨b,hb,c0,c1,cz,cl,ol⟩:=mat_row h.fourth (y:=y) (by omega)
 have c1:=c1 x (by omega)
 have HI:=Lib.hid (Is.leaf (ns:=ns) hv0.1 hv0.2)
 have H:=Lib.hid h
 have HR:=Lib.hid hr
 have h1':x<m:=by omega
 have h2':y<m:=by omega
 clear hv0 h hF hL cz hb hr h1 h2
 go_enter Try.func82,Try.ntmps82
 go_wp2
 go_ret2
 exact⟨F x y,ns,rfl,H.out,List.prefix_refl _,HR.out,HI.out⟩
structure SqSt (W wr:World) (r:Rule) (hv nv:Value) (mb sb rb:Nat) (L:List Tr) (ns0:List K4) (mm:List ((Int×Int)×Int)) (Ps:List Res) (n:Nat) (F:Fld) (x y:Int) (qb:Nat) (ns:List K4) (O:List Int) (m:Nat):Prop where
 has:Has W wr (memoL r hv nv mb sb rb ns mm (Hp.blk qb (.cells (iv O).toArray 75 (0,0))::Ps))
 len:O.length=4
 pre:ns0 <+: ns
 room:Qs.room r.S ns L
 done:∀ j,j<m→Is r.S ns n (O.getD j 0) (mk n F (x+(j % 2:Nat)*p2 n) (y+(j / 2:Nat)*p2 n))
theorem SqSt.put {wr wr':World} {ns0 ns ns':List K4} {Ps:List Res} {n qb k:Nat} {x y:Int} {O:List Int} (h:SqSt W wr r hv nv mb sb rb L ns0 mm Ps n F x y qb ns O k) (hm:k<4) {v:Int} {a b:Int}
  (hh:Has W wr' (memoL r hv nv mb sb rb ns' mm (Hp.blk qb (.cells (iv O).toArray 75 (0,0))::Ps))) (hp:ns <+: ns') (hr:Qs.room r.S ns' L) (hv':Is r.S ns' n v (Go.Proofs.Ev.mk n F a b)) (ha:a=x+(k % 2:Nat)*p2 n) (hb:b=y+(k / 2:Nat)*p2 n) :
  SqSt W (wr'.setCell ⟨qb,k,none⟩ (.int .i64 v)) r hv nv mb sb rb L ns0 mm Ps n F x y qb ns' (O.set k v) (k+1) where
 has:=by
  have:=(hST hh.fourth k (.int .i64 v)).back4
  rwa [iv_setIf] at this
 len:=by rw [List.length_set];exact h.len
 pre:=h.pre.trans hp
 room:=hr
 done:=fun j hj=>by
  by_cases e:j=k
  ·subst e
   rw [getD_set_same (by rw [h.len];exact hm),← ha,← hb]
   exact hv'
  ·rw [getD_set_else e]
   exact (h.done j (by omega)).grow hp
set_option maxHeartbeats 8000000 in
set_option maxRecDepth 100000 in
theorem squareAt_one (hm:m≤1000) (ih:SquareAt W r hv nv mb sb rb L mm ob m bs F 0):SquareAt W r hv nv mb sb rb L mm ob m bs F (0+1):=by
 intro w Ps ns x y z zx zy hz hx hy h hr h1 h2 hFF hL
 obtain rfl:z=1:=by rw [hz];rfl
 subst hx
 subst hy
 simp only [show (2:Nat) ^ (0+1)=2 by decide] at h1 h2 hFF
 have HFF:=Lib.hid hFF
 have HSUB:=Lib.hid hL
 have HSELF:=Lib.hid (hL _ subs_mk_self)
 have H:=Lib.hid h
 have HR:=Lib.hid hr
 clear h hz hr hFF hL
 go_enter Try.func82,Try.ntmps82
 go_wp2
 obtain⟨qb,hqb⟩:∃ qb,w.heap.size=qb:=⟨_,rfl⟩
 have h0:=(hAL H.out #[.int .i64 0,.int .i64 0,.int .i64 0,.int .i64 0] 75).back4
 rw [hqb] at h0 ⊢
 have H0:=Lib.hid h0
 clear h0 hqb H
 go_loopw [29] (fun x' wr=>∃ z:Int,x'=.int .i64 z∧At5 (fun q=>∃ ns' O,SqSt W wr r hv nv mb sb rb L ns mm (matR ob m bs F::Ps) 0 F x y qb ns' O q) z) (fun x _=>4 - (intOf x).toNat)
 case atStart=>exact⟨0,rfl,.inl ⟨rfl,ns,[0,0,0,0],⟨H0.out,rfl,List.prefix_refl _,HR.out,fun j hj=>by omega⟩⟩⟩
 case round =>
  obtain⟨z,rfl,hz⟩:=hrel
  clear H0
  rcases hz with ⟨rfl,ns2,O,hs⟩|⟨rfl,ns2,O,hs⟩|⟨rfl,ns2,O,hs⟩|⟨rfl,ns2,O,hs⟩|⟨rfl,ns2,O,hs⟩
  ·
   obtain⟨_,_,_,m3,_,_,ml⟩:=memo_cells hs.has
   have HS:=Lib.hid hs
   have HC:=Lib.hid (fun (z zx zy:Int) (e1:z=((0:Nat):Int)) (e2:zx=((x+0 % 2*2 ^ 0:Nat):Int)) (e3:zy=((y+0 / 2*2 ^ 0:Nat):Int))=>ih _ _ _ _ _ z zx zy e1 e2 e3 hs.has.fifth hs.room (by omega) (by omega) (fun i j a b c d=>HFF.out i j (by omega) (by omega) (by omega) (by omega)) (fun u hu=>HSUB.out u (subs_mk_part (q:=0) (by omega) (by simpa [p2] using hu))))
   clear hs
   go_wp2_with fail
   refine (HC.out _ _ _ (by omega) (by simp;try omega) (by simp;try omega)).mono ?_
   rintro e w6 ⟨res,ns4,rfl,g1,g2,g3,g4⟩
   have g1:=g1.fifth
   have hc:=blk_cell g1.fourth (j:=0) (by have:=HS.out.len;omega)
   have hz:=(hCE g1.fourth).2.1 0
   have hl:=(hCE g1.fourth).2.2
   have HF:=Lib.hid (HS.out.put (by omega) g1 g2 g3 g4 (by simp [p2]) (by simp [p2]))
   clear HC g1 g2 g3 g4 m3 ml
   go_wp2
   go_roundw
   case rel=>exact⟨1,rfl,(.inr (.inl ⟨rfl,_,_,HF.out⟩))⟩
   case measure=>simp [intOf]
  ·
   obtain⟨_,_,_,m3,_,_,ml⟩:=memo_cells hs.has
   have HS:=Lib.hid hs
   have HC:=Lib.hid (fun (z zx zy:Int) (e1:z=((0:Nat):Int)) (e2:zx=((x+1 % 2*2 ^ 0:Nat):Int)) (e3:zy=((y+1 / 2*2 ^ 0:Nat):Int))=>ih _ _ _ _ _ z zx zy e1 e2 e3 hs.has.fifth hs.room (by omega) (by omega) (fun i j a b c d=>HFF.out i j (by omega) (by omega) (by omega) (by omega)) (fun u hu=>HSUB.out u (subs_mk_part (q:=1) (by omega) (by simpa [p2] using hu))))
   clear hs
   go_wp2_with fail
   refine (HC.out _ _ _ (by omega) (by simp;try omega) (by simp;try omega)).mono ?_
   rintro e w6 ⟨res,ns4,rfl,g1,g2,g3,g4⟩
   have g1:=g1.fifth
   have hc:=blk_cell g1.fourth (j:=1) (by have:=HS.out.len;omega)
   have hz:=(hCE g1.fourth).2.1 1
   have hl:=(hCE g1.fourth).2.2
   have HF:=Lib.hid (HS.out.put (by omega) g1 g2 g3 g4 (by simp [p2]) (by simp [p2]))
   clear HC g1 g2 g3 g4 m3 ml
   go_wp2
   go_roundw
   case rel=>exact⟨2,rfl,(.inr (.inr (.inl ⟨rfl,_,_,HF.out⟩)))⟩
   case measure=>simp [intOf]
  ·
   obtain⟨_,_,_,m3,_,_,ml⟩:=memo_cells hs.has
   have HS:=Lib.hid hs
   have HC:=Lib.hid (fun (z zx zy:Int) (e1:z=((0:Nat):Int)) (e2:zx=((x+2 % 2*2 ^ 0:Nat):Int)) (e3:zy=((y+2 / 2*2 ^ 0:Nat):Int))=>ih _ _ _ _ _ z zx zy e1 e2 e3 hs.has.fifth hs.room (by omega) (by omega) (fun i j a b c d=>HFF.out i j (by omega) (by omega) (by omega) (by omega)) (fun u hu=>HSUB.out u (subs_mk_part (q:=2) (by omega) (by simpa [p2] using hu))))
   clear hs
   go_wp2_with fail
   refine (HC.out _ _ _ (by omega) (by simp;try omega) (by simp;try omega)).mono ?_
   rintro e w6 ⟨res,ns4,rfl,g1,g2,g3,g4⟩
   have g1:=g1.fifth
   have hc:=blk_cell g1.fourth (j:=2) (by have:=HS.out.len;omega)
   have hz:=(hCE g1.fourth).2.1 2
   have hl:=(hCE g1.fourth).2.2
   have HF:=Lib.hid (HS.out.put (by omega) g1 g2 g3 g4 (by simp [p2]) (by simp [p2]))
   clear HC g1 g2 g3 g4 m3 ml
   go_wp2
   go_roundw
   case rel=>exact⟨3,rfl,(.inr (.inr (.inr (.inl ⟨rfl,_,_,HF.out⟩))))⟩
   case measure=>simp [intOf]
  ·
   obtain⟨_,_,_,m3,_,_,ml⟩:=memo_cells hs.has
   have HS:=Lib.hid hs
   have HC:=Lib.hid (fun (z zx zy:Int) (e1:z=((0:Nat):Int)) (e2:zx=((x+3 % 2*2 ^ 0:Nat):Int)) (e3:zy=((y+3 / 2*2 ^ 0:Nat):Int))=>ih _ _ _ _ _ z zx zy e1 e2 e3 hs.has.fifth hs.room (by omega) (by omega) (fun i j a b c d=>HFF.out i j (by omega) (by omega) (by omega) (by omega)) (fun u hu=>HSUB.out u (subs_mk_part (q:=3) (by omega) (by simpa [p2] using hu))))
   clear hs
   go_wp2_with fail
   refine (HC.out _ _ _ (by omega) (by simp;try omega) (by simp;try omega)).mono ?_
   rintro e w6 ⟨res,ns4,rfl,g1,g2,g3,g4⟩
   have g1:=g1.fifth
   have hc:=blk_cell g1.fourth (j:=3) (by have:=HS.out.len;omega)
   have hz:=(hCE g1.fourth).2.1 3
   have hl:=(hCE g1.fourth).2.2
   have HF:=Lib.hid (HS.out.put (by omega) g1 g2 g3 g4 (by simp [p2]) (by simp [p2]))
   clear HC g1 g2 g3 g4 m3 ml
   go_wp2
   go_roundw
   case rel=>exact⟨4,rfl,(.inr (.inr (.inr (.inr ⟨rfl,_,_,HF.out⟩))))⟩
   case measure=>simp [intOf]
  ·obtain⟨_,_,_,m3,_,_,ml⟩:=memo_cells hs.has
   have o0:=blk_cell hs.has.fourth (j:=0) (by have:=hs.len;omega)
   have o1:=blk_cell hs.has.fourth (j:=1) (by have:=hs.len;omega)
   have o2:=blk_cell hs.has.fourth (j:=2) (by have:=hs.len;omega)
   have o3:=blk_cell hs.has.fourth (j:=3) (by have:=hs.len;omega)
   have ol:=(hCE hs.has.fourth).2.2
   have HJ:=Lib.hid (fun w1 (hf:Fr [] wr w1)=>JoinRoom_has (hs.has.step hf) hs.room (by omega) (hs.done 0 (by omega)) (hs.done 1 (by omega)) (hs.done 2 (by omega)) (hs.done 3 (by omega)) (by have h9:=HSELF.out;unfold Go.Proofs.Ev.mk at h9;simpa [p2] using h9))
   have HS:=Lib.hid hs
   clear hs
   go_wp2
   (refine wRT (by kernel_rfl) (by kernel_rfl) ?_)
   go_wp2_with fail
   refine (HJ.out _ (by (repeat first|exact Fr.refl _ _|assumption|apply Fr.n|apply Fr.d|apply Fr.a|refine Fr.s ?_ (.inr (by simp;try omega)) _))).mono ?_
   rintro e w5 ⟨id1,ns3,rfl,h1,h2,h3,h4⟩
   have H5:=Lib.hid (And.intro h1 (And.intro h2 (And.intro h3 h4)))
   clear o0 o1 o2 o3 ol h1 h2 h3 h4 m3 ml
   go_wp2
   refine Strict.intro rfl ?_
   go_wp2
   go_ret2
   refine⟨id1,ns3,rfl,H5.out.1.fourth.drop,HS.out.pre.trans H5.out.2.1,H5.out.2.2.1,?_⟩
   have h9:=H5.out.2.2.2
   unfold Go.Proofs.Ev.mk
   simpa [p2] using h9
set_option maxHeartbeats 8000000 in
set_option maxRecDepth 100000 in
theorem squareAt_two (hm:m≤1000) (ih:SquareAt W r hv nv mb sb rb L mm ob m bs F 1):SquareAt W r hv nv mb sb rb L mm ob m bs F (1+1):=by
 intro w Ps ns x y z zx zy hz hx hy h hr h1 h2 hFF hL
 obtain rfl:z=2:=by rw [hz];rfl
 subst hx
 subst hy
 simp only [show (2:Nat) ^ (1+1)=4 by decide] at h1 h2 hFF
 have HFF:=Lib.hid hFF
 have HSUB:=Lib.hid hL
 have HSELF:=Lib.hid (hL _ subs_mk_self)
 have H:=Lib.hid h
 have HR:=Lib.hid hr
 clear h hz hr hFF hL
 go_enter Try.func82,Try.ntmps82
 go_wp2
 obtain⟨qb,hqb⟩:∃ qb,w.heap.size=qb:=⟨_,rfl⟩
 have h0:=(hAL H.out #[.int .i64 0,.int .i64 0,.int .i64 0,.int .i64 0] 75).back4
 rw [hqb] at h0 ⊢
 have H0:=Lib.hid h0
 clear h0 hqb H
 go_loopw [29] (fun x' wr=>∃ z:Int,x'=.int .i64 z∧At5 (fun q=>∃ ns' O,SqSt W wr r hv nv mb sb rb L ns mm (matR ob m bs F::Ps) 1 F x y qb ns' O q) z) (fun x _=>4 - (intOf x).toNat)
 case atStart=>exact⟨0,rfl,.inl ⟨rfl,ns,[0,0,0,0],⟨H0.out,rfl,List.prefix_refl _,HR.out,fun j hj=>by omega⟩⟩⟩
 case round =>
  obtain⟨z,rfl,hz⟩:=hrel
  clear H0
  rcases hz with ⟨rfl,ns2,O,hs⟩|⟨rfl,ns2,O,hs⟩|⟨rfl,ns2,O,hs⟩|⟨rfl,ns2,O,hs⟩|⟨rfl,ns2,O,hs⟩
  ·
   obtain⟨_,_,_,m3,_,_,ml⟩:=memo_cells hs.has
   have HS:=Lib.hid hs
   have HC:=Lib.hid (fun (z zx zy:Int) (e1:z=((1:Nat):Int)) (e2:zx=((x+0 % 2*2 ^ 1:Nat):Int)) (e3:zy=((y+0 / 2*2 ^ 1:Nat):Int))=>ih _ _ _ _ _ z zx zy e1 e2 e3 hs.has.fifth hs.room (by omega) (by omega) (fun i j a b c d=>HFF.out i j (by omega) (by omega) (by omega) (by omega)) (fun u hu=>HSUB.out u (subs_mk_part (q:=0) (by omega) (by simpa [p2] using hu))))
   clear hs
   go_wp2_with fail
   refine (HC.out _ _ _ (by omega) (by simp;try omega) (by simp;try omega)).mono ?_
   rintro e w6 ⟨res,ns4,rfl,g1,g2,g3,g4⟩
   have g1:=g1.fifth
   have hc:=blk_cell g1.fourth (j:=0) (by have:=HS.out.len;omega)
   have hz:=(hCE g1.fourth).2.1 0
   have hl:=(hCE g1.fourth).2.2
   have HF:=Lib.hid (HS.out.put (by omega) g1 g2 g3 g4 (by simp [p2]) (by simp [p2]))
   clear HC g1 g2 g3 g4 m3 ml
   go_wp2
   go_roundw
   case rel=>exact⟨1,rfl,(.inr (.inl ⟨rfl,_,_,HF.out⟩))⟩
   case measure=>simp [intOf]
  ·
   obtain⟨_,_,_,m3,_,_,ml⟩:=memo_cells hs.has
   have HS:=Lib.hid hs
   have HC:=Lib.hid (fun (z zx zy:Int) (e1:z=((1:Nat):Int)) (e2:zx=((x+1 % 2*2 ^ 1:Nat):Int)) (e3:zy=((y+1 / 2*2 ^ 1:Nat):Int))=>ih _ _ _ _ _ z zx zy e1 e2 e3 hs.has.fifth hs.room (by omega) (by omega) (fun i j a b c d=>HFF.out i j (by omega) (by omega) (by omega) (by omega)) (fun u hu=>HSUB.out u (subs_mk_part (q:=1) (by omega) (by simpa [p2] using hu))))
   clear hs
   go_wp2_with fail
   refine (HC.out _ _ _ (by omega) (by simp;try omega) (by simp;try omega)).mono ?_
   rintro e w6 ⟨res,ns4,rfl,g1,g2,g3,g4⟩
   have g1:=g1.fifth
   have hc:=blk_cell g1.fourth (j:=1) (by have:=HS.out.len;omega)
   have hz:=(hCE g1.fourth).2.1 1
   have hl:=(hCE g1.fourth).2.2
   have HF:=Lib.hid (HS.out.put (by omega) g1 g2 g3 g4 (by simp [p2]) (by simp [p2]))
   clear HC g1 g2 g3 g4 m3 ml
   go_wp2
   go_roundw
   case rel=>exact⟨2,rfl,(.inr (.inr (.inl ⟨rfl,_,_,HF.out⟩)))⟩
   case measure=>simp [intOf]
  ·
   obtain⟨_,_,_,m3,_,_,ml⟩:=memo_cells hs.has
   have HS:=Lib.hid hs
   have HC:=Lib.hid (fun (z zx zy:Int) (e1:z=((1:Nat):Int)) (e2:zx=((x+2 % 2*2 ^ 1:Nat):Int)) (e3:zy=((y+2 / 2*2 ^ 1:Nat):Int))=>ih _ _ _ _ _ z zx zy e1 e2 e3 hs.has.fifth hs.room (by omega) (by omega) (fun i j a b c d=>HFF.out i j (by omega) (by omega) (by omega) (by omega)) (fun u hu=>HSUB.out u (subs_mk_part (q:=2) (by omega) (by simpa [p2] using hu))))
   clear hs
   go_wp2_with fail
   refine (HC.out _ _ _ (by omega) (by simp;try omega) (by simp;try omega)).mono ?_
   rintro e w6 ⟨res,ns4,rfl,g1,g2,g3,g4⟩
   have g1:=g1.fifth
   have hc:=blk_cell g1.fourth (j:=2) (by have:=HS.out.len;omega)
   have hz:=(hCE g1.fourth).2.1 2
   have hl:=(hCE g1.fourth).2.2
   have HF:=Lib.hid (HS.out.put (by omega) g1 g2 g3 g4 (by simp [p2]) (by simp [p2]))
   clear HC g1 g2 g3 g4 m3 ml
   go_wp2
   go_roundw
   case rel=>exact⟨3,rfl,(.inr (.inr (.inr (.inl ⟨rfl,_,_,HF.out⟩))))⟩
   case measure=>simp [intOf]
  ·
   obtain⟨_,_,_,m3,_,_,ml⟩:=memo_cells hs.has
   have HS:=Lib.hid hs
   have HC:=Lib.hid (fun (z zx zy:Int) (e1:z=((1:Nat):Int)) (e2:zx=((x+3 % 2*2 ^ 1:Nat):Int)) (e3:zy=((y+3 / 2*2 ^ 1:Nat):Int))=>ih _ _ _ _ _ z zx zy e1 e2 e3 hs.has.fifth hs.room (by omega) (by omega) (fun i j a b c d=>HFF.out i j (by omega) (by omega) (by omega) (by omega)) (fun u hu=>HSUB.out u (subs_mk_part (q:=3) (by omega) (by simpa [p2] using hu))))
   clear hs
   go_wp2_with fail
   refine (HC.out _ _ _ (by omega) (by simp;try omega) (by simp;try omega)).mono ?_
   rintro e w6 ⟨res,ns4,rfl,g1,g2,g3,g4⟩
   have g1:=g1.fifth
   have hc:=blk_cell g1.fourth (j:=3) (by have:=HS.out.len;omega)
   have hz:=(hCE g1.fourth).2.1 3
   have hl:=(hCE g1.fourth).2.2
   have HF:=Lib.hid (HS.out.put (by omega) g1 g2 g3 g4 (by simp [p2]) (by simp [p2]))
   clear HC g1 g2 g3 g4 m3 ml
   go_wp2
   go_roundw
   case rel=>exact⟨4,rfl,(.inr (.inr (.inr (.inr ⟨rfl,_,_,HF.out⟩))))⟩
   case measure=>simp [intOf]
  ·obtain⟨_,_,_,m3,_,_,ml⟩:=memo_cells hs.has
   have o0:=blk_cell hs.has.fourth (j:=0) (by have:=hs.len;omega)
   have o1:=blk_cell hs.has.fourth (j:=1) (by have:=hs.len;omega)
   have o2:=blk_cell hs.has.fourth (j:=2) (by have:=hs.len;omega)
   have o3:=blk_cell hs.has.fourth (j:=3) (by have:=hs.len;omega)
   have ol:=(hCE hs.has.fourth).2.2
   have HJ:=Lib.hid (fun w1 (hf:Fr [] wr w1)=>JoinRoom_has (hs.has.step hf) hs.room (by omega) (hs.done 0 (by omega)) (hs.done 1 (by omega)) (hs.done 2 (by omega)) (hs.done 3 (by omega)) (by have h9:=HSELF.out;unfold Go.Proofs.Ev.mk at h9;simpa [p2] using h9))
   have HS:=Lib.hid hs
   clear hs
   go_wp2
   (refine wRT (by kernel_rfl) (by kernel_rfl) ?_)
   go_wp2_with fail
   refine (HJ.out _ (by (repeat first|exact Fr.refl _ _|assumption|apply Fr.n|apply Fr.d|apply Fr.a|refine Fr.s ?_ (.inr (by simp;try omega)) _))).mono ?_
   rintro e w5 ⟨id1,ns3,rfl,h1,h2,h3,h4⟩
   have H5:=Lib.hid (And.intro h1 (And.intro h2 (And.intro h3 h4)))
   clear o0 o1 o2 o3 ol h1 h2 h3 h4 m3 ml
   go_wp2
   refine Strict.intro rfl ?_
   go_wp2
   go_ret2
   refine⟨id1,ns3,rfl,H5.out.1.fourth.drop,HS.out.pre.trans H5.out.2.1,H5.out.2.2.1,?_⟩
   have h9:=H5.out.2.2.2
   unfold Go.Proofs.Ev.mk
   simpa [p2] using h9
end
end Go.Proofs.Ytppmnmheodimoaa
end
section
namespace Go.Proofs.Ytppmnmheodimoaa
open Go Go.RowKit Rg Hp Ev
def cmpI (a b:Int):Int:=if a<b then -1 else if b<a then 1 else 0
def cmpP (p q:Int×Int):Int:=if cmpI p.2 q.2≠0 then cmpI p.2 q.2 else cmpI p.1 q.1
theorem cmpP_before (p q:Int×Int):decide (0≤cmpP p q)=!before p q:=by
 unfold cmpP cmpI before
 rw [Bool.eq_iff_iff]
 simp only [decide_eq_true_eq,Bool.not_eq_true',decide_eq_false_iff_not]
 by_cases h1:p.2<q.2
 ·simp [h1]
 ·by_cases h2:q.2<p.2
  ·simp [h1,h2];omega
  ·by_cases h3:p.1<q.1
   ·simp [h1,h2,h3];omega
   ·by_cases h4:q.1<p.1
    ·simp [h1,h2,h3,h4]
    ·simp [h1,h2,h3,h4]
theorem ret_int' {k:IntKind} {a b:Int} (h:a=b):Ending.returned (.int k a)=Ending.returned (.int k b):=by rw [h]
def orI (a b:Int):Int:=if a≠0 then a else b
theorem orI_pos {a b:Int} (h:¬ a=0):orI a b=a:=by unfold orI;rw [if_pos h]
theorem orI_zero (b:Int):orI 0 b=b:=by unfold orI;simp
theorem cmpI_calls (a b:Int) (w:World):Calls Try.prog 101 #[.int .i64 a,.int .i64 b] w fun e w'=>e=.returned (.int .i64 (cmpI a b))∧w=w':=by
 have h1:(a != a)=false:=by simp
 have h2:(b != b)=false:=by simp
 unfold cmpI
 by_cases h:a<b
 ·rw [if_pos h]
  go_enter Try.func101,Try.ntmps101
  go_wp2
  go_ret
  exact⟨rfl,rfl⟩
 ·rw [if_neg h]
  by_cases h':b<a
  ·rw [if_pos h']
   go_enter Try.func101,Try.ntmps101
   go_wp2
   go_ret
   exact⟨rfl,rfl⟩
  ·rw [if_neg h']
   go_enter Try.func101,Try.ntmps101
   go_wp2
   go_ret
   exact⟨rfl,rfl⟩
theorem or_calls {a b:Int} {g:Nat} {w:World} (h:w.heap[g]?=some (.cells #[.int .i64 a,.int .i64 b] 3 (0,0))) :
  Calls Try.prog 100 #[.slice (some ⟨g,0,none⟩) 2 2] w fun e w'=>e=.returned (.int .i64 (orI a b))∧Fr [] w w':=by
 have c0:=hEC h 0
 have c1:=hEC h 1
 simp at c0 c1
 have H:=Lib.hid h
 clear h
 go_enter Try.func100,Try.ntmps100
 go_wp2
 go_loopw [8] (fun i wr=>∃ z:Int,i=.int .i64 z∧(z=0∨z=1∧a=0∨z=2∧a=0∧b=0)∧w=wr) (fun i _=>2 - (intOf i).toNat)
 case atStart=>exact⟨0,rfl,.inl rfl,rfl⟩
 case round =>
  obtain⟨z,rfl,h,rfl⟩:=hrel
  rcases h with rfl|⟨rfl,rfl⟩|⟨rfl,rfl,rfl⟩
  ·by_cases h0:a=0
   ·subst h0
    go_wp2
    go_roundw
    case rel=>refine⟨1,?_⟩;simp
    case measure=>simp [intOf]
   ·have hn:(a != 0)=true:=by simpa using h0
    go_wp2
    go_ret
    exact⟨ret_int' (orI_pos h0).symm,by (repeat first|exact Fr.refl _ _|assumption|apply Fr.n|apply Fr.d|apply Fr.a|refine Fr.s ?_ (.inr (by simp;try omega)) _)⟩
  ·by_cases h0:b=0
   ·subst h0
    go_wp2
    go_roundw
    case rel=>refine⟨2,?_⟩;simp
    case measure=>simp [intOf]
   ·have hn:(b != 0)=true:=by simpa using h0
    go_wp2
    go_ret
    exact⟨ret_int' (orI_zero b).symm,by (repeat first|exact Fr.refl _ _|assumption|apply Fr.n|apply Fr.d|apply Fr.a|refine Fr.s ?_ (.inr (by simp;try omega)) _)⟩
  ·go_wp2
   go_ret
   exact⟨rfl,by (repeat first|exact Fr.refl _ _|assumption|apply Fr.n|apply Fr.d|apply Fr.a|refine Fr.s ?_ (.inr (by simp;try omega)) _)⟩
theorem cmpP_calls {p q:Int×Int} {w:World}:Calls Try.prog 85 #[.agg #[.int .i64 p.1,.int .i64 p.2],.agg #[.int .i64 q.1,.int .i64 q.2]] w fun e w'=>e=.returned (.int .i64 (cmpP p q))∧Fr [] w w':=by
 obtain⟨px,py⟩:=p
 obtain⟨qx,qy⟩:=q
 show Calls _ _ _ w fun e w'=>e=.returned (.int .i64 (orI (cmpI py qy) (cmpI px qx)))∧Fr [] w w'
 have h1:=fun w=>cmpI_calls py qy w
 have h2:=fun w=>cmpI_calls px qx w
 generalize cmpI py qy=a at h1 ⊢
 generalize cmpI px qx=b at h2 ⊢
 have H1:=Lib.hid h1
 have H2:=Lib.hid h2
 clear h1 h2
 go_enter Try.func85,Try.ntmps85
 go_wp2
 refine wRS [([0,1,2,3,5,6,7,8,4],[6,8]),([9,10,11,12],[])] (by kernel_rfl) (by kernel_rfl) ?_
 (simp only [wpSegs,pick,Array.getD_eq_getD_getElem?,List.getElem?_toArray,List.getElem?_cons_succ,List.getElem?_cons_zero,Option.getD_some])
 go_wp2_with fail
 refine (H1.out _).mono ?_
 rintro e w' ⟨rfl,rfl⟩
 go_wp2
 refine Mid.intro ⟨⟨again_cell (T:=3) rfl rfl rfl Try.underlying3 rfl (by simp [go_sem]) rfl,again_cell (T:=3) rfl rfl rfl Try.underlying3 rfl (by simp [go_sem]) rfl,trivial⟩,?_⟩
 go_wp2_with fail
 refine (H2.out _).mono ?_
 rintro e w' ⟨rfl,rfl⟩
 go_wp2_with fail
 refine (or_calls (a:=a) (b:=b) ?hb).mono ?_
 case hb=>(repeat first|rw [if_pos (by omega)]|rw [if_neg (by omega)]|rw [hDR]|rw [hDN]|rw [hAz]|rw [hSz]|rw [hAC]|rw [hSC]|rw [oMS]|rw [uPC]|rw [lSZ]|rw [lSS]|rfl)
 rintro e w' ⟨rfl,hf⟩
 have Hf:=Lib.hid hf
 clear hf
 go_wp2
 refine Mid.intro ⟨trivial,Strict.intro rfl ?_⟩
 go_wp2
 go_ret
 exact⟨rfl,Fr.trans0 (by (repeat first|exact Fr.refl _ _|assumption|apply Fr.n|apply Fr.d|apply Fr.a|refine Fr.s ?_ (.inr (by simp;try omega)) _)) Hf.out⟩
end Go.Proofs.Ytppmnmheodimoaa
end
section
namespace Go.Proofs.Mp
section
variable {κ ν:Type} [DecidableEq κ]
theorem get_put_same (l:List (κ×ν)) (k:κ) (v:ν):get? (put l k v) k=some v:=by
 unfold put get?
 cases h:(l.map (·.1)).idxOf? k with
 | some i =>
  obtain⟨hi,he,hn⟩:=List.idxOf?_eq_some_iff.1 h
  have hi':i<l.length:=by simpa using hi
  have e:(l.set i (k,v)).map (·.1)=l.map (·.1):=by
   rw [List.map_set]
   simp only
   rw [← he]
   exact List.set_getElem_self hi
  simp only
  rw [e,h]
  simp [hi']
 | none =>
  have hn:=List.idxOf?_eq_none_iff.1 h
  simp only
  have e:((l++[(k,v)]).map (·.1)).idxOf? k=some l.length:=by
   rw [List.idxOf?_eq_some_iff]
   refine⟨by simp,by simp,fun j hj he=>?_⟩
   have hj':j<l.length:=hj
   apply hn
   simp only [List.map_append] at he
   rw [List.getElem_append_left (by simpa using hj')] at he
   rw [← he]
   exact List.getElem_mem _
  rw [e]
  simp
theorem get_put_else (l:List (κ×ν)) {k k':κ} (v:ν) (hne:k'≠k):get? (put l k v) k'=get? l k':=by
 unfold put get?
 cases h:(l.map (·.1)).idxOf? k with
 | some i =>
  obtain⟨hi,he,hn⟩:=List.idxOf?_eq_some_iff.1 h
  have hi':i<l.length:=by simpa using hi
  have e:(l.set i (k,v)).map (·.1)=l.map (·.1):=by
   rw [List.map_set]
   simp only
   rw [← he]
   exact List.set_getElem_self hi
  simp only
  rw [e]
  cases h2:(l.map (·.1)).idxOf? k' with
  | none=>rfl
  | some j =>
   obtain⟨hj,hje,_⟩:=List.idxOf?_eq_some_iff.1 h2
   have:i≠j:=fun hij=>by
    subst hij
    exact hne (hje.symm.trans he)
   simp [List.getElem?_set,this]
 | none =>
  have hn:=List.idxOf?_eq_none_iff.1 h
  simp only
  cases h2:(l.map (·.1)).idxOf? k' with
  | none =>
   have hn':=List.idxOf?_eq_none_iff.1 h2
   have e:((l++[(k,v)]).map (·.1)).idxOf? k'=none:=by
    rw [List.idxOf?_eq_none_iff,List.map_append]
    simp only [List.mem_append,not_or]
    exact⟨hn',by simp [hne]⟩
   rw [e];rfl
  | some j =>
   obtain⟨hj,hje,hjn⟩:=List.idxOf?_eq_some_iff.1 h2
   have hj':j<l.length:=by simpa using hj
   have e:((l++[(k,v)]).map (·.1)).idxOf? k'=some j:=by
    rw [List.idxOf?_eq_some_iff]
    refine⟨by simp;omega,?_,fun i hi he=>?_⟩
    ·rw [← hje]
     simp only [List.map_append]
     rw [List.getElem_append_left hj]
    ·simp only [List.map_append] at he
     rw [List.getElem_append_left (by simp;omega)] at he
     exact hjn i hi he
   rw [e]
   simp [List.getElem?_append_left hj']
end
end Go.Proofs.Mp
namespace Go.Proofs.Ytppmnmheodimoaa
open Go Go.RowKit Rg Mp Hp Qs Ev
theorem keys2:KeysBy Try.prog 127 (pairV .i64):=KeysBy.pair (E:=3) Try.underlying127 rfl rfl rfl rfl (by decide) (by decide) Try.underlying3 (by kernel_rfl)
theorem Kept.put {r:Rule} {ns:List K4} {mm:List ((Int×Int)×Int)} (h:Kept r ns mm) {id k v:Int} {n:Nat} {t:Tr} (hi:Is r.S ns n id t) (hn:2≤n) (hk:0≤k) (hv:Is r.S ns (n - 1) v (stp (gen r) n k.toNat t)):Kept r ns (put mm (id,k) v):=fun id' k' v' h'=>by
 by_cases e:(id',k')=(id,k)
 ·rw [e,get_put_same] at h'
  obtain rfl:=Option.some.inj h'
  cases e
  exact⟨n,t,hi,hn,hk,hv⟩
 ·rw [get_put_else _ _ e] at h'
  exact h id' k' v' h'
theorem Keeps.put {mm:List ((Int×Int)×Int)} {key:Int×Int} {v:Int} (h:get? mm key=none):Keeps mm (put mm key v):=fun key' v' h'=>by
 by_cases e:key'=key
 ·subst e;rw [h] at h';cases h'
 ·rw [get_put_else _ _ e];exact h'
theorem map_put_has {W w:World} {rb:Nat} {mm mm':List ((Int×Int)×Int)} {Ps:List Res} {q:Obj} (h:Has W w (mapR rb mm::Ps)) (hq:MapIs { w with heap:=w.heap.setIfInBounds rb q } rb (pairV .i64) (Value.int .i64) mm'):Has W { w with heap:=w.heap.setIfInBounds rb q } (mapR rb mm'::Ps) :=
 h.turn fun F ⟨h1,h2⟩=>⟨F,⟨hq,h2⟩,(Fr.refl F w).setBlock (.inl (by simp [h2])) q,fun x hx=>.inl hx⟩
def DirectAt (W:World) (r:Rule) (hv nv:Value) (mb sb rb:Nat) (L:List Tr) (n:Nat):Prop :=
 ∀ (w:World) (Ps:List Res) (ns:List K4) (mm:List ((Int×Int)×Int)) (id:Int) (t:Tr),Has W w (memoL r hv nv mb sb rb ns mm Ps)→room r.S ns L→Kept r ns mm→Is r.S ns n id t→(∀ u∈subs (stp (gen r) n 0 t),u∈L)→RuleSrc W hv nv r Ps →
  Calls Try.prog 60 #[.pointer (some ⟨mb,0,none⟩),.int .i64 id,.int .i64 n] w (PartPost W r hv nv mb sb rb L ns mm n (stp (gen r) n 0 t) Ps)
def PartsAt (W:World) (r:Rule) (hv nv:Value) (mb sb rb:Nat) (L:List Tr) (n:Nat):Prop :=
 ∀ (w:World) (Ps:List Res) (ns:List K4) (mm:List ((Int×Int)×Int)) (id:Int) (k:Nat) (t:Tr),Has W w (memoL r hv nv mb sb rb ns mm Ps)→room r.S ns L→Kept r ns mm→Is r.S ns n id t→k≤n - lostOf (radius r.hood)→(∀ u∈need (gen r) (lostOf (radius r.hood)) n k t,u∈L)→RuleSrc W hv nv r Ps →
  Calls Try.prog 61 #[.pointer (some ⟨mb,0,none⟩),.int .i64 id,.int .i64 n,.int .i64 k,.bool (decide (k=n - lostOf (radius r.hood)))] w (PartPost W r hv nv mb sb rb L ns mm n (stp (gen r) n k t) Ps)
theorem Most_calls {mb:Nat} {lo n:Nat} {w:World} (h:w.cell? ⟨mb,5,none⟩=some (.int .i64 lo)) (hn:n≤256) (hlo:lo≤100) :
  Calls Try.prog 12 #[.pointer (some ⟨mb,0,none⟩),.int .i64 n] w fun e w'=>e=.returned (.int .i64 (max ((n:Int) - lo) (-1)))∧w=w':=by
 go_enter Try.func12,Try.ntmps12
 go_wp2
 all_goals
  go_ret
  exact⟨ret_int' (by omega),rfl⟩
theorem max_lost {n lo:Nat} (h:lo≤n):max ((n:Int) - (lo:Int)) (-1)=((n - lo:Nat):Int):=by omega
theorem direct_k {W w:World} {r:Rule} {hv nv:Value} {mb sb rb:Nat} {L:List Tr} {ns:List K4} {mm:List ((Int×Int)×Int)} {n k:Nat} {t:Tr} {Ps:List Res} {f:FuncId} {args:Array Value} (hk:k=0) (h:Calls Try.prog f args w (PartPost W r hv nv mb sb rb L ns mm n (stp (gen r) n 0 t) Ps)):Calls Try.prog f args w (PartPost W r hv nv mb sb rb L ns mm n (stp (gen r) n k t) Ps):=by
 subst hk
 exact h
set_option maxHeartbeats 8000000 in
set_option maxRecDepth 100000 in
theorem step_at {W:World} {r:Rule} {hv nv:Value} {mb sb rb:Nat} {L:List Tr} {n:Nat} (hn:n≤200) (hR:rightR r=true) (hd:n=lostOf (radius r.hood)→DirectAt W r hv nv mb sb rb L n) (hp:lostOf (radius r.hood)<n→PartsAt W r hv nv mb sb rb L n):StepAt W r hv nv mb sb rb L n:=by
 intro w Ps ns mm id k t h hroom hkept hi hlo hk hL hsrc
 have hl2:=lost_le (radius_le r.hood).1 (radius_le r.hood).2
 have hmap:=h.swap
 obtain⟨F9,hM,_⟩:=hmap.head
 obtain⟨_,_,_,_,m4,m5,ml⟩:=memo_cells h
 have H:=Lib.hid h
 have HM:=Lib.hid hM
 have HI:=Lib.hid hi
 have HD:=Lib.hid (fun (e:n=lostOf (radius r.hood)) w1 (hf:Fr [] w w1)=>direct_k (k:=k) (by omega) (hd e w1 Ps ns mm id t (h.step hf) hroom hkept hi (by
  obtain⟨n',rfl⟩:∃ n',n=n'+1:=⟨n - 1,by omega⟩
  intro u hu
  refine hL u ?_
  rw [need_small (by omega)]
  obtain rfl:k=0:=by omega
  exact hu) hsrc))
 have HP:=Lib.hid (fun (e:lostOf (radius r.hood)<n) w1 (hf:Fr [] w w1)=>hp e w1 Ps ns mm id k t (h.step hf) hroom hkept hi hk hL hsrc)
 cases hg:get? mm (id,(k:Int)) with
 | some v =>
  have HG:=Lib.hid hg
  have HR:=Lib.hid (And.intro hroom hkept)
  have HRES:=Lib.hid (show Is r.S ns (n - 1) v (stp (gen r) n k t) by
   obtain⟨n',t',h1,h2,h3,h4⟩:=hkept _ _ _ hg
   have e1:n=n':=by
    have a:=h1.lvl (has_good h)
    have b:=hi.lvl (has_good h)
    omega
   subst e1
   have e2:t=t':=hi.2.1.symm.trans h1.2.1
   subst e2
   rwa [Int.toNat_natCast] at h4)
  clear h hroom hkept hi hL hd hp hmap hM hg
  go_enter Try.func36,Try.ntmps36
  go_wp2_with (at_lookup;refine wpList_lookup_hit (f:=pairV .i64) (g:=Value.int .i64) (k:=(id,(k:Int))) (z:=.int .i64 0) rfl rfl rfl rfl HM.out Try.underlying79 keys2 (zero_int _) HG.out ?_)
  go_ret2
  exact⟨v,ns,mm,rfl,H.out,List.prefix_refl _,HR.out.1,HR.out.2,HRES.out,Keeps.refl _,HG.out,fun v' hv'=>⟨Option.some.inj (HG.out.symm.trans hv'),rfl⟩⟩
 | none =>
  have HMISS:=Lib.hid hg
  clear h hroom hkept hi hL hd hp hmap hM hg
  by_cases he:n=lostOf (radius r.hood)
  ·have HMO:=Lib.hid (max_lost hlo▸Most_calls m5 (n:=n) (by omega) (by omega))
   have hmo:n - lostOf (radius r.hood)=0:=by omega
   rw [hmo] at HMO
   have HD':=Lib.hid (fun w1 (hf:Fr [] w w1)=>HD.out he w1 hf)
   clear hmo
   have HE:=Lib.hid he
   clear he
   go_enter Try.func36,Try.ntmps36
   go_wp2_with (first|(at_lookup;refine wpList_lookup_miss (f:=pairV .i64) (g:=Value.int .i64) (k:=(id,(k:Int))) (z:=.int .i64 0) rfl rfl rfl rfl HM.out Try.underlying79 keys2 (zero_int _) HMISS.out ?_)|(go_at_call 12;refine HMO.out.mono ?_;rintro e w5 ⟨rfl,rfl⟩)|fail)
   refine (HD'.out _ (by (repeat first|exact Fr.refl _ _|assumption|apply Fr.n|apply Fr.d|apply Fr.a|refine Fr.s ?_ (.inr (by simp;try omega)) _))).mono ?_
   rintro e w5 ⟨res,ns',mm',rfl,g1,g2,g3,g4,g5,g6⟩
   have hmap:=g1.swap
   obtain⟨F9,hM,_⟩:=hmap.head
   obtain⟨_,_,_,_,m4,_,ml⟩:=memo_cells g1
   have HM:=Lib.hid hM
   have H5:=Lib.hid (And.intro g1 (And.intro g2 (And.intro g3 (And.intro g4 (And.intro g5 g6)))))
   clear g1 g2 g3 g4 g5 g6 hmap hM m5
   go_wp2_with (at_mapUpdate;refine wpList_update_is (f:=pairV .i64) (g:=Value.int .i64) (k:=(id,(k:Int))) (v:=res) rfl rfl rfl rfl rfl HM.out Try.underlying79 keys2 ?_;intro q hq;have HQ:=Lib.hid hq;clear hq m4 ml)
   go_ret2
   refine⟨res,ns',put mm' (id,k) res,rfl,(map_put_has H5.out.1.swap HQ.out).swap,H5.out.2.1,H5.out.2.2.1,?_,H5.out.2.2.2.2.1,fun key v hv9=>?_,get_put_same _ _ _,fun v hv9=>by rw [HMISS.out] at hv9;cases hv9⟩
   ·exact H5.out.2.2.2.1.put (HI.out.grow H5.out.2.1) (by omega) (by omega) (by rw [Int.toNat_natCast];exact H5.out.2.2.2.2.1)
   ·by_cases e:key=(id,(k:Int))
    ·subst e;rw [HMISS.out] at hv9;cases hv9
    ·rw [get_put_else _ _ e];exact H5.out.2.2.2.2.2 key v hv9
  ·have HMO:=Lib.hid (max_lost hlo▸Most_calls m5 (n:=n) (by omega) (by omega))
   have HP':=Lib.hid (fun w1 (hf:Fr [] w w1)=>HP.out (by omega) w1 hf)
   obtain⟨d,hd⟩:∃ d,n - lostOf (radius r.hood)=d:=⟨_,rfl⟩
   rw [hd] at HMO HP'
   have hd0:((d:Int) == 0)=false:=by simp;omega
   have hkd:((k:Int) == (d:Int))=decide (k=d):=by
    rw [Bool.eq_iff_iff];simp;omega
   clear hd he
   go_enter Try.func36,Try.ntmps36
   go_wp2_with (first|(at_lookup;refine wpList_lookup_miss (f:=pairV .i64) (g:=Value.int .i64) (k:=(id,(k:Int))) (z:=.int .i64 0) rfl rfl rfl rfl HM.out Try.underlying79 keys2 (zero_int _) HMISS.out ?_)|(go_at_call 12;refine HMO.out.mono ?_;rintro e w5 ⟨rfl,rfl⟩)|fail)
   refine (HP'.out _ (by (repeat first|exact Fr.refl _ _|assumption|apply Fr.n|apply Fr.d|apply Fr.a|refine Fr.s ?_ (.inr (by simp;try omega)) _))).mono ?_
   rintro e w5 ⟨res,ns',mm',rfl,g1,g2,g3,g4,g5,g6⟩
   have hmap:=g1.swap
   obtain⟨F9,hM,_⟩:=hmap.head
   obtain⟨_,_,_,_,m4,_,ml⟩:=memo_cells g1
   have HM:=Lib.hid hM
   have H5:=Lib.hid (And.intro g1 (And.intro g2 (And.intro g3 (And.intro g4 (And.intro g5 g6)))))
   clear g1 g2 g3 g4 g5 g6 hmap hM m5
   go_wp2_with (at_mapUpdate;refine wpList_update_is (f:=pairV .i64) (g:=Value.int .i64) (k:=(id,(k:Int))) (v:=res) rfl rfl rfl rfl rfl HM.out Try.underlying79 keys2 ?_;intro q hq;have HQ:=Lib.hid hq;clear hq m4 ml)
   go_ret2
   refine⟨res,ns',put mm' (id,k) res,rfl,(map_put_has H5.out.1.swap HQ.out).swap,H5.out.2.1,H5.out.2.2.1,?_,H5.out.2.2.2.2.1,fun key v hv9=>?_,get_put_same _ _ _,fun v hv9=>by rw [HMISS.out] at hv9;cases hv9⟩
   ·exact H5.out.2.2.2.1.put (HI.out.grow H5.out.2.1) (by omega) (by omega) (by rw [Int.toNat_natCast];exact H5.out.2.2.2.2.1)
   ·by_cases e:key=(id,(k:Int))
    ·subst e;rw [HMISS.out] at hv9;cases hv9
    ·rw [get_put_else _ _ e];exact H5.out.2.2.2.2.2 key v hv9
end Go.Proofs.Ytppmnmheodimoaa
end
section
namespace Go.Proofs.Ytppmnmheodimoaa
open Go Go.RowKit Rg Hp Ev
theorem ret_bool' {a b:Bool} (h:a=b):Ending.returned (.bool a)=Ending.returned (.bool b):=by rw [h]
theorem hoodAt_zero {l:List (Int×Int)} {x y:Int} (h:l[0]?=some (x,y)):hoodAt l 0=decide (-2≤x∧x≤2∧-2≤y∧y≤2):=by
 unfold hoodAt near2
 rw [List.getD_eq_getElem?_getD,h]
 simp
theorem hoodAt_succ {l:List (Int×Int)} {k:Nat} {x y:Int} {q:Int×Int} (h:l[k+1]?=some (x,y)) (h':l[k]?=some q):hoodAt l (k+1)=(decide (-2≤x∧x≤2∧-2≤y∧y≤2) && before q (x,y)):=by
 unfold hoodAt near2
 rw [List.getD_eq_getElem?_getD,h,Nat.add_sub_cancel,List.getD_eq_getElem?_getD,h']
 simp
theorem hoodR_false {l:List (Int×Int)} {k:Nat} (hk:k<l.length) (h:hoodAt l k=false):hoodR l=false:=by
 unfold hoodR
 have:(List.range l.length).all (hoodAt l)=false:=by
  rw [List.all_eq_false]
  exact⟨k,List.mem_range.2 hk,by rw [h];simp⟩
 rw [this,Bool.and_false]
theorem hoodR_true {l:List (Int×Int)} (h1:1≤l.length) (h2:l.length≤25) (h:∀ k,k<l.length→hoodAt l k=true):hoodR l=true:=by
 unfold hoodR
 rw [decide_eq_true h1,decide_eq_true h2,Bool.true_and,Bool.true_and,List.all_eq_true]
 exact fun k hk=>h k (List.mem_range.1 hk)
theorem hoodR_len {l:List (Int×Int)} (h:¬ (1≤l.length∧l.length≤25)):hoodR l=false:=by
 unfold hoodR
 by_cases h1:1≤l.length
 ·rw [decide_eq_false (show ¬ l.length≤25 from fun h2=>h ⟨h1,h2⟩),Bool.and_false,Bool.false_and]
 ·rw [decide_eq_false h1,Bool.false_and,Bool.false_and]
set_option maxHeartbeats 4000000 in
theorem HRight_calls {w:World} {l:List (Int×Int)} {a:Option Addr} {c:Nat} (hl:PtsAt w (.slice a l.length c) l) (hlen:l.length≤1000000) :
  Calls Try.prog 62 #[.slice a l.length c] w fun e w'=>e=.returned (.bool (hoodR l))∧Fr [] w w':=by
 have Hl:=Lib.hid hl
 clear hl
 by_cases h1:1≤l.length∧l.length≤25
 ·obtain⟨h1,h2⟩:=h1
  go_enter Try.func62,Try.ntmps62
  go_wp2
  go_loopw [15] (fun x wr=>∃ k:Nat,x=.int .i64 k∧k≤l.length∧(∀ j,j<k→hoodAt l j=true)∧Fr [] w wr) (fun x _=>l.length - (intOf x).toNat)
  case atStart=>exact⟨0,rfl,by omega,by omega,Fr.refl _ _⟩
  case round =>
   obtain⟨k,rfl,hk,hn,hf⟩:=hrel
   have Hk:=Lib.hid hn
   have Hf:=Lib.hid hf
   clear hn hf
   by_cases hlt:k<l.length
   ·obtain⟨⟨x,y⟩,hp⟩:∃ p,l[k]?=some p:=⟨_,List.getElem?_eq_getElem hlt⟩
    obtain⟨g,off,rfl,hg,e0,e1⟩:=(Hl.out.fr Hf.out).cell hp
    simp only at e0 e1
    cases k with
    | zero =>
     have HA:=Lib.hid (hoodAt_zero hp)
     clear hp
     simp only [Nat.zero_mul,Nat.add_zero] at e0 e1
     go_wp2
     (refine wRT (by kernel_rfl) (by kernel_rfl) ?_)
     go_wp2
     all_goals
      refine Strict.intro rfl ?_
      go_wp2
      first
       | (go_ret;exact⟨ret_bool' (hoodR_false hlt (HA.out.trans (by simp;try omega))).symm,by first|(have:=Hf.out;(repeat first|exact Fr.refl _ _|assumption|apply Fr.n|apply Fr.d|apply Fr.a|refine Fr.s ?_ (.inr (by simp;try omega)) _);done)|exact Fr.trans0 (by have:=Hf.out;(repeat first|exact Fr.refl _ _|assumption|apply Fr.n|apply Fr.d|apply Fr.a|refine Fr.s ?_ (.inr (by simp;try omega)) _)) Hf1.out⟩)
       | (
        go_roundw
        case rel =>
         refine⟨0+1,by go_num,by omega,fun j hj=>?_,by first|(have:=Hf.out;(repeat first|exact Fr.refl _ _|assumption|apply Fr.n|apply Fr.d|apply Fr.a|refine Fr.s ?_ (.inr (by simp;try omega)) _);done)|exact Fr.trans0 (by have:=Hf.out;(repeat first|exact Fr.refl _ _|assumption|apply Fr.n|apply Fr.d|apply Fr.a|refine Fr.s ?_ (.inr (by simp;try omega)) _)) Hf1.out⟩
         rcases Nat.lt_or_ge j (0) with h|h
         ·exact Hk.out j h
         ·obtain rfl:j=0:=by omega
          exact HA.out.trans (by simp;try omega)
        case measure=>simp [intOf];omega)
    | succ k =>
     obtain⟨⟨u,v⟩,hq⟩:∃ p,l[k]?=some p:=⟨_,List.getElem?_eq_getElem (by omega)⟩
     obtain⟨g',off',he,_,e2,e3⟩:=(Hl.out.fr Hf.out).cell hq
     cases he
     simp only at e2 e3
     have ha:=hoodAt_succ hp hq
     have hb:=cmpP_before (u,v) (x,y)
     have hc:=fun w=>cmpP_calls (p:=(u,v)) (q:=(x,y)) (w:=w)
     simp only at hc
     generalize cmpP (u,v) (x,y)=z at hb hc
     generalize before (u,v) (x,y)=b at ha hb
     have HA:=Lib.hid ha
     have HC:=Lib.hid hc
     clear hp hq ha hc
     have hd:decide (0≤z)=!b:=hb
     clear hb
     cases b
     all_goals
      simp only [Bool.not_false,Bool.not_true] at hd
      go_wp2
      (refine wRT (by kernel_rfl) (by kernel_rfl) ?_)
      go_wp2_with (refine (HC.out _).mono ?_;rintro e w1 ⟨rfl,hf⟩;have Hf1:=Lib.hid hf;clear hf)
      all_goals
       refine Strict.intro rfl ?_
       go_wp2
       first
        | (go_ret;exact⟨ret_bool' (hoodR_false hlt (HA.out.trans (by simp;try omega))).symm,by first|(have:=Hf.out;(repeat first|exact Fr.refl _ _|assumption|apply Fr.n|apply Fr.d|apply Fr.a|refine Fr.s ?_ (.inr (by simp;try omega)) _);done)|exact Fr.trans0 (by have:=Hf.out;(repeat first|exact Fr.refl _ _|assumption|apply Fr.n|apply Fr.d|apply Fr.a|refine Fr.s ?_ (.inr (by simp;try omega)) _)) Hf1.out⟩)
        | (
         go_roundw
         case rel =>
          refine⟨(k+1)+1,by go_num,by omega,fun j hj=>?_,by first|(have:=Hf.out;(repeat first|exact Fr.refl _ _|assumption|apply Fr.n|apply Fr.d|apply Fr.a|refine Fr.s ?_ (.inr (by simp;try omega)) _);done)|exact Fr.trans0 (by have:=Hf.out;(repeat first|exact Fr.refl _ _|assumption|apply Fr.n|apply Fr.d|apply Fr.a|refine Fr.s ?_ (.inr (by simp;try omega)) _)) Hf1.out⟩
          rcases Nat.lt_or_ge j ((k+1)) with h|h
          ·exact Hk.out j h
          ·obtain rfl:j=(k+1):=by omega
           exact HA.out.trans (by simp;try omega)
         case measure=>simp [intOf];omega)
   ·obtain rfl:k=l.length:=by omega
    go_wp2
    go_ret
    exact⟨ret_bool' (hoodR_true h1 h2 Hk.out).symm,Hf.out⟩
 ·rw [hoodR_len h1]
  have h2:l.length=0∨25<l.length:=by omega
  clear h1
  rcases h2 with h|h
  ·go_enter Try.func62,Try.ntmps62
   go_wp2
   go_ret
   exact⟨rfl,by (repeat first|exact Fr.refl _ _|assumption|apply Fr.n|apply Fr.d|apply Fr.a|refine Fr.s ?_ (.inr (by simp;try omega)) _)⟩
  ·go_enter Try.func62,Try.ntmps62
   go_wp2
   go_ret
   exact⟨rfl,by (repeat first|exact Fr.refl _ _|assumption|apply Fr.n|apply Fr.d|apply Fr.a|refine Fr.s ?_ (.inr (by simp;try omega)) _)⟩
end Go.Proofs.Ytppmnmheodimoaa
end
section
namespace Go.Proofs.Ytppmnmheodimoaa
open Go Go.RowKit Rg Hp Ev
theorem hood_near {l:List (Int×Int)} (h:hoodR l=true) {k:Nat} {p:Int×Int} (hk:l[k]?=some p):-2≤p.1∧p.1≤2∧-2≤p.2∧p.2≤2:=by
 have h1:=hood_in h (List.mem_of_getElem? hk)
 have h2:=radius_le l
 omega
theorem foldl_take_succ {l:List (Int×Int)} {k:Nat} {p:Int×Int} (hk:l[k]?=some p) (r:Int):(l.take (k+1)).foldl radMax r=radMax ((l.take k).foldl radMax r) p:=by
 rw [List.take_add_one,hk]
 simp
theorem fold_rad2 {l:List (Int×Int)} (h:hoodR l=true) (k:Nat):0≤(l.take k).foldl radMax 0∧(l.take k).foldl radMax 0≤2:=by
 refine⟨(fold_rad _ 0).1,fold_rad_le _ 0 2 (by omega) fun p hp=>?_⟩
 have h1:=hood_in h (List.mem_of_mem_take hp)
 have h2:=radius_le l
 omega
theorem radius_true {l:List (Int×Int)} (h:hoodR l=true):radius l=l.foldl radMax 0:=by unfold radius;rw [if_pos h]
theorem radius_false {l:List (Int×Int)} (h:hoodR l=false):radius l=0:=by unfold radius;rw [h];rfl
theorem lt_fold (a b:Int):(if a<b then b else a)=max a b:=by omega
theorem run_max5 (r x y:Int) (w:World):(Builtin.max_ #[3,3,3,3,3] 3 #[.int .i64 r,.int .i64 x,.int .i64 (-x),.int .i64 y,.int .i64 (-y)]).run Try.prog w=.ok (.int .i64 (radMax r (x,y))) w:=by
 unfold Builtin.max_
 simp [Builtin.max2]
 simp only [lt_fold]
 rfl
set_option maxHeartbeats 4000000 in
theorem HRadius_calls {w:World} {l:List (Int×Int)} {a:Option Addr} {c:Nat} (hl:PtsAt w (.slice a l.length c) l) (hlen:l.length≤1000000) :
  Calls Try.prog 38 #[.slice a l.length c] w fun e w'=>e=.returned (.int .i64 (radius l))∧Fr [] w w':=by
 have hr:=fun w1 (hf:Fr [] w w1)=>HRight_calls (hl.fr hf) hlen
 have HR:=Lib.hid hr
 have Hl:=Lib.hid hl
 clear hl hr
 cases hR:hoodR l with
 | false =>
  have H:=Lib.hid (radius_false hR)
  rw [hR] at HR
  clear hR
  go_enter Try.func38,Try.ntmps38
  go_wp2_with fail
  refine (HR.out _ (by (repeat first|exact Fr.refl _ _|assumption|apply Fr.n|apply Fr.d|apply Fr.a|refine Fr.s ?_ (.inr (by simp;try omega)) _))).mono ?_
  rintro e w1 ⟨rfl,hf⟩
  have Hf:=Lib.hid hf
  clear hf
  go_wp2
  go_ret
  exact⟨ret_int' H.out.symm,Fr.trans0 (by (repeat first|exact Fr.refl _ _|assumption|apply Fr.n|apply Fr.d|apply Fr.a|refine Fr.s ?_ (.inr (by simp;try omega)) _)) Hf.out⟩
 | true =>
  have H:=Lib.hid (radius_true hR)
  have HF:=Lib.hid (fold_rad2 hR)
  have HN:=Lib.hid (fun k p (h:l[k]?=some p)=>hood_near hR h)
  rw [hR] at HR
  clear hR
  go_enter Try.func38,Try.ntmps38
  go_wp2_with fail
  refine (HR.out _ (by (repeat first|exact Fr.refl _ _|assumption|apply Fr.n|apply Fr.d|apply Fr.a|refine Fr.s ?_ (.inr (by simp;try omega)) _))).mono ?_
  rintro e w1 ⟨rfl,hf⟩
  have Hf:=Lib.hid (Fr.trans0 (by (repeat first|exact Fr.refl _ _|assumption|apply Fr.n|apply Fr.d|apply Fr.a|refine Fr.s ?_ (.inr (by simp;try omega)) _):Fr [] w _) hf)
  clear hf
  go_wp2
  go_loopw [3,10] (fun r x wr=>∃ k:Nat,x=.int .i64 k∧k≤l.length∧r=.int .i64 ((l.take k).foldl radMax 0)∧Fr [] w wr) (fun _ x _=>l.length - (intOf x).toNat)
  case atStart=>exact⟨0,rfl,by omega,rfl,Hf.out⟩
  case round =>
   clear Hf
   obtain⟨k,rfl,hk,rfl,hf⟩:=hrel
   have Hf:=Lib.hid hf
   clear hf
   by_cases hlt:k<l.length
   ·obtain⟨⟨x,y⟩,hp⟩:∃ p,l[k]?=some p:=⟨_,List.getElem?_eq_getElem hlt⟩
    obtain⟨g,off,rfl,hg,e0,e1⟩:=(Hl.out.fr Hf.out).cell hp
    have HS:=Lib.hid (foldl_take_succ hp 0)
    obtain⟨n1,n2,n3,n4⟩:=HN.out k _ hp
    obtain⟨f1,f2⟩:=HF.out k
    simp only at e0 e1 n1 n2 n3 n4
    generalize (l.take k).foldl radMax 0=r at HS f1 f2 ⊢
    clear hp
    have hmx:=fun w=>run_max5 r x y w
    obtain⟨r',hr'⟩:∃ r',radMax r (x,y)=r':=⟨_,rfl⟩
    rw [hr'] at HS
    simp only [hr'] at hmx
    clear hr'
    go_wp2
    go_roundw
    case rel=>exact⟨k+1,by go_num,by omega,by rw [HS.out],by have:=Hf.out;(repeat first|exact Fr.refl _ _|assumption|apply Fr.n|apply Fr.d|apply Fr.a|refine Fr.s ?_ (.inr (by simp;try omega)) _)⟩
    case measure=>simp [intOf];omega
   ·obtain rfl:k=l.length:=by omega
    have e:(l.take l.length).foldl radMax 0=radius l:=by rw [List.take_length];exact H.out.symm
    rw [e]
    clear e
    go_wp2
    go_ret
    exact⟨rfl,Hf.out⟩
theorem before_calls {p q:Int×Int} {w:World}:Calls Try.prog 86 #[.agg #[.int .i64 p.1,.int .i64 p.2],.agg #[.int .i64 q.1,.int .i64 q.2]] w fun e w'=>e=.returned (.bool (before p q))∧Fr [] w w':=by
 obtain⟨px,py⟩:=p
 obtain⟨qx,qy⟩:=q
 simp only
 obtain⟨b,hb⟩:∃ b,before (px,py) (qx,qy)=b:=⟨_,rfl⟩
 rw [hb]
 unfold before at hb
 simp only at hb
 by_cases h1:py<qy
 ·obtain rfl:b=true:=by rw [← hb];simp [h1]
  clear hb
  go_enter Try.func86,Try.ntmps86
  go_wp2
  go_ret
  exact⟨rfl,by (repeat first|exact Fr.refl _ _|assumption|apply Fr.n|apply Fr.d|apply Fr.a|refine Fr.s ?_ (.inr (by simp;try omega)) _)⟩
 ·by_cases h2:py=qy
  ·subst h2
   by_cases h3:px<qx
   ·obtain rfl:b=true:=by rw [← hb];simp [h3]
    clear hb
    go_enter Try.func86,Try.ntmps86
    go_wp2
    go_ret
    exact⟨rfl,by (repeat first|exact Fr.refl _ _|assumption|apply Fr.n|apply Fr.d|apply Fr.a|refine Fr.s ?_ (.inr (by simp;try omega)) _)⟩
   ·obtain rfl:b=false:=by rw [← hb];simp [h3]
    clear hb
    go_enter Try.func86,Try.ntmps86
    go_wp2
    go_ret
    exact⟨rfl,by (repeat first|exact Fr.refl _ _|assumption|apply Fr.n|apply Fr.d|apply Fr.a|refine Fr.s ?_ (.inr (by simp;try omega)) _)⟩
  ·obtain rfl:b=false:=by rw [← hb];simp [h1,h2]
   have he:(py == qy)=false:=by simpa using h2
   clear hb
   go_enter Try.func86,Try.ntmps86
   go_wp2
   go_ret
   exact⟨rfl,by (repeat first|exact Fr.refl _ _|assumption|apply Fr.n|apply Fr.d|apply Fr.a|refine Fr.s ?_ (.inr (by simp;try omega)) _)⟩
set_option maxHeartbeats 4000000 in
theorem RHRight_calls {w:World} {l:List (Int×Int)} {a:Option Addr} {c:Nat} (hl:PtsAt w (.slice a l.length c) l) (hlen:l.length≤1000000) :
  Calls Try.prog 63 #[.slice a l.length c] w fun e w'=>e=.returned (.bool (hoodR l))∧Fr [] w w':=by
 have Hl:=Lib.hid hl
 clear hl
 by_cases h1:1≤l.length∧l.length≤25
 ·obtain⟨h1,h2⟩:=h1
  go_enter Try.func63,Try.ntmps63
  go_wp2
  go_loopw [3] (fun x wr=>∃ k:Nat,x=.int .i64 k∧k≤l.length∧(∀ j,j<k→hoodAt l j=true)∧Fr [] w wr) (fun x _=>l.length - (intOf x).toNat)
  case atStart=>exact⟨0,rfl,by omega,by omega,Fr.refl _ _⟩
  case round =>
   obtain⟨k,rfl,hk,hn,hf⟩:=hrel
   have Hk:=Lib.hid hn
   have Hf:=Lib.hid hf
   clear hn hf
   by_cases hlt:k<l.length
   ·obtain⟨⟨x,y⟩,hp⟩:∃ p,l[k]?=some p:=⟨_,List.getElem?_eq_getElem hlt⟩
    obtain⟨g,off,rfl,hg,e0,e1⟩:=(Hl.out.fr Hf.out).cell hp
    simp only at e0 e1
    cases k with
    | zero =>
     have HA:=Lib.hid (hoodAt_zero hp)
     clear hp
     simp only [Nat.zero_mul,Nat.add_zero] at e0 e1
     go_wp2
     (refine wRT (by kernel_rfl) (by kernel_rfl) ?_)
     go_wp2
     all_goals
      refine Strict.intro rfl ?_
      go_wp2
      first
       | (go_ret;exact⟨ret_bool' (hoodR_false hlt (HA.out.trans (by simp;try omega))).symm,by first|(have:=Hf.out;(repeat first|exact Fr.refl _ _|assumption|apply Fr.n|apply Fr.d|apply Fr.a|refine Fr.s ?_ (.inr (by simp;try omega)) _);done)|exact Fr.trans0 (by have:=Hf.out;(repeat first|exact Fr.refl _ _|assumption|apply Fr.n|apply Fr.d|apply Fr.a|refine Fr.s ?_ (.inr (by simp;try omega)) _)) Hf1.out⟩)
       | (
        go_roundw
        case rel =>
         refine⟨0+1,by go_num,by omega,fun j hj=>?_,by first|(have:=Hf.out;(repeat first|exact Fr.refl _ _|assumption|apply Fr.n|apply Fr.d|apply Fr.a|refine Fr.s ?_ (.inr (by simp;try omega)) _);done)|exact Fr.trans0 (by have:=Hf.out;(repeat first|exact Fr.refl _ _|assumption|apply Fr.n|apply Fr.d|apply Fr.a|refine Fr.s ?_ (.inr (by simp;try omega)) _)) Hf1.out⟩
         rcases Nat.lt_or_ge j (0) with h|h
         ·exact Hk.out j h
         ·obtain rfl:j=0:=by omega
          exact HA.out.trans (by simp;try omega)
        case measure=>simp [intOf];omega)
    | succ k =>
     obtain⟨⟨u,v⟩,hq⟩:∃ p,l[k]?=some p:=⟨_,List.getElem?_eq_getElem (by omega)⟩
     obtain⟨g',off',he,_,e2,e3⟩:=(Hl.out.fr Hf.out).cell hq
     cases he
     simp only at e2 e3
     have ha:=hoodAt_succ hp hq
     have hc:=fun w=>before_calls (p:=(u,v)) (q:=(x,y)) (w:=w)
     simp only at hc
     generalize before (u,v) (x,y)=b at ha hc
     have HA:=Lib.hid ha
     have HC:=Lib.hid hc
     clear hp hq ha hc
     cases b
     all_goals
      go_wp2
      (refine wRT (by kernel_rfl) (by kernel_rfl) ?_)
      go_wp2_with (refine (HC.out _).mono ?_;rintro e w1 ⟨rfl,hf⟩;have Hf1:=Lib.hid hf;clear hf)
      all_goals
       refine Strict.intro rfl ?_
       go_wp2
       first
        | (go_ret;exact⟨ret_bool' (hoodR_false hlt (HA.out.trans (by simp;try omega))).symm,by first|(have:=Hf.out;(repeat first|exact Fr.refl _ _|assumption|apply Fr.n|apply Fr.d|apply Fr.a|refine Fr.s ?_ (.inr (by simp;try omega)) _);done)|exact Fr.trans0 (by have:=Hf.out;(repeat first|exact Fr.refl _ _|assumption|apply Fr.n|apply Fr.d|apply Fr.a|refine Fr.s ?_ (.inr (by simp;try omega)) _)) Hf1.out⟩)
        | (
         go_roundw
         case rel =>
          refine⟨(k+1)+1,by go_num,by omega,fun j hj=>?_,by first|(have:=Hf.out;(repeat first|exact Fr.refl _ _|assumption|apply Fr.n|apply Fr.d|apply Fr.a|refine Fr.s ?_ (.inr (by simp;try omega)) _);done)|exact Fr.trans0 (by have:=Hf.out;(repeat first|exact Fr.refl _ _|assumption|apply Fr.n|apply Fr.d|apply Fr.a|refine Fr.s ?_ (.inr (by simp;try omega)) _)) Hf1.out⟩
          rcases Nat.lt_or_ge j ((k+1)) with h|h
          ·exact Hk.out j h
          ·obtain rfl:j=(k+1):=by omega
           exact HA.out.trans (by simp;try omega)
         case measure=>simp [intOf];omega)
   ·obtain rfl:k=l.length:=by omega
    go_wp2
    go_ret
    exact⟨ret_bool' (hoodR_true h1 h2 Hk.out).symm,Hf.out⟩
 ·rw [hoodR_len h1]
  have h2:l.length=0∨25<l.length:=by omega
  clear h1
  rcases h2 with h|h
  ·go_enter Try.func63,Try.ntmps63
   go_wp2
   go_ret
   exact⟨rfl,by (repeat first|exact Fr.refl _ _|assumption|apply Fr.n|apply Fr.d|apply Fr.a|refine Fr.s ?_ (.inr (by simp;try omega)) _)⟩
  ·go_enter Try.func63,Try.ntmps63
   go_wp2
   go_ret
   exact⟨rfl,by (repeat first|exact Fr.refl _ _|assumption|apply Fr.n|apply Fr.d|apply Fr.a|refine Fr.s ?_ (.inr (by simp;try omega)) _)⟩
end Go.Proofs.Ytppmnmheodimoaa
end
