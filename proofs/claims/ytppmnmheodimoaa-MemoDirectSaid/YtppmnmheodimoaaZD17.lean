/- Own texts of this claim, part 18: no condition. -/
import Derived.IntWalk
import Derived.Test.YtppmnmheodimoaaZD16
import Derived.Test.YtppmnmheodimoaaZD12
import Derived.Test.YtppmnmheodimoaaZD14
import Derived.Test.YtppmnmheodimoaaZD15
import Derived.Test.YtppmnmheodimoaaZD13
import Derived.Test.YtppmnmheodimoaaZD6
import Derived.Test.YtppmnmheodimoaaZD7
set_option linter.unusedVariables false
set_option linter.unusedSimpArgs false
section
namespace Go.Proofs.Ytppmnmheodimoaa
open Go Go.RowKit Rg Hp Pt
theorem place_p (x y:Int) (w:World):Calls Try.prog 71 #[.int .i64 x,.int .i64 y] w fun e w'=>e=.returned (.bool (placeB x y))∧w'=w:=by
 have hb:placeB x y=(((decide (x ≥ -1048576) && decide (x≤1048576)) && decide (y ≥ -1048576)) && decide (y≤1048576)):=by
  unfold placeB
  rw [Bool.eq_iff_iff]
  simp only [Bool.and_eq_true,decide_eq_true_eq];omega
 rw [hb]
 clear hb
 obtain⟨a,ha⟩:∃ a,decide (x ≥ -1048576)=a:=⟨_,rfl⟩
 obtain⟨b,hb⟩:∃ a,decide (x≤1048576)=a:=⟨_,rfl⟩
 obtain⟨c,hc⟩:∃ a,decide (y ≥ -1048576)=a:=⟨_,rfl⟩
 obtain⟨d,hd⟩:∃ a,decide (y≤1048576)=a:=⟨_,rfl⟩
 rw [ha,hb,hc,hd]
 cases a with
 | false =>
  go_enter Try.func71,Try.ntmps71
  go_wp2
  go_ret
  exact⟨by simp,rfl⟩
 | true =>
  cases b with
  | false =>
   go_enter Try.func71,Try.ntmps71
   go_wp2
   go_ret
   exact⟨by simp,rfl⟩
  | true =>
   cases c with
   | false =>
    go_enter Try.func71,Try.ntmps71
    go_wp2
    go_ret
    exact⟨by simp,rfl⟩
   | true =>
    go_enter Try.func71,Try.ntmps71
    go_wp2
    go_ret
    exact⟨by simp,rfl⟩
theorem before_p (p q:PC) (w:World):Calls Try.prog 72 #[pcV p,pcV q] w fun e w'=>e=.returned (.bool (pBef p q))∧Fr [] w w':=by
 obtain⟨x,y,s⟩:=p
 obtain⟨u,v,t⟩:=q
 unfold pcV pBef
 simp only
 by_cases h:y<v
 ·have hb:decide (y<v)=true:=by simpa using h
  rw [show decide (y<v∨y=v∧x<u)=true by simp [h]]
  clear h
  go_enter Try.func72,Try.ntmps72
  go_wp2
  go_ret
  exact⟨rfl,by (repeat first|exact Fr.refl _ _|assumption|apply Fr.n|apply Fr.d|apply Fr.a|refine Fr.s ?_ (.inr (by simp;try omega)) _)⟩
 ·have hb:decide (y<v)=false:=by simpa using h
  by_cases he:y=v
  ·subst he
   rw [show decide (y<y∨y=y∧x<u)=decide (x<u) by simp]
   obtain⟨c,hc⟩:∃ c,decide (x<u)=c:=⟨_,rfl⟩
   rw [hc]
   clear h
   have heq:(y == y)=true:=by simp
   go_enter Try.func72,Try.ntmps72
   go_wp2
   go_ret
   exact⟨rfl,by (repeat first|exact Fr.refl _ _|assumption|apply Fr.n|apply Fr.d|apply Fr.a|refine Fr.s ?_ (.inr (by simp;try omega)) _)⟩
  ·have heq:(y == v)=false:=by simpa using he
   rw [show decide (y<v∨y=v∧x<u)=false by simp [h,he]]
   clear h he
   go_enter Try.func72,Try.ntmps72
   go_wp2
   go_ret
   exact⟨rfl,by (repeat first|exact Fr.refl _ _|assumption|apply Fr.n|apply Fr.d|apply Fr.a|refine Fr.s ?_ (.inr (by simp;try omega)) _)⟩
set_option maxHeartbeats 8000000 in
set_option maxRecDepth 100000 in
theorem RRight_p {w:World} {l:List PC} {a:Option Addr} {c:Nat} (hl:CellsAtY w (.slice a l.length c) l) (hlen:l.length≤4000000000000000000) :
  Calls Try.prog 53 #[.slice a l.length c] w fun e w'=>e=.returned (.bool (rightP l))∧Fr [] w w':=by
 have Hl:=Lib.hid hl
 clear hl
 go_enter Try.func53,Try.ntmps53
 go_wp2
 go_loopw [3] (fun x wr=>∃ k:Nat,x=.int .i64 k∧k≤l.length∧(∀ j,j<k→rgtAt l j=true)∧Fr [] w wr) (fun x _=>l.length - (intOf x).toNat)
 case atStart=>exact⟨0,rfl,by omega,by omega,Fr.refl _ _⟩
 case round =>
  obtain⟨k,rfl,hk,hn,hf⟩:=hrel
  have Hk:=Lib.hid hn
  have Hf:=Lib.hid hf
  clear hn hf
  by_cases hlt:k<l.length
  ·obtain⟨⟨x,y,st⟩,hp⟩:∃ p,l[k]?=some p:=⟨_,List.getElem?_eq_getElem hlt⟩
   obtain⟨g,off,rfl,hg,e0,e1,e2⟩:=(Hl.out.fr Hf.out).cell hp
   simp only at e0 e1 e2
   have HPL:=Lib.hid (place_p x y)
   cases k with
   | zero =>
    have HA:=Lib.hid (rgt_zero hp)
    clear hp
    simp only [Nat.zero_mul,Nat.add_zero] at e0 e1 e2
    unfold cellB at HA
    simp only at HA
    generalize placeB x y=pl at HA HPL
    cases pl with
    | false =>
     go_wp2
     (refine wRT (by kernel_rfl) (by kernel_rfl) ?_)
     go_wp2_with fail
     refine (HPL.out _).mono ?_
     rintro e w1 ⟨rfl,rfl⟩
     go_wp2
     refine Strict.intro rfl ?_
     go_wp2
     go_ret
     exact⟨ret_bool' (rgt_false (by omega) (HA.out.trans (by simp ))).symm,by have:=Hf.out;(repeat first|exact Fr.refl _ _|assumption|apply Fr.n|apply Fr.d|apply Fr.a|refine Fr.s ?_ (.inr (by simp;try omega)) _)⟩
    | true =>
     by_cases h1:st<1
     ·have hd1:decide (st<1)=true:=by simpa using h1
      go_wp2
      (refine wRT (by kernel_rfl) (by kernel_rfl) ?_)
      go_wp2_with fail
      refine (HPL.out _).mono ?_
      rintro e w1 ⟨rfl,rfl⟩
      go_wp2
      refine Strict.intro rfl ?_
      go_wp2
      go_ret
      exact⟨ret_bool' (rgt_false (by omega) (HA.out.trans (by simp ;omega))).symm,by have:=Hf.out;(repeat first|exact Fr.refl _ _|assumption|apply Fr.n|apply Fr.d|apply Fr.a|refine Fr.s ?_ (.inr (by simp;try omega)) _)⟩
     ·have hd1:decide (st<1)=false:=by simpa using h1
      by_cases h8:st ≥ 8
      ·have hd8:decide (st ≥ 8)=true:=by simpa using h8
       go_wp2
       (refine wRT (by kernel_rfl) (by kernel_rfl) ?_)
       go_wp2_with fail
       refine (HPL.out _).mono ?_
       rintro e w1 ⟨rfl,rfl⟩
       go_wp2
       refine Strict.intro rfl ?_
       go_wp2
       go_ret
       exact⟨ret_bool' (rgt_false (by omega) (HA.out.trans (by simp ;omega))).symm,by have:=Hf.out;(repeat first|exact Fr.refl _ _|assumption|apply Fr.n|apply Fr.d|apply Fr.a|refine Fr.s ?_ (.inr (by simp;try omega)) _)⟩
      ·have hd8:decide (st ≥ 8)=false:=by simpa using h8
       go_wp2
       (refine wRT (by kernel_rfl) (by kernel_rfl) ?_)
       go_wp2_with fail
       refine (HPL.out _).mono ?_
       rintro e w1 ⟨rfl,rfl⟩
       go_wp2
       refine Strict.intro rfl ?_
       go_wp2
       go_roundw
       case rel =>
        refine⟨0+1,by go_num,by omega,fun j hj=>?_,by have:=Hf.out;(repeat first|exact Fr.refl _ _|assumption|apply Fr.n|apply Fr.d|apply Fr.a|refine Fr.s ?_ (.inr (by simp;try omega)) _)⟩
        rcases Nat.lt_or_ge j (0) with h|h
        ·exact Hk.out j h
        ·obtain rfl:j=0:=by omega
         exact HA.out.trans (by simp ;omega)
       case measure=>simp [intOf];omega
   | succ k =>
    obtain⟨⟨u,v,su⟩,hq⟩:∃ p,l[k]?=some p:=⟨_,List.getElem?_eq_getElem (by omega)⟩
    obtain⟨g',off',he,_,e3,e4,e5⟩:=(Hl.out.fr Hf.out).cell hq
    cases he
    simp only at e3 e4 e5
    have HA:=Lib.hid (rgt_succ hp hq)
    have HOR:=Lib.hid (before_p ⟨u,v,su⟩ ⟨x,y,st⟩)
    unfold cellB at HA
    unfold pcV at HOR
    simp only at HA HOR
    generalize placeB x y=pl at HA HPL
    generalize pBef ⟨u,v,su⟩ ⟨x,y,st⟩=be at HA HOR
    clear hp hq
    cases pl with
    | false =>
     go_wp2
     (refine wRT (by kernel_rfl) (by kernel_rfl) ?_)
     go_wp2_with fail
     refine (HPL.out _).mono ?_
     rintro e w1 ⟨rfl,rfl⟩
     go_wp2
     refine Strict.intro rfl ?_
     go_wp2
     go_ret
     exact⟨ret_bool' (rgt_false (by omega) (HA.out.trans (by simp ))).symm,by have:=Hf.out;(repeat first|exact Fr.refl _ _|assumption|apply Fr.n|apply Fr.d|apply Fr.a|refine Fr.s ?_ (.inr (by simp;try omega)) _)⟩
    | true =>
     by_cases h1:st<1
     ·have hd1:decide (st<1)=true:=by simpa using h1
      go_wp2
      (refine wRT (by kernel_rfl) (by kernel_rfl) ?_)
      go_wp2_with fail
      refine (HPL.out _).mono ?_
      rintro e w1 ⟨rfl,rfl⟩
      go_wp2
      refine Strict.intro rfl ?_
      go_wp2
      go_ret
      exact⟨ret_bool' (rgt_false (by omega) (HA.out.trans (by simp ;omega))).symm,by have:=Hf.out;(repeat first|exact Fr.refl _ _|assumption|apply Fr.n|apply Fr.d|apply Fr.a|refine Fr.s ?_ (.inr (by simp;try omega)) _)⟩
     ·have hd1:decide (st<1)=false:=by simpa using h1
      by_cases h8:st ≥ 8
      ·have hd8:decide (st ≥ 8)=true:=by simpa using h8
       go_wp2
       (refine wRT (by kernel_rfl) (by kernel_rfl) ?_)
       go_wp2_with fail
       refine (HPL.out _).mono ?_
       rintro e w1 ⟨rfl,rfl⟩
       go_wp2
       refine Strict.intro rfl ?_
       go_wp2
       go_ret
       exact⟨ret_bool' (rgt_false (by omega) (HA.out.trans (by simp ;omega))).symm,by have:=Hf.out;(repeat first|exact Fr.refl _ _|assumption|apply Fr.n|apply Fr.d|apply Fr.a|refine Fr.s ?_ (.inr (by simp;try omega)) _)⟩
      ·have hd8:decide (st ≥ 8)=false:=by simpa using h8
       cases be with
       | true =>
        go_wp2
        (refine wRT (by kernel_rfl) (by kernel_rfl) ?_)
        go_wp2_with fail
        refine (HPL.out _).mono ?_
        rintro e w1 ⟨rfl,rfl⟩
        go_wp2_with fail
        refine (HOR.out _).mono ?_
        rintro e w3 ⟨rfl,hf3⟩
        have Hf:=Lib.hid (Fr.trans0 (by have:=Hf.out;(repeat first|exact Fr.refl _ _|assumption|apply Fr.n|apply Fr.d|apply Fr.a|refine Fr.s ?_ (.inr (by simp;try omega)) _)) hf3:Fr [] w w3)
        clear hf3
        go_wp2
        refine Strict.intro rfl ?_
        go_wp2
        go_roundw
        case rel =>
         refine⟨k+1+1,by go_num,by omega,fun j hj=>?_,by have:=Hf.out;(repeat first|exact Fr.refl _ _|assumption|apply Fr.n|apply Fr.d|apply Fr.a|refine Fr.s ?_ (.inr (by simp;try omega)) _)⟩
         rcases Nat.lt_or_ge j (k+1) with h|h
         ·exact Hk.out j h
         ·obtain rfl:j=k+1:=by omega
          exact HA.out.trans (by simp ;omega)
        case measure=>simp [intOf];omega
       | false =>
        go_wp2
        (refine wRT (by kernel_rfl) (by kernel_rfl) ?_)
        go_wp2_with fail
        refine (HPL.out _).mono ?_
        rintro e w1 ⟨rfl,rfl⟩
        go_wp2_with fail
        refine (HOR.out _).mono ?_
        rintro e w3 ⟨rfl,hf3⟩
        have Hf:=Lib.hid (Fr.trans0 (by have:=Hf.out;(repeat first|exact Fr.refl _ _|assumption|apply Fr.n|apply Fr.d|apply Fr.a|refine Fr.s ?_ (.inr (by simp;try omega)) _)) hf3:Fr [] w w3)
        clear hf3
        go_wp2
        refine Strict.intro rfl ?_
        go_wp2
        go_ret
        exact⟨ret_bool' (rgt_false (by omega) (HA.out.trans (by simp ))).symm,by have:=Hf.out;(repeat first|exact Fr.refl _ _|assumption|apply Fr.n|apply Fr.d|apply Fr.a|refine Fr.s ?_ (.inr (by simp;try omega)) _)⟩
  ·obtain rfl:k=l.length:=by omega
   by_cases h5:l.length≤5000
   ·have hd5:decide (((l.length:Nat):Int)≤5000)=true:=by simp;omega
    have HT:=Lib.hid (rgt_true h5 Hk.out)
    go_wp2
    go_ret
    exact⟨ret_bool' HT.out.symm,Hf.out⟩
   ·have hd5:decide (((l.length:Nat):Int)≤5000)=false:=by simp;omega
    have HT:=Lib.hid (show rightP l=false by unfold rightP;rw [decide_eq_false h5,Bool.false_and])
    go_wp2
    go_ret
    exact⟨ret_bool' HT.out.symm,Hf.out⟩
end Go.Proofs.Ytppmnmheodimoaa
end
section
namespace Go.Proofs.Ytppmnmheodimoaa
open Go Go.RowKit Rg Hp Bn
def RBigCall (w:World) (z:Int) (e:Ending) (w':World):Prop:=∃ v,e=.returned (.tuple #[v,.int .i64 0])∧BigZ w' (w.heap.size≤·) v z∧Fr [] w w'
def RBigCall1 (w:World) (z:Int) (e:Ending) (w':World):Prop:=∃ v,e=.returned v∧BigZ w' (w.heap.size≤·) v z∧Fr [] w w'
section
variable {w:World} {A B:Nat→Prop} {va vb:Value} {x y:Int}
theorem RAdd_z (ha:BigZ w A va x) (hb:BigZ w B vb y) (hx:Zok x) (hy:Zok y) (hs:Zok (x+y)):Calls Try.prog 73 #[va,vb] w (RBigCall w (x+y)):=by
 obtain⟨a,c,rfl,_,_,h3⟩:=ha
 obtain⟨a',c',rfl,_,_,k3⟩:=hb
 refine (RAdd_calls h3 k3 (zd_dig x) (zd_dig y) (by have:=zd_len hx;omega) (by have:=zd_len hy;omega)).mono ?_
 rw [addS_z hx hy hs]
 rintro e w' ⟨a,c,⟨h1,h2⟩,rfl,h3,hf⟩
 exact⟨_,rfl,⟨a,c,rfl,h1,h2,h3⟩,hf⟩
theorem RCompare_z (ha:BigZ w A va x) (hb:BigZ w B vb y) (hx:Zok x) (hy:Zok y):Calls Try.prog 76 #[va,vb] w fun e w'=>e=.returned (.int .i64 (cmpIY x y))∧Fr [] w w':=by
 obtain⟨a,c,rfl,_,_,h3⟩:=ha
 obtain⟨a',c',rfl,_,_,k3⟩:=hb
 have:=RCompare_calls (na:=decide (x<0)) (nb:=decide (y<0)) h3 k3 (zd_dig x) (zd_dig y) (by have:=zd_len hx;omega) (by have:=zd_len hy;omega)
 rwa [cmpS_z hx hy] at this
theorem RFrom_z (h1:-9223372036854775808≤x) (h2:x<9223372036854775808):Calls Try.prog 74 #[.int .i64 x] w (RBigCall1 w x):=by
 refine (RFrom_calls h1 h2).mono ?_
 rw [fromS_z (zok_int h1 h2)]
 rintro e w' ⟨a,c,⟨h1,h2⟩,rfl,h3,hf⟩
 exact⟨_,rfl,⟨a,c,rfl,h1,h2,h3⟩,hf⟩
theorem RShift_z {n:Nat} (ha:BigZ w A va 1) (hn:n≤2047):Calls Try.prog 93 #[va,.int .i64 n] w (RBigCall w ((2 ^ n:Nat):Int)):=by
 obtain⟨a,c,rfl,h0,_,h3⟩:=ha
 refine (RShift_calls (neg:=decide ((1:Int)<0)) h3 (zd_dig 1) (by have:=zd_len (z:=1) (zok_int (by omega) (by omega));omega) (by omega) (by omega)).mono ?_
 rw [show decide ((1:Int)<0)=false from rfl,shift_one hn]
 rintro e w' ⟨a,c,⟨h1,h2⟩,rfl,h3,hf⟩
 refine⟨_,rfl,⟨a,c,?_,h1,h2,h3⟩,hf⟩
 rw [decide_eq_false (Int.not_lt.2 (Int.natCast_nonneg _))]
end
end Go.Proofs.Ytppmnmheodimoaa
end
section
namespace Go.Proofs.Ytppmnmheodimoaa
open Go Go.RowKit Rg Hp Bn
section
variable {w:World} {A B:Nat→Prop} {va vb:Value} {x y:Int}
theorem RNeg_z (ha:BigZ w A va x) (hx:Zok x):Calls Try.prog 75 #[va] w (RBigCall1 w (-x)):=by
 obtain⟨a,c,rfl,h0,_,h3⟩:=ha
 refine (RNeg_calls h3 (zd_dig x) (by have:=zd_len hx;omega)).mono ?_
 rw [negS_z hx]
 rintro e w' ⟨a,c,⟨h1,h2⟩,rfl,h3,hf⟩
 exact⟨_,rfl,⟨a,c,rfl,h1,h2,h3⟩,hf⟩
end
end Go.Proofs.Ytppmnmheodimoaa
end
section
namespace Go.Proofs.Ytppmnmheodimoaa
open Go Go.RowKit Rg Mp Hp Qs Ev Bn
def BvOff (w:World) (F:List Nat) (e:BV):Prop:=BigIn w false (zd (e.1:Int)) e.2.1 e.2.2∧∀ x∈bvF e,x∉F
theorem BvOff.step {w w':World} {F F':List Nat} {e:BV} (h:BvOff w F e) (hf:Fr F w w') (hs:∀ x∈F',x∈F∨w.heap.size≤x):BvOff w' F' e:=by
 have hl:=big_lt h.1
 refine⟨big_keep h.1 fun x hx=>hf.block x (hl x hx) (h.2 x hx),fun x hx hm=>?_⟩
 rcases hs x hm with h5|h5
 ·exact h.2 x hx h5
 ·have:=hl x hx
  omega
theorem BvOff.fr {w w':World} {F:List Nat} {e:BV} (h:BvOff w F e) (hf:Fr [] w w'):BvOff w' F e:=⟨h.1.fr hf,h.2⟩
theorem zok_small {z:Int} (h1:-36893488147419103232≤z) (h2:z≤36893488147419103232):Zok z:=by
 unfold Zok
 have:(36893488147419103232:Nat)<4294967296 ^ 64:=by
  rw [show (64:Nat)=3+61 from rfl,Nat.pow_add]
  have h1:=Nat.one_le_pow 61 4294967296 (by omega)
  have:=Nat.mul_le_mul_left (4294967296 ^ 3) h1
  omega
 omega
theorem Rpower_h {W w:World} {Ps:List Res} (h:Has W w Ps) {n:Nat} (hn:n≤2047) :
  Calls Try.prog 77 #[.int .i64 n] w fun e w'=>∃ a c,e=.returned (.agg #[.bool false,.slice a (zd ((2 ^ n:Nat):Int)).length c])∧Has W w' (bigR false (zd ((2 ^ n:Nat):Int)) a c::Ps):=by
 have HN:=Lib.hid hn
 have h1:=hAL h #[.bool false,.slice none 0 0] 114
 obtain⟨r4,hr4⟩:∃ r4,w.heap.size=r4:=⟨_,rfl⟩
 rw [hr4] at h1
 have H1:=Lib.hid h1
 obtain⟨V,hV⟩:∃ V,2 ^ n=V:=⟨_,rfl⟩
 rw [hV]
 have HV:=Lib.hid hV
 clear hn h h1 hV
 go_enter Try.func77,Try.ntmps77
 go_wp2_with fail
 refine (RFrom_z (by decide) (by decide)).mono ?_
 rintro e w1 ⟨v1,rfl,hb1,hf1⟩
 have H2:=Lib.hid (H1.out.step hf1)
 have HB1:=Lib.hid hb1
 clear hb1 hf1 H1
 go_wp2_with fail
 refine (RShift_z HB1.out HN.out).mono ?_
 rintro e w2 ⟨v2,rfl,hb2,hf2⟩
 obtain⟨a,c,rfl,h3⟩:=has_big H2.out hf2 hb2 (zok_pow HN.out)
 rw [HV.out] at h3 ⊢
 rw [show decide (((V:Nat):Int)<0)=false by simp] at h3 ⊢
 have h3:=h3.swap
 have hr:=h3.blk
 have r0:=hEC hr 0
 have r1:=hEC hr 1
 have rz0:=hEF hr 0
 have rz1:=hEF hr 1
 have rl:=lBk hr
 clear hr
 have H3:=Lib.hid h3
 clear hb2 hf2 h3 H2 HB1
 go_wp2
 have H5:=Lib.hid (hAL (hST (hST H3.out 0 (.bool false)) 1 (.slice a (zd (V:Int)).length c)) #[.bool false,.slice a (zd (V:Int)).length c] 114).swap
 refine bodyPost_ret (big_result1 rfl (b:=r4) (x:=.bool false) (y:=.slice a (zd (V:Int)).length c) rfl ?_) rfl ⟨a,c,rfl,?_⟩
 ·exact H5.out.blk
 ·exact H5.out.drop.drop
def lessB (x:Int) (n:Nat):Bool:=decide (0≤x∧x<((2 ^ n:Nat):Int))
theorem Rless_z {w:World} {v:Value} {x:Int} {A:Nat→Prop} (hv:BigZ w A v x) (hx:Zok x) {n:Nat} (hn:n≤2047):Calls Try.prog 55 #[v,.int .i64 n] w fun e w'=>e=.returned (.bool (lessB x n))∧Fr [] w w':=by
 have hv':=hv
 obtain⟨a,c,rfl,_,_,_⟩:=hv'
 have HN:=Lib.hid hn
 have HV:=Lib.hid hv
 have HX:=Lib.hid hx
 have HC0:=Lib.hid (show (decide (cmpIY x 0 ≥ 0)=decide (0≤x)) from by unfold cmpIY;rw [decide_eq_decide];split<;>(try split)<;>omega)
 have HC1:=Lib.hid (show (decide (cmpIY x ((2 ^ n:Nat):Int)<0)=decide (x<((2 ^ n:Nat):Int))) from by unfold cmpIY;rw [decide_eq_decide];split<;>(try split)<;>omega)
 have HR:=Lib.hid (show lessB x n=(decide (0≤x) && decide (x<((2 ^ n:Nat):Int))) from by unfold lessB;rw [Bool.decide_and])
 obtain⟨c0,hc0⟩:∃ c0,cmpIY x 0=c0:=⟨_,rfl⟩
 obtain⟨c1,hc1⟩:∃ c1,cmpIY x ((2 ^ n:Nat):Int)=c1:=⟨_,rfl⟩
 rw [hc0] at HC0
 rw [hc1] at HC1
 have E0:=Lib.hid hc0
 have E1:=Lib.hid hc1
 obtain⟨ng,hng⟩:∃ ng,decide (x<0)=ng:=⟨_,rfl⟩
 obtain⟨ln,hln⟩:∃ ln,(zd x).length=ln:=⟨_,rfl⟩
 rw [hng,hln] at HV ⊢
 clear hn hv hx hc0 hc1 hng hln
 rw [HR.out]
 by_cases h0:0≤x
 ·have hd0:decide (c0 ≥ 0)=true:=by rw [HC0.out];simpa using h0
  have hl0:decide (0≤x)=true:=by simpa using h0
  rw [hl0,Bool.true_and,← HC1.out]
  clear h0 hl0
  go_enter Try.func55,Try.ntmps55
  go_wp2
  refine wRS [([0,1],[0]),([2,3,4,5,6,7],[5]),([8,9,10,11],[])] (by kernel_rfl) (by kernel_rfl) ?_
  (simp only [wpSegs,pick,Array.getD_eq_getD_getElem?,List.getElem?_toArray,List.getElem?_cons_succ,List.getElem?_cons_zero,Option.getD_some])
  go_wp2_with fail
  refine (RFrom_z (by decide) (by decide)).mono ?_
  rintro e w1 ⟨v1,rfl,hb1,hf1⟩
  have hx_:=(hf1.block (w.heap.size) (by first|(simp;done)|(simp;omega)) (by simp)).trans (show _=some (.cells #[.bool ng,.slice a ln c] 114 (0,0)) by (repeat first|rw [if_pos (by omega)]|rw [if_neg (by omega)]|rw [hDR]|rw [hDN]|rw [hAz]|rw [hSz]|rw [hAC]|rw [hSC]|rw [oMS]|rw [uPC]|rw [lSZ]|rw [lSS]|rfl))
  have x0:=hEC hx_ 0
  have x1:=hEC hx_ 1
  have xl:=lBk hx_
  have Hx:=Lib.hid hx_
  clear hx_
  have HB1:=Lib.hid hb1
  have HF1:=Lib.hid (Fr.trans0 (by (repeat first|exact Fr.refl _ _|assumption|apply Fr.n|apply Fr.d|apply Fr.a|refine Fr.s ?_ (.inr (by simp;try omega)) _):Fr [] w _) hf1)
  clear hb1 hf1
  go_wp2
  refine Mid.intro ⟨⟨aGR (T:=114) (cs:=[.bool ng,.slice a ln c]) rfl rfl rfl Try.underlying114 rfl (by kernel_rfl) (fun j v hj=>?rngA) rfl,trivial⟩,?_⟩
  case rngA =>
   rw [Nat.zero_add,hEC Hx.out,← hj]
   exact (Array.getElem?_toList (xs:=#[Value.bool ng,.slice a ln c])).symm
  go_wp2_with fail
  refine (RCompare_z (HV.out.fr0 (HF1.out.trans0 (by (repeat first|exact Fr.refl _ _|assumption|apply Fr.n|apply Fr.d|apply Fr.a|refine Fr.s ?_ (.inr (by simp;try omega)) _)))) (HB1.out.fr0 (by (repeat first|exact Fr.refl _ _|assumption|apply Fr.n|apply Fr.d|apply Fr.a|refine Fr.s ?_ (.inr (by simp;try omega)) _))) HX.out (zok_int (by decide) (by decide))).mono ?_
  rw [E0.out]
  rintro e w2 ⟨rfl,hf2⟩
  (try clear x0)
  (try clear x1)
  (try clear xl)
  have hx_:=(hf2.block _ (lBk Hx.out) (by simp)).trans Hx.out
  clear Hx
  have x0:=hEC hx_ 0
  have x1:=hEC hx_ 1
  have xl:=lBk hx_
  have Hx:=Lib.hid hx_
  clear hx_
  have HF2:=Lib.hid (HF1.out.trans0 (Fr.trans0 (by (repeat first|exact Fr.refl _ _|assumption|apply Fr.n|apply Fr.d|apply Fr.a|refine Fr.s ?_ (.inr (by simp;try omega)) _)) hf2))
  clear hf2 HF1 HB1
  go_wp2_with fail
  refine (Rpower_h (Has.nil (Fr.refl [] _)) HN.out).mono ?_
  rintro e w3 ⟨a3,c3,rfl,h3⟩
  (try clear x0)
  (try clear x1)
  (try clear xl)
  have hx_:=(h3.fr.block _ (lBk Hx.out) (by simp)).trans Hx.out
  clear Hx
  have x0:=hEC hx_ 0
  have x1:=hEC hx_ 1
  have xl:=lBk hx_
  have Hx:=Lib.hid hx_
  clear hx_
  have HB3:=Lib.hid (show BigZ w3 (fun _=>True) (.agg #[.bool false,.slice a3 (zd ((2 ^ n:Nat):Int)).length c3]) ((2 ^ n:Nat):Int) from by
   obtain⟨G,hG,_⟩:=h3.head
   exact in_z hG)
  have HF3:=Lib.hid (HF2.out.trans0 (Fr.trans0 (by (repeat first|exact Fr.refl _ _|assumption|apply Fr.n|apply Fr.d|apply Fr.a|refine Fr.s ?_ (.inr (by simp;try omega)) _)) h3.fr))
  clear h3 HF2
  go_wp2
  refine Mid.intro ⟨⟨aGR (T:=114) (cs:=[.bool ng,.slice a ln c]) rfl rfl rfl Try.underlying114 rfl (by kernel_rfl) (fun j v hj=>?rngB) rfl,trivial⟩,?_⟩
  case rngB =>
   rw [Nat.zero_add,hEC Hx.out,← hj]
   exact (Array.getElem?_toList (xs:=#[Value.bool ng,.slice a ln c])).symm
  go_wp2_with fail
  refine (RCompare_z (HV.out.fr0 (HF3.out.trans0 (by (repeat first|exact Fr.refl _ _|assumption|apply Fr.n|apply Fr.d|apply Fr.a|refine Fr.s ?_ (.inr (by simp;try omega)) _)))) (HB3.out.fr0 (by (repeat first|exact Fr.refl _ _|assumption|apply Fr.n|apply Fr.d|apply Fr.a|refine Fr.s ?_ (.inr (by simp;try omega)) _))) HX.out (zok_pow HN.out)).mono ?_
  rw [E1.out]
  rintro e w4 ⟨rfl,hf4⟩
  have HF4:=Lib.hid (HF3.out.trans0 (Fr.trans0 (by (repeat first|exact Fr.refl _ _|assumption|apply Fr.n|apply Fr.d|apply Fr.a|refine Fr.s ?_ (.inr (by simp;try omega)) _)) hf4))
  clear hf4 HF3 HB3
  go_wp2
  refine Mid.intro ⟨trivial,Strict.intro rfl ?_⟩
  go_wp2
  go_ret
  exact⟨rfl,HF4.out.trans0 (by (repeat first|exact Fr.refl _ _|assumption|apply Fr.n|apply Fr.d|apply Fr.a|refine Fr.s ?_ (.inr (by simp;try omega)) _))⟩
 ·have hd0:decide (c0 ≥ 0)=false:=by rw [HC0.out];simpa using h0
  have hl0:decide (0≤x)=false:=by simpa using h0
  rw [hl0,Bool.false_and]
  clear h0 hl0
  go_enter Try.func55,Try.ntmps55
  go_wp2
  refine wRS [([0,1],[0]),([2,3,4,5,6,7],[5]),([8,9,10,11],[])] (by kernel_rfl) (by kernel_rfl) ?_
  (simp only [wpSegs,pick,Array.getD_eq_getD_getElem?,List.getElem?_toArray,List.getElem?_cons_succ,List.getElem?_cons_zero,Option.getD_some])
  go_wp2_with fail
  refine (RFrom_z (by decide) (by decide)).mono ?_
  rintro e w1 ⟨v1,rfl,hb1,hf1⟩
  have hx_:=(hf1.block (w.heap.size) (by first|(simp;done)|(simp;omega)) (by simp)).trans (show _=some (.cells #[.bool ng,.slice a ln c] 114 (0,0)) by (repeat first|rw [if_pos (by omega)]|rw [if_neg (by omega)]|rw [hDR]|rw [hDN]|rw [hAz]|rw [hSz]|rw [hAC]|rw [hSC]|rw [oMS]|rw [uPC]|rw [lSZ]|rw [lSS]|rfl))
  have x0:=hEC hx_ 0
  have x1:=hEC hx_ 1
  have xl:=lBk hx_
  have Hx:=Lib.hid hx_
  clear hx_
  have HB1:=Lib.hid hb1
  have HF1:=Lib.hid (Fr.trans0 (by (repeat first|exact Fr.refl _ _|assumption|apply Fr.n|apply Fr.d|apply Fr.a|refine Fr.s ?_ (.inr (by simp;try omega)) _):Fr [] w _) hf1)
  clear hb1 hf1
  go_wp2
  refine Mid.intro ⟨⟨aGR (T:=114) (cs:=[.bool ng,.slice a ln c]) rfl rfl rfl Try.underlying114 rfl (by kernel_rfl) (fun j v hj=>?rngC) rfl,trivial⟩,?_⟩
  case rngC =>
   rw [Nat.zero_add,hEC Hx.out,← hj]
   exact (Array.getElem?_toList (xs:=#[Value.bool ng,.slice a ln c])).symm
  go_wp2_with fail
  refine (RCompare_z (HV.out.fr0 (HF1.out.trans0 (by (repeat first|exact Fr.refl _ _|assumption|apply Fr.n|apply Fr.d|apply Fr.a|refine Fr.s ?_ (.inr (by simp;try omega)) _)))) (HB1.out.fr0 (by (repeat first|exact Fr.refl _ _|assumption|apply Fr.n|apply Fr.d|apply Fr.a|refine Fr.s ?_ (.inr (by simp;try omega)) _))) HX.out (zok_int (by decide) (by decide))).mono ?_
  rw [E0.out]
  rintro e w2 ⟨rfl,hf2⟩
  have HF2:=Lib.hid (HF1.out.trans0 (Fr.trans0 (by (repeat first|exact Fr.refl _ _|assumption|apply Fr.n|apply Fr.d|apply Fr.a|refine Fr.s ?_ (.inr (by simp;try omega)) _)) hf2))
  clear hf2 HF1 HB1
  go_wp2
  refine Mid.intro ⟨⟨fun o ho hw=>by obtain rfl:=Option.some.inj ho;exact absurd hw (by simp [Region.wanted,yielded]),trivial⟩,?_⟩
  go_wp2
  refine Mid.intro ⟨trivial,Strict.intro rfl ?_⟩
  go_wp2
  go_ret
  exact⟨rfl,HF2.out.trans0 (by (repeat first|exact Fr.refl _ _|assumption|apply Fr.n|apply Fr.d|apply Fr.a|refine Fr.s ?_ (.inr (by simp;try omega)) _))⟩
theorem Rminus_h {W w:World} {Ps:List Res} (h:Has W w Ps) {x y:Int} (hx:-9223372036854775808≤x∧x<9223372036854775808) (hy:-9223372036854775808≤y∧y<9223372036854775808) :
  Calls Try.prog 54 #[.int .i64 x,.int .i64 y] w fun e w'=>∃ a c,e=.returned (.agg #[.bool (decide (x - y<0)),.slice a (zd (x - y)).length c])∧Has W w' (bigR (decide (x - y<0)) (zd (x - y)) a c::Ps):=by
 have HA:=Lib.hid hx
 have HB:=Lib.hid hy
 have h1:=hAL h #[.bool false,.slice none 0 0] 114
 obtain⟨r4,hr4⟩:∃ r4,w.heap.size=r4:=⟨_,rfl⟩
 rw [hr4] at h1
 have H1:=Lib.hid h1
 obtain⟨ng,hng⟩:∃ ng,decide (x - y<0)=ng:=⟨_,rfl⟩
 obtain⟨D,hD⟩:∃ D,zd (x - y)=D:=⟨_,rfl⟩
 rw [hng,hD]
 have HNG:=Lib.hid hng
 have HD:=Lib.hid hD
 clear hx hy h h1 hng hD
 go_enter Try.func54,Try.ntmps54
 go_wp2_with fail
 refine (RFrom_z HA.out.1 HA.out.2).mono ?_
 rintro e w1 ⟨v1,rfl,hb1,hf1⟩
 have H2:=Lib.hid (H1.out.step hf1)
 have HB1:=Lib.hid hb1
 clear hb1 hf1 H1
 go_wp2_with fail
 refine (RFrom_z HB.out.1 HB.out.2).mono ?_
 rintro e w2 ⟨v2,rfl,hb2,hf2⟩
 have H3:=Lib.hid (H2.out.step hf2)
 have HB2:=Lib.hid hb2
 have HF12:=Lib.hid hf2
 clear hb2 hf2 H2
 go_wp2_with fail
 refine (RNeg_z HB2.out (zok_int HB.out.1 HB.out.2)).mono ?_
 rintro e w3 ⟨v3,rfl,hb3,hf3⟩
 have H4:=Lib.hid (H3.out.step hf3)
 have HB3:=Lib.hid hb3
 have HF13:=Lib.hid (HF12.out.trans0 hf3)
 clear hb3 hf3 HB2 H3 HF12
 go_wp2_with fail
 refine (RAdd_z (HB1.out.fr0 HF13.out) HB3.out (zok_int HA.out.1 HA.out.2) (zok_small (by have:=HB.out;omega) (by have:=HB.out;omega)) (zok_small (by have:=HB.out;have:=HA.out;omega) (by have:=HB.out;have:=HA.out;omega))).mono ?_
 rw [← Int.sub_eq_add_neg]
 rintro e w4 ⟨v4,rfl,hb4,hf4⟩
 obtain⟨a,c,rfl,h5⟩:=has_big H4.out hf4 hb4 (zok_small (by have:=HB.out;have:=HA.out;omega) (by have:=HB.out;have:=HA.out;omega))
 rw [HNG.out,HD.out] at h5 ⊢
 have h5:=h5.swap
 have hr:=h5.blk
 have r0:=hEC hr 0
 have r1:=hEC hr 1
 have rz0:=hEF hr 0
 have rz1:=hEF hr 1
 have rl:=lBk hr
 clear hr
 have H5:=Lib.hid h5
 clear hb4 hf4 h5 H4 HB1 HB3 HF13
 go_wp2
 have H6:=Lib.hid (hAL (hST (hST H5.out 0 (.bool ng)) 1 (.slice a D.length c)) #[.bool ng,.slice a D.length c] 114).swap
 refine bodyPost_ret (big_result1 rfl (b:=r4) (x:=.bool ng) (y:=.slice a D.length c) rfl ?_) rfl ⟨a,c,rfl,?_⟩
 ·exact H6.out.blk
 ·exact H6.out.drop.drop
end Go.Proofs.Ytppmnmheodimoaa
end
section
namespace Go.Proofs.Hp
open Go Go.RowKit
theorem hAP {W w w9:World} {Ps:List Res} {T size n n' g:Nat} {v v':Value} {xs xs':List Value} (h:Has W w (Hp.row T size v n xs::Ps)) (hown:w9.ownsRow 0 T size v' n' xs') (hv:v'.ownBlock=some g) (hf:Fr v.ownBlock.toList w w9) (hg:v.ownBlock=some g∨w.heap.size≤g):Has W w9 (Hp.row T size v' n' xs'::Ps) :=
 h.turn fun F ⟨h1,h2⟩=>⟨[g],⟨hown,by rw [hv];rfl⟩,by rw [h2];exact hf,fun x hx=>by
  simp only [List.mem_singleton] at hx
  subst hx
  rcases hg with hg|hg
  ·left;rw [h2,hg];simp
  ·right;exact hg⟩
end Go.Proofs.Hp
end
section
namespace Go.Proofs.Ytppmnmheodimoaa
open Go Go.RowKit Rg Mp Hp Qs Ev Bn
theorem owns_nil0 (w:World) (base e size:Nat):w.ownsRow base e size (.slice none 0 0) 0 []:=⟨by simp,.inl ⟨rfl,rfl⟩⟩
structure SV where
 X:BV
 Y:BV
 st:Int
def SV.spot (e:SV):Spot:=⟨e.X.1,e.Y.1,e.st⟩
def svE (e:SV):List Value:=[.bool false,.slice e.X.2.1 (zd (e.X.1:Int)).length e.X.2.2,.bool false,.slice e.Y.2.1 (zd (e.Y.1:Int)).length e.Y.2.2,.int .i64 e.st]
def svs (l:List SV):List Value:=l.flatMap svE
theorem svs_get:∀ {l:List SV} {i:Nat} {c:SV},l[i]?=some c→∀ {j:Nat} {u:Value},(svE c)[j]?=some u→(svs l)[i*5+j]?=some u
 | [],i,c,h,_,_,_=>by simp at h
 | d::l,0,c,h,j,u,hu=>by
  simp only [List.getElem?_cons_zero,Option.some.injEq] at h
  subst h
  have e:svs (d::l)=svE d++svs l:=rfl
  rw [e,Nat.zero_mul,Nat.zero_add,List.getElem?_append_left (List.getElem?_eq_some_iff.1 hu).1]
  exact hu
 | d::l,i+1,c,h,j,u,hu=>by
  have:=svs_get (l:=l) (i:=i) (by simpa using h) hu
  have e:svs (d::l)=svE d++svs l:=rfl
  rw [e,List.getElem?_append_right (by simp [svE];omega),show (i+1)*5+j - (svE d).length=i*5+j by simp [svE];omega]
  exact this
theorem svs_snoc (l:List SV) (c:SV):svs l++[.bool false,.slice c.X.2.1 (zd (c.X.1:Int)).length c.X.2.2,.bool false,.slice c.Y.2.1 (zd (c.Y.1:Int)).length c.Y.2.2,.int .i64 c.st]=svs (l++[c]):=by simp [svs,svE]
theorem svs_cell {w:World} {a:Option Addr} {n c:Nat} {l:List SV} (h:Reads w (.slice a n c) l.length 5 (svs l)) {i:Nat} {p:SV} (hi:l[i]?=some p) :
  ∃ g off,a=some ⟨g,off,none⟩∧g<w.heap.size∧w.cell? ⟨g,off+i*5,none⟩=some (.bool false)∧w.cell? ⟨g,off+i*5+1,none⟩=some (.slice p.X.2.1 (zd (p.X.1:Int)).length p.X.2.2)∧w.cell? ⟨g,off+i*5+2,none⟩=some (.bool false)∧w.cell? ⟨g,off+i*5+3,none⟩=some (.slice p.Y.2.1 (zd (p.Y.1:Int)).length p.Y.2.2)∧w.cell? ⟨g,off+i*5+4,none⟩=some (.int .i64 p.st):=by
 obtain⟨_,a',c',he,h2⟩:=h
 cases he
 obtain⟨g,off,rfl,hg,hc⟩:=h2 (by have:=(List.getElem?_eq_some_iff.1 hi).1;omega)
 have q:∀ {j u},(svE p)[j]?=some u→w.cell? ⟨g,off+i*5+j,none⟩=some u:=fun hu=>by
  have:=hc _ _ (svs_get hi hu)
  rwa [← Nat.add_assoc] at this
 exact⟨g,off,rfl,hg,q (j:=0) rfl,q (j:=1) rfl,q (j:=2) rfl,q (j:=3) rfl,q (j:=4) rfl⟩
structure SpAt (w:World) (F:List Nat) (v:Value) (E:List SV):Prop where
 rd:Reads w v E.length 5 (svs E)
 off:E≠[]→∀ x,v.ownBlock=some x→x∉F
 el:∀ e∈E,BvOff w F e.X∧BvOff w F e.Y
theorem SpAt.step {w w':World} {F F':List Nat} {v:Value} {E:List SV} (h:SpAt w F v E) (hf:Fr F w w') (hs:∀ x∈F',x∈F∨w.heap.size≤x):SpAt w' F' v E:=by
 refine⟨?_,fun hE x hx hm=>?_,fun e he=>⟨(h.el e he).1.step hf hs,(h.el e he).2.step hf hs⟩⟩
 ·rcases E with _|⟨e,E⟩
  ·obtain⟨h1,a,c,rfl,_⟩:=h.rd
   exact⟨h1,a,c,rfl,fun h=>by simp at h⟩
  ·exact h.rd.keep fun x hx hl=>hf.block x hl (h.off (by simp) x hx)
 ·rcases hs x hm with h5|h5
  ·exact h.off hE x hx h5
  ·obtain⟨_,a,c,rfl,h2⟩:=h.rd
   obtain⟨g,o,rfl,hg,_⟩:=h2 (List.length_pos_iff.2 hE)
   cases hx
   have h6:w.heap.size≤g:=h5
   omega
theorem SpAt.fr {w w':World} {F:List Nat} {v:Value} {E:List SV} (h:SpAt w F v E) (hf:Fr [] w w'):SpAt w' F v E:=⟨h.rd.fr hf,h.off,fun e he=>⟨(h.el e he).1.fr hf,(h.el e he).2.fr hf⟩⟩
theorem info_sv:(Try.prog.info? 117).map (fun i=>(i.zero,i.size,i.bytes))=some (some (.agg #[.bool false,.slice none 0 0,.bool false,.slice none 0 0,.int .i64 0]),5,72):=by kernel_rfl
theorem append_sv {ops:Array Oper} {rest:List Oper} {o:Oper} {a:Act} {W:World} {Q:Exit→Act→World→Prop} (hgd:o.guard=none) {s x:Operand} (ho:o.op=.call { callee:=.builtin .append,args:=#[s,x],argTypes:=#[111,111] })
  {base:Nat} {v:Value} {n:Nat} {xs:List Value} (hs:a.eval s=v) (hown:W.ownsRow base 117 5 v n xs) {nb c:Nat} {y:SV} (hx:a.eval x=.slice (some ⟨nb,0,none⟩) 1 c)
  (hnb:W.heap[nb]?=some (.cells #[.bool false,.slice y.X.2.1 (zd (y.X.1:Int)).length y.X.2.2,.bool false,.slice y.Y.2.1 (zd (y.Y.1:Int)).length y.Y.2.2,.int .i64 y.st] 117 (0,0))) (hn:n≤1000000000000) (hbase:base≤W.heap.size)
  (h:∀ g cap w',w'.ownsRow base 117 5 (.slice (some ⟨g,0,none⟩) (n+1) cap) (n+1) (xs++[.bool false,.slice y.X.2.1 (zd (y.X.1:Int)).length y.X.2.2,.bool false,.slice y.Y.2.1 (zd (y.Y.1:Int)).length y.Y.2.2,.int .i64 y.st])→(∀ b,b<W.heap.size→v.ownBlock≠some b→w'.heap[b]?=W.heap[b]?)→Fr v.ownBlock.toList W w'→(v.ownBlock=some g∨g=W.heap.size)→g<w'.heap.size →
   wpList Try.prog ops Q rest (a.put o.dst (.slice (some ⟨g,0,none⟩) (n+1) cap)) w'):wpList Try.prog ops Q (o::rest) a W :=
 append_new hgd ho Try.underlying111 info_sv rfl (by decide) hs hown hx (news:=[.bool false,.slice y.X.2.1 (zd (y.X.1:Int)).length y.X.2.2,.bool false,.slice y.Y.2.1 (zd (y.Y.1:Int)).length y.Y.2.2,.int .i64 y.st]) hnb rfl (by intro u hu;simp at hu;rcases hu with rfl|rfl|rfl|rfl|rfl<;>rfl) (by unfold maxLen;omega) (by omega) hbase h
theorem map_spot_len (E:List SV):(E.map SV.spot).length=E.length:=List.length_map _
theorem part_take {E:List SV} {i:Nat} {e:SV} (hi:E[i]?=some e) {H k:Nat}:partQ H k ((E.take (i+1)).map SV.spot)=partQ H k ((E.take i).map SV.spot)++if quadOf H e.spot=k then [intoQ H e.spot] else []:=by
 rw [List.take_add_one,hi,List.map_append]
 show partQ H k (_++[e.spot])=_
 rw [partQ_snoc]
end Go.Proofs.Ytppmnmheodimoaa
end
