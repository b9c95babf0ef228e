/- Own texts of this claim, part 9: no condition. -/
import Derived.Test.YtebolidfbflkmaaGreatZE7
set_option linter.unusedVariables false
set_option linter.unusedSimpArgs false
set_option maxHeartbeats 16000000
set_option maxRecDepth 100000
namespace Go.Proofs.YtebolidfbflkmaaGreat
open Go Go.RowKit Rg Hp Bn
theorem apart_z {w:World} {A B C:Nat→Prop} {va vs vb:Value} {x s b n:Int} (ha:BigZ w A va x) (hs:BigZ w B vs s) (hb:BigZ w C vb b) (hx:Zok x) (hzs:Zok s) (hzb:Zok b) (hxs:Zok (x+s)) (hn1:-9223372036854775808≤n) (hn2:n<9223372036854775808) (hbn:Zok (b+n)) :
  Calls Tryz.prog 105 #[va,vs,vb,.int .i64 n] w fun e w'=>e=.returned (.bool (decide (x+s≤b∨b+n≤x)))∧Fr [] w w':=by
 have HP1:=q_ (fun w1 (hf:Fr [] w w1)=>Co (ha.fr0 hf) (hs.fr0 hf) hx hzs hxs);have HCM:=q_ (fun w1 (hf:Fr [] w w1) (A:Nat→Prop) v (h1:BigZ w1 A v (x+s))=>Au h1 (hb.fr0 hf) hxs hzb);have HFN:=q_ (fun w1=>J5 (w:=w1) hn1 hn2);have HP2:=q_ (fun w1 (hf:Fr [] w w1) (A:Nat→Prop) v (h1:BigZ w1 A v n)=>Co (hb.fr0 hf) h1 hzb (Bb hn1 hn2) hbn);have HC2:=q_ (fun w1 (hf:Fr [] w w1) (A:Nat→Prop) v (h1:BigZ w1 A v (b+n))=>Au (ha.fr0 hf) h1 hx hbn);clear hx hzs hzb hxs hbn;obtain⟨a1,c1,rfl,_⟩:=ha;obtain⟨a2,c2,rfl,_⟩:=hs;obtain⟨a3,c3,rfl,_⟩:=hb;by_cases h1:x+s≤b;·
  have hd1:decide (Bw (x+s) b≤0)=true:=by rw [cmp_le];simpa using h1
  have HB:=q_ (show decide (x+s≤b∨b+n≤x)=true from decide_eq_true (.inl h1));clear h1;go_enter Tryz.func105,Tryz.ntmps105;go_wp2;refine wS [([0,1,3,2],[3]),([4,5,6,7,8,9,10],[7,8]),([11],[7]),([12,13,14,15],[])] ?_;(simp only [A2,pick,aq_,bq_,cq_,dq_,eq_]);go_wp2_with fail;refine (HP1.o _ (Fr.t)).mono ?_;rintro e w1 ⟨v1,rfl,hb1,hf⟩;have hp_:=(hf.block (w.heap.size) f_' i_).trans (show _=some (.cells #[.bool (decide (x<0)),.slice a1 (zd x).length c1] 30 (0,0)) from hpT);obtain⟨p0,p1,pl⟩:=l2_ hp_;have Hp:=q_ hp_;clear hp_;have hr_:=(hf.block (w.heap.size+2) f_' i_).trans (show _=some (.cells #[.bool (decide (b<0)),.slice a3 (zd b).length c3] 30 (0,0)) from hpT);obtain⟨r0,r1,rl⟩:=l2_ hr_;have Hr:=q_ hr_;clear hr_;have Hf1:=q_ (Fr.trans0 (Fr.t:Fr [] w _) hf);have HC1:=q_ (HCM.o _ Hf1.o _ _ hb1);clear hf hb1;go_wp2;refine mD_ ⟨⟨aGR (T:=30) (cs:=[.bool (decide (b<0)),.slice a3 (zd b).length c3]) rfl rfl rfl Tryz.underlying30 rfl k_ (fun j v hj=>?rng1) rfl,trivial⟩,?_⟩;case rng1 =>rw [Nat.zero_add,hEC Hr.o,← hj];exact (Array.getElem?_toList (xs:=#[Value.bool (decide (b<0)),.slice a3 (zd b).length c3])).symm
  go_wp2_with fail;refine HC1.o.mono ?_;rintro e w2 ⟨rfl,hf⟩;(try clear p0 p1 pl);have hp_:=tk hf Hp;clear Hp;obtain⟨p0,p1,pl⟩:=l2_ hp_;have Hp:=q_ hp_;clear hp_;(try clear r0 r1 rl);have hr_:=tk hf Hr;clear Hr;obtain⟨r0,r1,rl⟩:=l2_ hr_;have Hr:=q_ hr_;clear hr_;have Hf2:=q_ (Hf1.o.trans0 hf);clear hf HC1;go_wp2;refine mD_ ⟨⟨fun o ho hw=>by obtain rfl:=Option.some.inj ho;exact absurd hw (by simp [Region.wanted,yielded]),fun o ho hw=>by obtain rfl:=Option.some.inj ho;exact absurd hw (by simp [Region.wanted,yielded]),trivial⟩,?_⟩;go_wp2;refine mD_ ⟨⟨fun o ho hw=>by obtain rfl:=Option.some.inj ho;exact absurd hw (by simp [Region.wanted,yielded]),trivial⟩,?_⟩;go_wp2;refine mD_ ⟨trivial,sT_ rfl ?_⟩;go_wp2;go_ret;exact⟨by rw [HB.o];rfl,Hf2.o⟩
 ·have hd1:decide (Bw (x+s) b≤0)=false:=by rw [cmp_le];simpa using h1
  obtain⟨p2,hp2⟩:∃ p,decide (b+n≤x)=p:=⟨_,rfl⟩;have hd2:decide (Bw x (b+n) ≥ 0)=p2:=by rw [Jx];exact hp2
  have HB:=q_ (show decide (x+s≤b∨b+n≤x)=p2 by rw [← hp2];simp [h1]);clear h1 hp2;go_enter Tryz.func105,Tryz.ntmps105;go_wp2;refine wS [([0,1,3,2],[3]),([4,5,6,7,8,9,10],[7,8]),([11],[7]),([12,13,14,15],[])] ?_;(simp only [A2,pick,aq_,bq_,cq_,dq_,eq_]);go_wp2_with fail;refine (HP1.o _ (Fr.t)).mono ?_;rintro e w1 ⟨v1,rfl,hb1,hf⟩;have hp_:=(hf.block (w.heap.size) f_' i_).trans (show _=some (.cells #[.bool (decide (x<0)),.slice a1 (zd x).length c1] 30 (0,0)) from hpT);obtain⟨p0,p1,pl⟩:=l2_ hp_;have Hp:=q_ hp_;clear hp_;have hr_:=(hf.block (w.heap.size+2) f_' i_).trans (show _=some (.cells #[.bool (decide (b<0)),.slice a3 (zd b).length c3] 30 (0,0)) from hpT);obtain⟨r0,r1,rl⟩:=l2_ hr_;have Hr:=q_ hr_;clear hr_;have Hf1:=q_ (Fr.trans0 (Fr.t:Fr [] w _) hf);have HC1:=q_ (HCM.o _ Hf1.o _ _ hb1);clear hf hb1;go_wp2;refine mD_ ⟨⟨aGR (T:=30) (cs:=[.bool (decide (b<0)),.slice a3 (zd b).length c3]) rfl rfl rfl Tryz.underlying30 rfl k_ (fun j v hj=>?rng1) rfl,trivial⟩,?_⟩;case rng1 =>rw [Nat.zero_add,hEC Hr.o,← hj];exact (Array.getElem?_toList (xs:=#[Value.bool (decide (b<0)),.slice a3 (zd b).length c3])).symm
  go_wp2_with fail;refine HC1.o.mono ?_;rintro e w2 ⟨rfl,hf⟩;(try clear p0 p1 pl);have hp_:=tk hf Hp;clear Hp;obtain⟨p0,p1,pl⟩:=l2_ hp_;have Hp:=q_ hp_;clear hp_;(try clear r0 r1 rl);have hr_:=tk hf Hr;clear Hr;obtain⟨r0,r1,rl⟩:=l2_ hr_;have Hr:=q_ hr_;clear hr_;have Hf2:=q_ (Hf1.o.trans0 hf);clear hf HC1;go_wp2_with fail;refine (HFN.o _).mono ?_;rintro e w3 ⟨v3,rfl,hb3,hf⟩;(try clear p0 p1 pl);have hp_:=tk hf Hp;clear Hp;obtain⟨p0,p1,pl⟩:=l2_ hp_;have Hp:=q_ hp_;clear hp_;(try clear r0 r1 rl);have hr_:=tk hf Hr;clear Hr;obtain⟨r0,r1,rl⟩:=l2_ hr_;have Hr:=q_ hr_;clear hr_;have Hf3:=q_ (Hf2.o.trans0 hf);have HQ:=q_ (HP2.o _ Hf3.o _ _ hb3);clear hf hb3;go_wp2;refine mD_ ⟨⟨aGR (T:=30) (cs:=[.bool (decide (x<0)),.slice a1 (zd x).length c1]) rfl rfl rfl Tryz.underlying30 rfl k_ (fun j v hj=>?rng2) rfl,
   aGR (T:=30) (cs:=[.bool (decide (b<0)),.slice a3 (zd b).length c3]) rfl rfl rfl Tryz.underlying30 rfl k_ (fun j v hj=>?rng3) rfl,trivial⟩,?_⟩
  case rng2 =>rw [Nat.zero_add,hEC Hp.o,← hj];exact (Array.getElem?_toList (xs:=#[Value.bool (decide (x<0)),.slice a1 (zd x).length c1])).symm
  case rng3 =>rw [Nat.zero_add,hEC Hr.o,← hj];exact (Array.getElem?_toList (xs:=#[Value.bool (decide (b<0)),.slice a3 (zd b).length c3])).symm
  go_wp2_with fail;refine HQ.o.mono ?_;rintro e w4 ⟨v4,rfl,hb4,hf⟩;(try clear p0 p1 pl);have hp_:=tk hf Hp;clear Hp;obtain⟨p0,p1,pl⟩:=l2_ hp_;have Hp:=q_ hp_;clear hp_;(try clear r0 r1 rl);have hr_:=tk hf Hr;clear Hr;obtain⟨r0,r1,rl⟩:=l2_ hr_;have Hr:=q_ hr_;clear hr_;have Hf4:=q_ (Hf3.o.trans0 hf);have HC4:=q_ (HC2.o _ Hf4.o _ _ hb4);clear hf hb4 HQ;go_wp2;refine mD_ ⟨⟨aGR (T:=30) (cs:=[.bool (decide (x<0)),.slice a1 (zd x).length c1]) rfl rfl rfl Tryz.underlying30 rfl k_ (fun j v hj=>?rng4) rfl,trivial⟩,?_⟩;case rng4 =>rw [Nat.zero_add,hEC Hp.o,← hj];exact (Array.getElem?_toList (xs:=#[Value.bool (decide (x<0)),.slice a1 (zd x).length c1])).symm
  go_wp2_with fail;refine HC4.o.mono ?_;rintro e w5 ⟨rfl,hf⟩;have Hf5:=q_ (Hf4.o.trans0 hf);clear hf HC4;go_wp2;refine mD_ ⟨trivial,sT_ rfl ?_⟩;go_wp2;go_ret;exact⟨by rw [HB.o];rfl,Hf5.o⟩
end Go.Proofs.YtebolidfbflkmaaGreat
namespace Go.Proofs.Ev
open Qs
def gr (lost l:Nat):Int:=p2 (max l lost - 2)
theorem Up (a b:Nat):p2 (a+b)=p2 a*p2 b:=by unfold p2;rw [Nat.pow_add,Int.natCast_mul]
variable {lost l n:Nat}
theorem gr_dvd (hl:2≤lost) (h:max l lost≤n):p2 (n - 2)=p2 (n - max l lost)*gr lost l:=by unfold gr;rw [← Up];congr 1;omega
def At (g:Fld→Fld) (F:Fld) (X Y:Int) (lost n k:Nat) (u:Tr):Prop :=
 ∃ l m:Nat,∃ i j:Int,1≤l∧l≤n∧m≤2 ^ k∧(k+lost≤l→m=0∨m=2 ^ k)∧u=mk l (it g m F) (X+i*gr lost l) (Y+j*gr lost l)
theorem V0:∀ (n:Nat) {F:Fld} {x y:Int} {u:Tr},u∈Ip (mk n F x y)→∃ l:Nat,∃ i j:Int,1≤l∧l≤n∧u=mk l F (x+i*p2 l) (y+j*p2 l)
 | 0,F,x,y,u,h=>by simp [mk,Ip] at h
 | n+1,F,x,y,u,h=>by
  simp only [mk,Ip,List.mem_append,List.mem_singleton] at h;have key:∀ (a b:Int),u∈Ip (mk n F (x+a*p2 n) (y+b*p2 n))→∃ l:Nat,∃ i j:Int,1≤l∧l≤n+1∧u=mk l F (x+i*p2 l) (y+j*p2 l):=by
   intro a b hu;obtain⟨l,i,j,h1,h2,rfl⟩:=V0 n hu;have e:p2 n=p2 (n - l)*p2 l:=by rw [← Up];congr 1;omega
   refine⟨l,a*p2 (n - l)+i,b*p2 (n - l)+j,h1,o_,?_⟩;rw [Int.add_mul,Int.add_mul,Int.mul_assoc,Int.mul_assoc,← e,← Int.add_assoc,← Int.add_assoc]
  rcases h with (((h|h)|h)|h)|h
  ·exact key 0 0 (by simpa using h)
  ·exact key 1 0 (by simpa using h)
  ·exact key 0 1 (by simpa using h)
  ·exact key 1 1 (by simpa using h)
  ·exact⟨n+1,0,0,o_,o_,by rw [h];simp [mk]⟩
variable {F:Fld}{X Y a b:Int}{k:Nat}{u:Tr}
theorem At.sub {g:Fld→Fld} {k' m0:Nat} (hl:2≤lost) (hn:lost≤n) (ht:∀ l m,m≤2 ^ k'→(k'+lost≤l→m=0∨m=2 ^ k')→l≤n→m0+m≤2 ^ k∧(k+lost≤l→m0+m=0∨m0+m=2 ^ k))
  (h:At g (it g m0 F) (X+a*p2 (n - 2)) (Y+b*p2 (n - 2)) lost n k' u):At g F X Y lost (n+1) k u:=by
 obtain⟨l,m,i,j,h1,h2,h3,h4,rfl⟩:=h;have h5:=ht l m h3 h4 h2;have e:=gr_dvd (l:=l) hl (n:=n) o_;refine⟨l,m0+m,a*p2 (n - max l lost)+i,b*p2 (n - max l lost)+j,h1,o_,h5.1,h5.2,?_⟩;rw [Int.add_mul,Int.add_mul,Int.mul_assoc,Int.mul_assoc,← e,← Int.add_assoc,← Int.add_assoc,Nat.add_comm m0,Ut]
theorem At.up {g:Fld→Fld} (h:At g F X Y lost n k u):At g F X Y lost (n+1) k u:=by obtain⟨l,m,i,j,h1,h2,h3⟩:=h;exact⟨l,m,i,j,h1,o_,h3⟩
theorem At.here {g:Fld→Fld} {x y:Int} {m:Nat} (hl:2≤lost) (hn:max l lost≤n) (h1:1≤l) (hm:m≤2 ^ k) (ht:k+lost≤l→m=0∨m=2 ^ k) (hx:x=X+a*p2 (n - 2)) (hy:y=Y+b*p2 (n - 2)):At g F X Y lost n k (mk l (it g m F) x y):=by subst hx hy;have e:=gr_dvd (l:=l) hl (n:=n) hn;refine⟨l,m,a*p2 (n - max l lost),b*p2 (n - max l lost),h1,o_,hm,ht,?_⟩;rw [Int.mul_assoc,Int.mul_assoc,← e]
variable {i j:Nat}
theorem Tb (n:Nat) (F:Fld) (X Y:Int) (hi:i<3) (hj:j<3):Jn (mk (n+3) F X Y) i j=mk (n+2) F (X+j*p2 (n+1)) (Y+i*p2 (n+1)):=by refine Iy fun u v hu hv=>?_;rw [g16_mk (n+1) F X Y o_ o_,Int.natCast_add,Int.natCast_add,Int.add_mul,Int.add_mul,Int.add_assoc,Int.add_assoc]
variable {r:Int}{two:Bool}
theorem inner9_mk {g:Fld→Fld} (hg:Qh r g) (hr:two=true→r*p2 (k - 1)≤p2 n) (F:Fld) (X Y:Int) (hi:i<3) (hj:j<3) :
  G9 g (n+3) k two (mk (n+3) F X Y) i j=mk (n+1) (it g (if two then 2 ^ (k - 1) else 0) F) (X+j*p2 (n+1)+p2 n) (Y+i*p2 (n+1)+p2 n):=by
 unfold G9;rw [Tb n F X Y hi hj];cases two with
 | true =>rw [if_pos rfl,if_pos rfl];show stp g (n+2) (k - 1) _=_;rw [Iq hg o_ (hr rfl)];rfl
 | false =>rw [if_neg i_,if_neg i_,Se];rfl
theorem out4_mk {g:Fld→Fld} (hg:Qh r g) (hr:two=true→r*p2 (k - 1)≤p2 n) (F:Fld) (X Y:Int) (hi:i<2) (hj:j<2) :
  Od g (n+3) k two (mk (n+3) F X Y) i j=mk (n+2) (it g (if two then 2 ^ (k - 1) else 0) F) (X+j*p2 (n+1)+p2 n) (Y+i*p2 (n+1)+p2 n):=by
 refine Iy fun u v hu hv=>?_;rw [inner9_mk hg hr F X Y o_ o_,Int.natCast_add,Int.natCast_add,Int.add_mul,Int.add_mul];congr 1<;>omega
theorem Vi {r:Int} {g:Fld→Fld} (hg:Qh r g) (h0:0≤r) (h2:r≤2):∀ (n k:Nat) (F:Fld) (X Y:Int),A1 r≤n→k≤n - A1 r→∀ u∈Da g (A1 r) n k (mk n F X Y),At g F X Y (A1 r) n k u
 | 0,k,F,X,Y,hn,hk,u,hu=>by have:=D3 h0 h2;omega
 | n+1,k,F,X,Y,hn,hk,u,hu=>by
  have hl:=D3 h0 h2;by_cases hlt:n+1≤A1 r;·
   rw [Pb hlt,Iq hg o_ (Pd h0 h2 hn hk)] at hu;obtain rfl:k=0:=o_;obtain⟨l,i,j,h1,h3,rfl⟩:=V0 _ hu;have e:p2 l=p2 (l+2 - A1 r)*gr (A1 r) l:=by unfold gr;rw [← Up];congr 1;omega
   have e2:p2 (n+1 - 2)=gr (A1 r) l:=by unfold gr;congr 1;omega
   refine⟨l,1,1+i*p2 (l+2 - A1 r),1+j*p2 (l+2 - A1 r),h1,o_,i_,fun _=>.inr rfl,?_⟩;rw [Int.add_mul,Int.add_mul,Int.mul_assoc,Int.mul_assoc,← e,← e2,Int.one_mul,← Int.add_assoc,← Int.add_assoc]
  ·obtain⟨n,rfl⟩:∃ m,n=m+2:=⟨n - 2,o_⟩;have ih:=Vi hg h0 h2 (n+2);have e1:=Ac n;have hmar:=fun k' (h:k'≤n+2 - A1 r)=>Pd h0 h2 (n:=n+2) (k:=k') o_ h;have hr:decide (k=n+2+1 - A1 r)=true→r*p2 (k - 1)≤p2 n:=fun h=>hmar (k - 1) (by have:=of_decide_eq_true h;omega);have hcor:∀ (Z:Int) (i:Nat),Z+(i:Int)*p2 (n+1)=Z+(2*(i:Int))*p2 (n+2 - 2):=fun Z i=>by
    show _=Z+2*(i:Int)*p2 n;rw [e1,Int.mul_add,Int.two_mul,Int.add_mul]
   have hcor2:∀ (Z:Int) (i:Nat),Z+(i:Int)*p2 (n+1)+p2 n=Z+(2*(i:Int)+1)*p2 (n+2 - 2):=fun Z i=>by rw [hcor,Int.add_mul,Int.one_mul,← Int.add_assoc];rfl
   have h12:∀ k,1≤2 ^ k:=fun k=>Nat.pow_pos o_;rw [Da,if_neg hlt] at hu;simp only [List.mem_append,List.mem_flatMap,List.mem_singleton,List.mem_cons] at hu;rcases hu with (⟨⟨i,j⟩,hp,hu⟩|⟨⟨i,j⟩,hp,hu⟩)|hu
   ·have hij:i<3∧j<3:=(by simp [i9] at hp;omega);obtain⟨hi,hj⟩:=hij;rw [Tb n F X Y hi hj] at hu;rcases hu with rfl|hu
    ·have:=At.here (g:=g) (F:=F) (X:=X) (Y:=Y) (lost:=A1 r) (n:=n+2) (k:=k) (l:=n+2) (m:=0) hl.1 o_ o_ (Nat.zero_le _) (fun _=>.inl rfl) (hcor X j) (hcor Y i);exact this.up
    ·by_cases hk2:k=n+2+1 - A1 r;·
      rw [if_pos hk2] at hu;have:=ih (k - 1) F _ _ o_ o_ u hu;rw [hcor,hcor] at this;have h2k:2 ^ k=2 ^ (k - 1)+2 ^ (k - 1):=by obtain⟨q,rfl⟩:∃ q,k=q+1:=⟨k - 1,o_⟩;rw [Nat.pow_succ,Nat.add_sub_cancel];omega
      exact At.sub (m0:=0) (k':=k - 1) hl.1 o_ (fun l m a b c=>⟨o_,fun h=>by omega⟩) this
     ·rw [if_neg hk2,List.mem_singleton] at hu;subst hu;rw [Se];have:=At.here (g:=g) (F:=F) (X:=X) (Y:=Y) (lost:=A1 r) (n:=n+2) (k:=k) (l:=n+1) (m:=0) hl.1 o_ o_ (Nat.zero_le _) (fun _=>.inl rfl) (hcor2 X j) (hcor2 Y i);exact this.up
   ·have hij:i<2∧j<2:=(by simp [i4] at hp;omega);obtain⟨hi,hj⟩:=hij;rw [out4_mk hg hr F X Y hi hj] at hu;by_cases hk2:k=n+2+1 - A1 r
    ·have h2k:2 ^ k=2 ^ (k - 1)+2 ^ (k - 1):=by
      obtain⟨q,rfl⟩:∃ q,k=q+1:=⟨k - 1,o_⟩;rw [Nat.pow_succ,Nat.add_sub_cancel];omega
     rw [decide_eq_true hk2,if_pos rfl,if_pos hk2] at hu;rcases hu with rfl|hu
     ·have:=At.here (g:=g) (F:=F) (X:=X) (Y:=Y) (lost:=A1 r) (n:=n+2) (k:=k) (l:=n+2) (m:=2 ^ (k - 1)) hl.1 o_ o_ (h2k▸Nat.le_add_left _ _) (fun h=>by omega) (hcor2 X j) (hcor2 Y i);exact this.up
     ·have:=ih (k - 1) _ _ _ o_ o_ u hu;rw [hcor2,hcor2] at this;exact At.sub (m0:=2 ^ (k - 1)) (k':=k - 1) hl.1 o_ (fun l m a b c=>⟨o_,fun h=>by omega⟩) this
    ·rw [decide_eq_false hk2,if_neg hk2] at hu;simp only [Bool.false_eq_true,if_false] at hu;rcases hu with rfl|hu
     ·have:=At.here (g:=g) (F:=F) (X:=X) (Y:=Y) (lost:=A1 r) (n:=n+2) (k:=k) (l:=n+2) (m:=0) hl.1 o_ o_ (Nat.zero_le _) (fun h=>.inl rfl) (hcor2 X j) (hcor2 Y i);exact this.up
     ·have:=ih k _ _ _ o_ o_ u hu;rw [hcor2,hcor2] at this;exact At.sub (m0:=0) (k':=k) hl.1 o_ (fun l m a b _=>by rw [Nat.zero_add];exact⟨a,b⟩) this
   ·rcases hu with hu|hu
    case inr=>exact absurd hu i_
    rw [hu];have hmk:=Pd h0 h2 (n:=n+2+1) (k:=k) o_ o_;rw [Iq hg o_ hmk];have:=At.here (g:=g) (F:=F) (X:=X) (Y:=Y) (lost:=A1 r) (n:=n+2) (k:=k) (l:=n+2) (m:=2 ^ k) hl.1 o_ o_ (Nat.le_refl _) (fun h=>.inr rfl) (show X+p2 (n+1)=_ by have:=hcor X 1;simp only [Int.natCast_one,Int.one_mul] at this;exact this) (show Y+p2 (n+1)=_ by have:=hcor Y 1;simp only [Int.natCast_one,Int.one_mul] at this;exact this);exact this.up
end Go.Proofs.Ev
namespace Go.Proofs.Pt
structure PC where
 x:Int
 y:Int
 st:Int
 deriving DecidableEq
def Ir (x y:Int):Bool:=decide (-1048576≤x∧x≤1048576∧-1048576≤y∧y≤1048576)
def Cf (a b:PC):Bool:=decide (a.y<b.y∨a.y=b.y∧a.x<b.x)
variable {a b:PC}
theorem Lc (h:Cf a b=true) (h':Cf b a=true):False:=by simp only [Cf,decide_eq_true_eq] at h h';omega
variable {c:PC}
theorem P7 (h:Cf a b=true) (h':Cf b c=true):Cf a c=true:=by simp only [Cf,decide_eq_true_eq] at *;omega
theorem Qv (h:Cf b a=false) (h':Cf c b=false):Cf c a=false:=by simp only [Cf,decide_eq_false_iff_not] at *;omega
def Cp (a b:PC):Bool:=decide (a.x=b.x∧a.y=b.y)
theorem Nm (h:Cf b a=false):Cp a b=!Cf a b:=by
 rw [Bool.eq_iff_iff];simp only [Cp,Cf,decide_eq_true_eq,decide_eq_false_iff_not,Bool.not_eq_true'] at *
 omega
def Al:List PC→Bool
 | []=>true
 | [_]=>true
 | a::b::l=>Cf a b && Al (b::l)
theorem C6:∀ {l:List PC},Al l=true→l.Pairwise fun a b=>Cf a b=true
 | [],_=>List.Pairwise.nil
 | [a],_=>by simp
 | a::b::l,h=>by
  simp only [Al,Bool.and_eq_true] at h;have ih:=C6 h.2;refine List.Pairwise.cons ?_ ih;intro c hc;rw [List.mem_cons] at hc;rcases hc with rfl|hc
  ·exact h.1
  ·exact P7 h.1 ((List.pairwise_cons.1 ih).1 c hc)
theorem Dw:∀ {l:List PC},(l.Pairwise fun a b=>Cf a b=true)→Al l=true
 | [],_=>rfl
 | [a],_=>rfl
 | a::b::l,h=>by obtain⟨h1,h2⟩:=List.pairwise_cons.1 h;simp only [Al,Bool.and_eq_true];exact⟨h1 b i_,Dw h2⟩
theorem Fz:∀ {l m:List PC},(l.Pairwise fun a b=>Cf a b=true)→(m.Pairwise fun a b=>Cf a b=true)→l.Perm m→l=m
 | [],m,_,_,h=>(List.perm_nil.1 h.symm).symm
 | a::l,[],_,_,h=>by have:=h.length_eq;simp at this
 | a::l,b::m,hl,hm,h=>by
  obtain⟨l1,l2⟩:=List.pairwise_cons.1 hl;obtain⟨m1,m2⟩:=List.pairwise_cons.1 hm;have ha:a∈b::m:=h.subset i_;have hb:b∈a::l:=h.symm.subset i_;rw [List.mem_cons] at ha hb;rcases ha with rfl|ha
  ·rw [Fz l2 m2 (List.Perm.cons_inv h)]
  ·rcases hb with rfl|hb
   ·rw [Fz l2 m2 (List.Perm.cons_inv h)]
   ·exact (Lc (m1 a ha) (l1 b hb)).elim
def Ll (l:List PC):Prop:=l.Pairwise fun a b=>Cf b a=false
theorem Gf:∀ {l:List PC},Ll l→(Al l=true↔l.Pairwise fun a b=>Cp a b=false)
 | [],_=>by simp [Al]
 | a::l,h=>by
  obtain⟨h1,h2⟩:=List.pairwise_cons.1 h;constructor;·
   intro hs;refine (C6 hs).imp_of_mem ?_;intro x y hx hy hxy;cases hq:Cp x y with
   | false=>rfl
   | true=>simp only [Cp,Cf,decide_eq_true_eq] at hxy hq;omega
  ·intro hd;apply Dw;refine (List.Pairwise.and h hd).imp ?_;intro x y ⟨hxy,hq⟩;rw [Nm hxy] at hq;simpa using hq
variable {l m:List PC}
theorem N0 {R:PC→PC→Prop} (hR:∀ a b,R a b→R b a) (h:l.Perm m):l.Pairwise R→m.Pairwise R:=(h.pairwise_iff (fun hab=>hR _ _ hab)).1
theorem weak_same (hl:Ll l) (hm:Ll m) (h:l.Perm m):Al l=Al m∧(Al l=true→l=m):=by
 have hs:∀ a b,Cp a b=false→Cp b a=false:=fun a b=>by simp only [Cp,decide_eq_false_iff_not];omega
 constructor;·
  rw [Bool.eq_iff_iff,Gf hl,Gf hm];exact⟨N0 hs h,N0 hs h.symm⟩
 ·intro hst;refine Fz (C6 hst) (C6 ?_) h;rw [Gf hm];exact N0 hs h ((Gf hl).1 hst)
def Qk (c:PC):List PC→List PC
 | []=>[c]
 | d::l=>if Cf c d then c::d::l else d::Qk c l
def Sz (l:List PC):List PC:=l.foldl (fun q c=>Qk c q) []
theorem N7 (c:PC):∀ l:List PC,(Qk c l).Perm (c::l)
 | []=>List.Perm.refl _
 | d::l=>by
  unfold Qk;split;·exact List.Perm.refl _
  ·exact ((N7 c l).cons d).trans (List.Perm.swap c d l)
theorem R5 (c:PC):∀ {l:List PC},Ll l→Ll (Qk c l)
 | [],_=>by simp [Qk,Ll]
 | d::l,h=>by
  obtain⟨h1,h2⟩:=List.pairwise_cons.1 h;unfold Qk;split;·
   rename_i hc;have hdc:Cf d c=false:=by
    cases hq:Cf d c with
    | false=>rfl
    | true=>exact (Lc hc hq).elim
   refine List.Pairwise.cons ?_ h;intro x hx;rw [List.mem_cons] at hx;rcases hx with rfl|hx
   ·exact hdc
   ·exact Qv hdc (h1 x hx)
  ·rename_i hc;refine List.Pairwise.cons ?_ (R5 c h2);intro x hx;have:=(N7 c l).subset hx;rw [List.mem_cons] at this;rcases this with rfl|hx
   ·simpa using hc
   ·exact h1 x hx
theorem L8:∀ (l q:List PC),Ll q→Ll (l.foldl (fun q c=>Qk c q) q)∧(l.foldl (fun q c=>Qk c q) q).Perm (q++l)
 | [],q,h=>⟨h,i_⟩
 | c::l,q,h=>by obtain⟨h1,h2⟩:=L8 l (Qk c q) (R5 c h);refine⟨h1,h2.trans ?_⟩;refine ((N7 c q).append_right l).trans ?_;exact (List.perm_middle (l₁:=q)).symm
theorem sortP_weak (l:List PC):Ll (Sz l):=(L8 l [] List.Pairwise.nil).1
theorem sortP_perm (l:List PC):(Sz l).Perm l:=(L8 l [] List.Pairwise.nil).2
def Dg:List PC→Int
 | []=>0
 | c::l=>if Ir c.x c.y=false then 5 else if c.st<0∨8≤c.st then 10 else Dg l
theorem Nj:∀ (l:List PC) (c:PC),Dg (l++[c])=if Dg l≠0 then Dg l else Dg [c]
 | [],c=>by simp [Dg]
 | d::l,c=>by
  have:=Nj l c;simp only [List.cons_append,Dg];split;·simp
  ·split;·simp
   ·exact this
theorem badP_app (h:Dg l≠0):Dg (l++m)=Dg l:=by
 induction l with
 | nil=>exact absurd rfl h
 | cons d l ih =>
  simp only [List.cons_append,Dg] at h ⊢;split;·rfl
  ·split;·rfl
   ·rename_i h1 h2;rw [if_neg h1,if_neg h2] at h;exact ih h
def Ez (l:List PC):List PC:=l.filter fun c=>decide (c.st≠0)
def Ky (l:List PC):List PC×Int :=
 if Dg l≠0 then ([],Dg l) else if Al (Sz (Ez l))=false then ([],8) else if 5000<(Sz (Ez l)).length then ([],6) else (Sz (Ez l),0)
theorem U4 {q:List PC} (hb:Dg l=0) (hw:Ll q) (hp:q.Perm (Ez l)):Ky l=if Al q=false then ([],8) else if 5000<q.length then ([],6) else (q,0):=by
 obtain⟨h1,h2⟩:=weak_same hw (sortP_weak (Ez l)) (hp.trans (sortP_perm _).symm);unfold Ky;rw [if_neg (by simp [hb]),← h1];cases hs:Al q with
 | false=>rfl
 | true =>have:=h2 hs;simp only [reduceCtorEq,if_false];rw [← this]
def Ig (c:PC):Bool:=Ir c.x c.y && decide (1≤c.st∧c.st<8)
def Cn (l:List PC):Bool:=decide (l.length≤5000) && (l.all Ig && Al l)
theorem from_right {p:List PC} (h:Cn p=true) (hl:l.Perm p):Ky l=(p,0):=by
 unfold Cn at h;simp only [Bool.and_eq_true,decide_eq_true_eq,List.all_eq_true] at h;obtain⟨h1,h2,h3⟩:=h;have hc:∀ c∈l,Ig c=true:=fun c hc=>h2 c (hl.subset hc);have hb:Dg l=0:=by
  clear h1 h2 h3 hl
  induction l with
  | nil=>rfl
  | cons c l ih =>have:=hc c i_;simp only [Ig,Bool.and_eq_true,decide_eq_true_eq] at this;unfold Dg;rw [if_neg (by simp [this.1]),if_neg o_];exact ih fun d hd=>hc d (by simp [hd])
 have hs:Ez l=l:=by unfold Ez;rw [List.filter_eq_self];intro c hcl;have:=hc c hcl;simp only [Ig,Bool.and_eq_true,decide_eq_true_eq] at this;simp;omega
 have hw:Ll p:=(C6 h3).imp fun hab=>by
  cases hq:Cf _ _ with
  | false=>rfl
  | true=>exact (Lc hab hq).elim
 rw [U4 hb hw (by rw [hs];exact hl.symm),h3];simp only [Bool.true_eq_false,if_false];rw [if_neg o_]
def topP (l:List PC):Int:=l.foldl (fun m c=>max m c.st) 0
theorem topP_snoc (l:List PC) (c:PC):topP (l++[c])=max (topP l) c.st:=by simp [topP]
end Go.Proofs.Pt
namespace Go.Proofs.Pt
open Qs Ev
def Bl (p:List PC):Fld:=fun x y=>match p.find? (fun c=>decide (c.x=x∧c.y=y)) with
 | some c=>c.st
 | none=>0
variable {p:List PC}
theorem Cx (h:Cn p=true):p.length≤5000∧(∀ c∈p,Ig c=true)∧Al p=true:=by unfold Cn at h;simp only [Bool.and_eq_true,decide_eq_true_eq,List.all_eq_true] at h;exact⟨h.1,h.2.1,h.2.2⟩
variable {c:PC}
theorem pos_unique (h:Al p=true) {d:PC} (hc:c∈p) (hd:d∈p) (hx:c.x=d.x) (hy:c.y=d.y):c=d:=by
 have hp:=C6 h;obtain⟨i,hi,rfl⟩:=List.getElem_of_mem hc;obtain⟨j,hj,rfl⟩:=List.getElem_of_mem hd;have key:∀ (a b:Nat) (ha:a<p.length) (hb:b<p.length),a<b→p[a].x=p[b].x→p[a].y=p[b].y→False:=fun a b ha hb hab h1 h2=>by have:=List.pairwise_iff_getElem.1 hp a b ha hb hab;simp only [Cf,decide_eq_true_eq] at this;omega
 rcases Nat.lt_trichotomy i j with h1|h1|h1
 ·exact (key i j hi hj h1 hx hy).elim
 ·subst h1;rfl
 ·exact (key j i hj hi h1 hx.symm hy.symm).elim
theorem fld_some {x y:Int} (h:Bl p x y≠0):∃ c∈p,c.x=x∧c.y=y∧Bl p x y=c.st:=by
 unfold Bl at h ⊢;cases hf:p.find? (fun c=>decide (c.x=x∧c.y=y)) with
 | none=>rw [hf] at h;exact absurd rfl h
 | some c =>have h1:=List.find?_some hf;simp only [decide_eq_true_eq] at h1;exact⟨c,List.mem_of_find?_eq_some hf,h1.1,h1.2,rfl⟩
theorem Vt (h:Al p=true) (hc:c∈p):Bl p c.x c.y=c.st:=by
 unfold Bl;cases hf:p.find? (fun d=>decide (d.x=c.x∧d.y=c.y)) with
 | none =>have:=List.find?_eq_none.1 hf c hc;simp at this
 | some d =>have h1:=List.find?_some hf;simp only [decide_eq_true_eq] at h1;rw [pos_unique h (List.mem_of_find?_eq_some hf) hc h1.1 h1.2]
theorem Pu {x y:Int} (h:∀ c∈p,¬(c.x=x∧c.y=y)):Bl p x y=0:=by unfold Bl;rw [List.find?_eq_none.2 fun c hc=>by simpa using h c hc]
theorem fld_snoc (h:∀ d∈p,¬(d.x=c.x∧d.y=c.y)) (x y:Int):Bl (p++[c]) x y=if c.x=x∧c.y=y then c.st else Bl p x y:=by
 by_cases he:c.x=x∧c.y=y;·
  rw [if_pos he];unfold Bl;rw [List.find?_append,List.find?_eq_none.2 fun d hd=>by have:=h d hd;rw [he.1,he.2] at this;simpa using this];simp [he]
 ·rw [if_neg he];unfold Bl;rw [List.find?_append];cases p.find? (fun c=>decide (c.x=x∧c.y=y)) with
  | some d=>rfl
  | none=>simp [he]
def C1 (r:Rule):Bool:=Ar r && down r (List.replicate r.hood.length 0) == 0
variable {r:Rule}
theorem Ch (h:C1 r=true):Ar r=true∧down r (List.replicate r.hood.length 0)=0:=by unfold C1 at h;rw [Bool.and_eq_true,beq_iff_eq] at h;exact h
variable {F:Fld}
theorem Rb (h:C1 r=true) {x y:Int} (hF:∀ i j,-2≤i→i≤2→-2≤j→j≤2→F (x+i) (y+j)=0):gen r F x y=0:=by obtain⟨h1,h2⟩:=Ch h;have hr:=Aa r.hood;unfold gen;rw [show (r.hood.map fun p=>F (x+p.1) (y+p.2))=List.replicate r.hood.length 0 from ?_,h2];rw [List.eq_replicate_iff];refine⟨i_,fun b hb=>?_⟩;obtain⟨p,hp,rfl⟩:=List.mem_map.1 hb;have:=Fp (Cy h1) hp;exact hF _ _ o_ o_ o_ o_
structure Bx where
 x:Int
 y:Int
 w:Nat
 h:Nat
def Rz (b:Bx) (k:Nat):Int×Int:=(b.x - 2+((k % (b.w+4):Nat):Int),b.y - 2+((k / (b.w+4):Nat):Int))
def M2 (b:Bx):List (Int×Int):=(List.range ((b.h+4)*(b.w+4))).map (Rz b)
theorem mem_near {b:Bx} {q:Int×Int}:q∈M2 b↔b.x - 2≤q.1∧q.1<b.x+b.w+2∧b.y - 2≤q.2∧q.2<b.y+b.h+2:=by
 unfold M2;rw [List.mem_map];constructor;·
  rintro⟨k,hk,rfl⟩;have hk:=List.mem_range.1 hk;have h1:k % (b.w+4)<b.w+4:=Nat.mod_lt _ o_;have h2:k / (b.w+4)<b.h+4:=Nat.div_lt_of_lt_mul (by rw [Nat.mul_comm];exact hk);unfold Rz;simp only;generalize k % (b.w+4)=u at *
  generalize k / (b.w+4)=v at *
  omega
 ·rintro⟨h1,h2,h3,h4⟩;obtain⟨u,hu⟩:∃ u:Nat,q.1=b.x - 2+u:=⟨(q.1 - (b.x - 2)).toNat,o_⟩;obtain⟨v,hv⟩:∃ v:Nat,q.2=b.y - 2+v:=⟨(q.2 - (b.y - 2)).toNat,o_⟩;have hu4:u<b.w+4:=o_
  have hv4:v<b.h+4:=o_
  refine⟨v*(b.w+4)+u,List.mem_range.2 ?_,?_⟩;·
   have:(v+1)*(b.w+4)≤(b.h+4)*(b.w+4):=Nat.mul_le_mul_right _ o_;rw [Nat.add_mul] at this;omega
  ·unfold Rz;have e1:(v*(b.w+4)+u) % (b.w+4)=u:=(by rw [Nat.mul_comm,Nat.mul_add_mod,Nat.mod_eq_of_lt hu4]);have e2:(v*(b.w+4)+u) / (b.w+4)=v:=(by rw [Nat.mul_comm,Nat.mul_add_div o_,Nat.div_eq_of_lt hu4,Nat.add_zero]);rw [e1,e2,← hu,← hv]
theorem near_sorted (b:Bx):(M2 b).Pairwise fun p q=>p.2<q.2∨p.2=q.2∧p.1<q.1:=by
 unfold M2;rw [List.pairwise_map];refine List.pairwise_lt_range.imp fun {i j} hij=>?_;unfold Rz;simp only;have hm:0<b.w+4:=o_
 have h1:=Nat.div_add_mod i (b.w+4);have h2:=Nat.div_add_mod j (b.w+4);have h3:i / (b.w+4)≤j / (b.w+4):=Nat.div_le_div_right (Nat.le_of_lt hij);by_cases he:i / (b.w+4)=j / (b.w+4);·
  rw [he] at h1;omega
 ·omega
def cellAt (r:Rule) (F:Fld) (q:Int×Int):Option PC:=if gen r F q.1 q.2=0 then none else some ⟨q.1,q.2,gen r F q.1 q.2⟩
def Ns (r:Rule) (F:Fld) (l:List (Int×Int)):List PC:=l.filterMap (cellAt r F)
theorem R1 {l:List (Int×Int)}:c∈Ns r F l↔(c.x,c.y)∈l∧c.st=gen r F c.x c.y∧c.st≠0:=by
 unfold Ns;rw [List.mem_filterMap];constructor;·
  rintro⟨q,hq,h⟩;unfold cellAt at h;split at h;·cases h
  ·rename_i h0;obtain rfl:=Option.some.inj h;exact⟨hq,rfl,h0⟩
 ·rintro⟨h1,h2,h3⟩;refine⟨(c.x,c.y),h1,?_⟩;unfold cellAt;rw [if_neg (by rw [← h2];exact h3)];simp only [← h2]
theorem nextL_strict (b:Bx):Al (Ns r F (M2 b))=true:=by
 refine Dw ?_;unfold Ns;rw [List.pairwise_filterMap];refine (near_sorted b).imp fun {p q} h c hc d hd=>?_;have key:∀ {q:Int×Int} {c:PC},cellAt r F q=some c→c.x=q.1∧c.y=q.2:=fun {q c} h=>by
  unfold cellAt at h;split at h;·cases h
  ·obtain rfl:=Option.some.inj h;exact⟨rfl,rfl⟩
 obtain⟨c1,c2⟩:=key hc;obtain⟨d1,d2⟩:=key hd;simp only [Cf,decide_eq_true_eq];rw [c1,c2,d1,d2];exact h
def Ln (b:Bx) (F:Fld):Prop:=∀ x y,¬(b.x≤x∧x<b.x+b.w∧b.y≤y∧y<b.y+b.h)→F x y=0
theorem nextL_fld (h:C1 r=true) {b:Bx} (hb:Ln b F):Bl (Ns r F (M2 b))=gen r F:=by
 funext x y;by_cases h0:gen r F x y=0;·
  rw [h0];refine Pu fun c hc he=>?_;obtain⟨_,h2,h3⟩:=R1.1 hc;rw [he.1,he.2,h0] at h2;exact h3 h2
 ·have hm:(⟨x,y,gen r F x y⟩:PC)∈Ns r F (M2 b):=by
   refine R1.2 ⟨mem_near.2 ?_,rfl,h0⟩;refine Classical.byContradiction fun hn=>h0 (Rb h fun i j a1 a2 a3 a4=>hb _ _ fun hh=>hn ?_);simp only;omega
  exact Vt (nextL_strict b) hm
end Go.Proofs.Pt
namespace Go.Proofs.Ev
open Qs Pt YtebolidfbflkmaaGreat
theorem Fa:∀ (n:Nat) {F:Fld} {x y:Int},(∀ i j,0≤i→i<p2 n→0≤j→j<p2 n→F (x+i) (y+j)=0)→mk n F x y=Ab n
 | 0,F,x,y,h=>by have:=h 0 0 o_ (by rw [Gi];omega) o_ (by rw [Gi];omega);rw [Int.add_zero,Int.add_zero] at this;show Tr.leaf _=Tr.leaf _;rw [this]
 | n+1,F,x,y,h=>by
  have e:=Ac n;have p:=C2 n;show Tr.node _ _ _ _=Tr.node _ _ _ _;rw [Fa n fun i j a b c d=>h i j a o_ c o_,Fa n (x:=x+p2 n) fun i j a b c d=>by rw [Int.add_assoc];exact h _ j o_ o_ c o_,
   Fa n (y:=y+p2 n) fun i j a b c d=>by rw [Int.add_assoc y];exact h i _ a o_ o_ o_,Fa n (x:=x+p2 n) (y:=y+p2 n) fun i j a b c d=>by rw [Int.add_assoc,Int.add_assoc];exact h _ _ o_ o_ o_ o_]
def cnt (lost l B:Nat):Nat:=(B - 1+2 ^ l) / 2 ^ (max l lost - 2)+1
def times (lost l k:Nat):List Nat:=if k+lost≤l then [0,2 ^ k] else List.range (2 ^ k+1)
def Sa (lost l:Nat) (a X:Int):Int:=(a - p2 l - X) / gr lost l+1
def P6 (g:Fld→Fld) (F:Fld) (X Y:Int) (lost l m:Nat) (a b:Int) (B:Nat):List Tr :=
 (List.range (cnt lost l B)).flatMap fun (i:Nat)=>(List.range (cnt lost l B)).map fun (j:Nat)=>mk l (it g m F) (X+(Sa lost l a X+(i:Int))*gr lost l) (Y+(Sa lost l b Y+(j:Int))*gr lost l)
def Sx (g:Fld→Fld) (F:Fld) (X Y:Int) (lost n k:Nat) (a b:Int) (B p:Nat):List Tr :=
 (List.range n).flatMap fun l=>Ab (l+1)::(times lost (l+1) k).flatMap fun m=>P6 g F X Y lost (l+1) m (a - (p*m:Nat)) (b - (p*m:Nat)) (B+2*(p*m))
def stepN (lost n k B p:Nat):Nat:=((List.range n).map fun l=>((times lost (l+1) k).map fun m=>cnt lost (l+1) (B+2*(p*m))*cnt lost (l+1) (B+2*(p*m))).sum+1).sum
theorem Qn {α:Type} (c:Nat):∀ l:List α,(l.map fun _=>c).sum=l.length*c
 | []=>by simp
 | x::l=>by simp only [List.map_cons,List.sum_cons,Qn c l,List.length_cons,Nat.succ_mul];omega
theorem placeL_length (g:Fld→Fld) (F:Fld) (X Y:Int) (lost l m:Nat) (a b:Int) (B:Nat):(P6 g F X Y lost l m a b B).length=cnt lost l B*cnt lost l B:=by unfold P6;simp only [List.length_flatMap,List.length_map,List.length_range];rw [Qn,List.length_range]
theorem stepL_length (g:Fld→Fld) (F:Fld) (X Y:Int) (lost n k:Nat) (a b:Int) (B p:Nat):(Sx g F X Y lost n k a b B p).length=stepN lost n k B p:=by unfold Sx stepN;simp only [List.length_flatMap,List.length_cons,placeL_length]
variable {lost l B:Nat}{a X i:Int}
theorem pickG (hB:1≤B) (h1:a - p2 l<X+i*gr lost l) (h2:X+i*gr lost l<a+B):∃ q:Nat,q<cnt lost l B∧i=Sa lost l a X+(q:Int):=by
 have hg:0<gr lost l:=C2 _;unfold Sa;generalize hD:a - p2 l - X=D;have e1:D / gr lost l<i:=Int.ediv_lt_of_lt_mul hg o_;have e2:D<(D / gr lost l+1)*gr lost l:=Int.lt_ediv_add_one_mul_self D hg;refine⟨(i - (D / gr lost l+1)).toNat,?_,o_⟩;unfold cnt;refine Nat.lt_succ_of_le ((Nat.le_div_iff_mul_le (Nat.pow_pos o_)).2 ?_);have e3:((((i - (D / gr lost l+1)).toNat*2 ^ (max l lost - 2):Nat)):Int)=(i - (D / gr lost l+1))*gr lost l:=by rw [Int.natCast_mul,Int.toNat_of_nonneg o_];rfl
 have e4:(((B - 1+2 ^ l:Nat)):Int)=(B:Int) - 1+p2 l:=by rw [Int.natCast_add];show ((B - 1:Nat):Int)+p2 l=_;omega
 refine Int.ofNat_le.1 ?_;show ((_:Nat):Int)≤((_:Nat):Int);rw [e3,e4,Int.sub_mul];omega
variable {F:Fld}{Y b:Int}
theorem place_mem {g:Fld→Fld} {j:Int} {m:Nat} (hB:1≤B) (hx:a - p2 l<X+i*gr lost l∧X+i*gr lost l<a+B) (hy:b - p2 l<Y+j*gr lost l∧Y+j*gr lost l<b+B) :
  mk l (it g m F) (X+i*gr lost l) (Y+j*gr lost l)∈P6 g F X Y lost l m a b B:=by
 obtain⟨q,hq,e1⟩:=pickG hB hx.1 hx.2;obtain⟨s,hs,e2⟩:=pickG hB hy.1 hy.2;unfold P6;refine List.mem_flatMap.2 ⟨q,List.mem_range.2 hq,List.mem_map.2 ⟨s,List.mem_range.2 hs,?_⟩⟩;rw [e1,e2]
variable {n k:Nat}
theorem step_mem {g:Fld→Fld} {p:Nat} {u:Tr} (hB:1≤B) (hH:∀ m:Nat,m≤2 ^ k→Ln ⟨a - (p*m:Nat),b - (p*m:Nat),B+2*(p*m),B+2*(p*m)⟩ (it g m F)) (h:At g F X Y lost n k u):u∈Sx g F X Y lost n k a b B p:=by
 obtain⟨l,m,i,j,h1,h2,h3,h4,rfl⟩:=h;have hm:=hH m h3;unfold Sx;refine List.mem_flatMap.2 ⟨l - 1,List.mem_range.2 o_,?_⟩;rw [show l - 1+1=l by omega];by_cases hx:a - (p*m:Nat) - p2 l<X+i*gr lost l∧X+i*gr lost l<a - (p*m:Nat)+(B+2*(p*m):Nat);·
  by_cases hy:b - (p*m:Nat) - p2 l<Y+j*gr lost l∧Y+j*gr lost l<b - (p*m:Nat)+(B+2*(p*m):Nat);·
   refine List.mem_cons_of_mem _ (List.mem_flatMap.2 ⟨m,?_,place_mem o_ hx hy⟩);unfold times;split;·
    rename_i hk;rcases h4 hk with e|e<;>simp [e]
   ·exact List.mem_range.2 o_
  ·rw [Fa l fun u v a1 a2 a3 a4=>hm _ _ fun hc=>hy (by simp only at hc;omega)];exact List.mem_cons_self
 ·rw [Fa l fun u v a1 a2 a3 a4=>hm _ _ fun hc=>hx (by simp only at hc;omega)];exact List.mem_cons_self
variable {w:Nat}
theorem R8 {a' b':Int} {h w' h':Nat} (hF:Ln ⟨a,b,w,h⟩ F) (h1:a'≤a) (h2:b'≤b) (h3:a+w≤a'+w') (h4:b+h≤b'+h'):Ln ⟨a',b',w',h'⟩ F:=fun x y hn=>hF x y fun hc=>hn (by simp only at hc ⊢;omega)
def rad (r:Rule):Nat:=(A3 r.hood).toNat
variable {r:Rule}
theorem hold_gen (h:C1 r=true) {v:Nat} (hF:Ln ⟨a,b,w,v⟩ F):Ln ⟨a - rad r,b - rad r,w+2*rad r,v+2*rad r⟩ (gen r F):=fun x y hn=>by
 obtain⟨h1,h2⟩:=Ch h;have hr:=Aa r.hood;have hrr:((rad r:Nat):Int)=A3 r.hood:=by unfold rad;omega
 rw [Eg h1 (F:=F) (H:=fun _ _=>0) (x:=x) (y:=y) (u:=x) (v:=y) fun i j a1 a2 a3 a4=>hF _ _ fun hc=>hn (by simp only at hc ⊢;omega)];exact Rb h fun _ _ _ _ _ _=>rfl
theorem Om {r:Rule} (h:C1 r=true) {F:Fld} {a b:Int} {w v:Nat} (hF:Ln ⟨a,b,w,v⟩ F):∀ m:Nat,Ln ⟨a - (rad r*m:Nat),b - (rad r*m:Nat),w+2*(rad r*m),v+2*(rad r*m)⟩ (it (gen r) m F)
 | 0=>by simpa [it] using hF
 | m+1=>by refine R8 (hold_gen h (Om h hF m)) ?_ ?_ ?_ ?_<;>rw [Nat.mul_succ]<;>omega
def X8 (r:Rule) (F:Fld) (a b:Int) (B n:Nat):List Tr :=
 (List.range 200).flatMap fun k=>if n / 2 ^ k % 2=1 then Sx (gen r) (it (gen r) (n % 2 ^ k) F) (-p2 206) (-p2 206) (A1 (A3 r.hood)) 207 k (a - (rad r*(n % 2 ^ k):Nat)) (b - (rad r*(n % 2 ^ k):Nat)) (B+2*(rad r*(n % 2 ^ k))) (rad r) else []
def runN (p lost B n:Nat):Nat:=((List.range 200).map fun k=>if n / 2 ^ k % 2=1 then stepN lost 207 k (B+2*(p*(n % 2 ^ k))) p else 0).sum
theorem runL_length (r:Rule) (F:Fld) (a b:Int) (B n:Nat):(X8 r F a b B n).length=runN (rad r) (A1 (A3 r.hood)) B n:=by
 unfold X8 runN;rw [List.length_flatMap];congr 2;funext k;split;·exact stepL_length _ _ _ _ _ _ _ _ _ _ _
 ·rfl
theorem run_need (h:C1 r=true) (hB:1≤B) (hF:Ln ⟨a,b,B,B⟩ F) (hk:k<200) (hbit:n / 2 ^ k % 2=1) :
  ∀ u∈Da (gen r) (A1 (A3 r.hood)) 207 k (mk 207 (it (gen r) (n % 2 ^ k) F) (-p2 206) (-p2 206)),u∈X8 r F a b B n:=fun u hu=>by
 have hr:=Aa r.hood;have hl:=D3 hr.1 hr.2;have hat:=Vi (Eg (Ch h).1) hr.1 hr.2 207 k _ _ _ o_ o_ u hu;unfold X8;refine List.mem_flatMap.2 ⟨k,List.mem_range.2 hk,?_⟩;rw [if_pos hbit];exact step_mem o_ (fun m _=>Om h (Om h hF (n % 2 ^ k)) m) hat
theorem runN_tab:((List.range 3).all fun p=>(List.range 11).all fun n=>decide (runN p (max p 1+1) 21 n≤56000))=true:=by decide +kernel
theorem T4 (r:Rule):rad r<3∧A1 (A3 r.hood)=max (rad r) 1+1:=by have hr:=Aa r.hood;unfold rad A1;omega
theorem runL_le (r:Rule) (F:Fld) (a b:Int) (hn:n≤10):(X8 r F a b 21 n).length≤56000:=by have h:=runN_tab;have hr:=T4 r;simp only [List.all_eq_true,List.mem_range,decide_eq_true_eq] at h;rw [runL_length,hr.2];exact h _ hr.1 n o_
end Go.Proofs.Ev
namespace Go.Proofs.YtebolidfbflkmaaGreat
open Go Qs Ev
def Dv:Nat→List Spot→Tr
 | n,[]=>Ab n
 | 0,c::_=>.leaf c.st
 | n+1,c::l=>.node (Dv n (Jm (2 ^ n) 0 (c::l))) (Dv n (Jm (2 ^ n) 1 (c::l))) (Dv n (Jm (2 ^ n) 2 (c::l))) (Dv n (Jm (2 ^ n) 3 (c::l)))
theorem quadOf_lt (h:Nat) (c:Spot):Fi h c<4:=by unfold Fi;split<;>split<;>omega
theorem Nz (f:Spot→Nat) (hf:∀ c,f c<4):∀ l:List Spot,((l.filter fun c=>decide (f c=0))++((l.filter fun c=>decide (f c=1))++((l.filter fun c=>decide (f c=2))++(l.filter fun c=>decide (f c=3))))).Perm l
 | []=>List.Perm.refl _
 | c::l=>by
  have ih:=Nz f hf l;have:=hf c;have h4:f c=0∨f c=1∨f c=2∨f c=3:=o_
  rcases h4 with e|e|e|e<;>simp only [List.filter_cons,e,decide_true,if_true,show decide ((0:Nat)=1)=false from rfl,show decide ((0:Nat)=2)=false from rfl,show decide ((0:Nat)=3)=false from rfl,
   show decide ((1:Nat)=0)=false from rfl,show decide ((1:Nat)=2)=false from rfl,show decide ((1:Nat)=3)=false from rfl,show decide ((2:Nat)=0)=false from rfl,show decide ((2:Nat)=1)=false from rfl,show decide ((2:Nat)=3)=false from rfl,
   show decide ((3:Nat)=0)=false from rfl,show decide ((3:Nat)=1)=false from rfl,show decide ((3:Nat)=2)=false from rfl,Bool.false_eq_true,if_false]
  ·exact ih.cons c
  ·exact List.perm_middle.trans (ih.cons c)
  ·refine List.Perm.trans ?_ (ih.cons c);refine (List.Perm.append_left _ List.perm_middle).trans ?_;exact List.perm_middle
  ·refine List.Perm.trans ?_ (ih.cons c);refine (List.Perm.append_left _ ((List.Perm.append_left _ List.perm_middle).trans List.perm_middle)).trans ?_;exact List.perm_middle
structure OkS (s:Int) (n:Nat) (l:List Spot):Prop where
 inside:∀ c∈l,c.x<2 ^ n∧c.y<2 ^ n
 state:∀ c∈l,1≤c.st∧c.st<s
 apart:l.Pairwise fun a b=>¬ (a.x=b.x∧a.y=b.y)
variable {s:Int}{n:Nat}{l:List Spot}
theorem OkS.part (h:OkS s (n+1) l) (k:Nat):OkS s n (Jm (2 ^ n) k l) where
 inside c hc:=by simp only [Jm,List.mem_map,List.mem_filter,decide_eq_true_eq] at hc;obtain⟨d,⟨hd,hq⟩,rfl⟩:=hc;have:=h.inside d hd;rw [Nat.pow_succ] at this;simp only [R4];constructor<;>split<;>omega
 state c hc:=by simp only [Jm,List.mem_map,List.mem_filter,decide_eq_true_eq] at hc;obtain⟨d,⟨hd,hq⟩,rfl⟩:=hc;exact h.state d hd
 apart:=by unfold Jm;rw [List.pairwise_map];refine List.Pairwise.imp_of_mem ?_ (h.apart.filter _);intro a b ha hb hab;simp only [List.mem_filter,decide_eq_true_eq] at ha hb;have e:Fi (2 ^ n) a=Fi (2 ^ n) b:=ha.2.trans hb.2.symm;unfold Fi at e;simp only [R4];intro hh;apply hab;obtain⟨h1,h2⟩:=hh;by_cases x1:2 ^ n≤a.x<;>by_cases x2:2 ^ n≤b.x<;>by_cases y1:2 ^ n≤a.y<;>by_cases y2:2 ^ n≤b.y<;>simp only [x1,x2,y1,y2,if_true,if_false] at e h1 h2<;>omega
theorem OkS.nil {s:Int} {n:Nat}:OkS s n []:=⟨i_,i_,List.Pairwise.nil⟩
theorem OkS.one {c:Spot} (h:OkS s 0 (c::l)):l=[]∧c.x=0∧c.y=0:=by
 have hc:=h.inside c i_;cases l with
 | nil=>exact⟨rfl,o_,o_⟩
 | cons d l =>have hd:=h.inside d i_;have:=(List.pairwise_cons.1 h.apart).1 d i_;simp only [Nat.pow_zero] at hc hd;exact absurd ⟨o_,o_⟩ this
def S1 (X Y:Nat) (c:Spot):Spot:=⟨X+c.x,Y+c.y,c.st⟩
theorem J3 {s:Int}:∀ {n:Nat} {l:List Spot} {X Y:Nat},OkS s n l→(Cj n (Dv n l) X Y).Perm (l.map (S1 X Y))
 | n,[],X,Y,_=>by
  have:Dv n []=Ab n:=by cases n<;>rfl
  rw [this,cellsT_none (Eh n) (Qt n)];exact List.Perm.refl _
 | 0,c::l,X,Y,h=>by obtain⟨rfl,hx,hy⟩:=h.one;have:=h.state c i_;simp only [Dv,Cj,List.map_cons,List.map_nil,S1];rw [if_neg o_,hx,hy];exact List.Perm.refl _
 | n+1,c::l,X,Y,h=>by
  have e:∀ k (A B:Nat),(∀ d∈c::l,Fi (2 ^ n) d=k→A+(R4 (2 ^ n) d).x=X+d.x∧B+(R4 (2 ^ n) d).y=Y+d.y) →
    (Cj n (Dv n (Jm (2 ^ n) k (c::l))) A B).Perm (((c::l).filter fun d=>decide (Fi (2 ^ n) d=k)).map (S1 X Y)):=by
   intro k A B hk;refine (J3 (h.part k)).trans ?_;have:((Jm (2 ^ n) k (c::l)).map (S1 A B))=((c::l).filter fun d=>decide (Fi (2 ^ n) d=k)).map (S1 X Y):=by unfold Jm;rw [List.map_map];apply List.map_congr_left;intro d hd;simp only [List.mem_filter,decide_eq_true_eq] at hd;obtain⟨h1,h2⟩:=hk d hd.1 hd.2;simp only [Function.comp_apply,S1];rw [h1,h2];rfl
   rw [this]
  have hq:∀ d:Spot,∀ k,Fi (2 ^ n) d=k→(k % 2=1↔2 ^ n≤d.x)∧(2≤k↔2 ^ n≤d.y):=by intro d k hk;unfold Fi at hk;constructor<;>constructor<;>intro hh<;>(repeat' split at hk)<;>omega
  have hP:=Nz (Fi (2 ^ n)) (quadOf_lt (2 ^ n)) (c::l);refine List.Perm.trans ?_ (hP.map (S1 X Y));rw [List.map_append,List.map_append,List.map_append];simp only [Dv,Cj];refine (e 0 X Y ?_).append ((e 1 (X+2 ^ n) Y ?_).append ((e 2 X (Y+2 ^ n) ?_).append (e 3 (X+2 ^ n) (Y+2 ^ n) ?_))) <;>
  ·intro d hd hk;obtain⟨h1,h2⟩:=hq d _ hk;simp only [R4];constructor<;>split<;>omega
theorem Di:∀ (n:Nat) (l:List Spot),Full n (Dv n l)
 | n,[]=>by have:Dv n []=Ab n:=(by cases n<;>rfl);rw [this];exact Eh n
 | 0,c::l=>trivial
 | n+1,c::l=>⟨Di n _,Di n _,Di n _,Di n _⟩
theorem pop_treeOf (h:OkS s n l):B0 (Dv n l)=l.length:=by rw [← Ek (x:=0) (y:=0) (Di n l),(J3 h).length_eq,List.length_map]
end Go.Proofs.YtebolidfbflkmaaGreat
namespace Go.Proofs.Uni
open Go Qs Ev Pt YtebolidfbflkmaaGreat
def J7 (x y:Int) (c:PC):Spot:=⟨(c.x - x).toNat,(c.y - y).toNat,c.st⟩
def inSq (x y:Int) (L:Nat) (c:PC):Prop:=(x≤c.x∧c.x - x<p2 L)∧(y≤c.y∧c.y - y<p2 L)
variable {L:Nat}
theorem M8 {x y:Int} {c:PC}:inSq x y L c↔(x≤c.x∧c.x - x<p2 L)∧(y≤c.y∧c.y - y<p2 L):=Iff.rfl
theorem Jy:∀ {n:Nat} {t:Tr} {x0 y0:Nat} {c:Spot},Full n t→c∈Cj n t x0 y0→x0≤c.x∧c.x<x0+2 ^ n∧y0≤c.y∧c.y<y0+2 ^ n∧cell n t ((c.x:Int) - x0) ((c.y:Int) - y0)=c.st
 | 0,.leaf v,x0,y0,c,hf,h=>by
  unfold Cj at h;split at h;·cases h
  ·rw [List.mem_singleton] at h;subst h;exact⟨Nat.le_refl _,i_,Nat.le_refl _,i_,rfl⟩
 | 0,.node _ _ _ _,x0,y0,c,hf,h=>hf.elim
 | n+1,.leaf _,x0,y0,c,hf,h=>hf.elim
 | n+1,.node a b d e,x0,y0,c,⟨ha,hb,hd,he⟩,h=>by
  have hp:2 ^ (n+1)=2 ^ n+2 ^ n:=by rw [Nat.pow_succ];omega
  have hq:p2 n=((2 ^ n:Nat):Int):=rfl;rw [hp];unfold Cj at h;simp only [List.mem_append] at h;show _∧_∧_∧_∧(if (c.y:Int) - y0<p2 n then (if (c.x:Int) - x0<p2 n then cell n a _ _ else cell n b _ _) else (if (c.x:Int) - x0<p2 n then cell n d _ _ else cell n e _ _))=c.st;rw [hq];generalize hP:2 ^ n=P at *
  rcases h with h|h|h|h
  ·have:=Jy ha h;rw [hP] at this;refine⟨o_,o_,o_,o_,?_⟩;rw [if_pos o_,if_pos o_];exact this.2.2.2.2
  ·have:=Jy hb h;rw [hP] at this;refine⟨o_,o_,o_,o_,?_⟩;rw [if_pos o_,if_neg o_];have e1:=this.2.2.2.2;rw [show (c.x:Int) - ((x0+P:Nat):Int)=(c.x:Int) - x0 - (P:Int) by omega] at e1;exact e1
  ·have:=Jy hd h;rw [hP] at this;refine⟨o_,o_,o_,o_,?_⟩;rw [if_neg o_,if_pos o_];have e1:=this.2.2.2.2;rw [show (c.y:Int) - ((y0+P:Nat):Int)=(c.y:Int) - y0 - (P:Int) by omega] at e1;exact e1
  ·have:=Jy he h;rw [hP] at this;refine⟨o_,o_,o_,o_,?_⟩;rw [if_neg o_,if_neg o_];have e1:=this.2.2.2.2;rw [show (c.y:Int) - ((y0+P:Nat):Int)=(c.y:Int) - y0 - (P:Int) by omega,show (c.x:Int) - ((x0+P:Nat):Int)=(c.x:Int) - x0 - (P:Int) by omega] at e1;exact e1
theorem Mj:∀ {n:Nat} {t:Tr} {x0 y0 i j:Nat},Full n t→i<2 ^ n→j<2 ^ n→cell n t (i:Int) (j:Int)≠0→(⟨x0+i,y0+j,cell n t (i:Int) (j:Int)⟩:Spot)∈Cj n t x0 y0
 | 0,.leaf v,x0,y0,i,j,hf,hi,hj,h=>by
  have hi0:i=0:=by simpa using hi
  have hj0:j=0:=by simpa using hj
  subst hi0 hj0;have hv:v≠0:=h;unfold Cj;rw [if_neg hv];exact List.mem_singleton.2 rfl
 | 0,.node _ _ _ _,x0,y0,i,j,hf,hi,hj,h=>hf.elim
 | n+1,.leaf _,x0,y0,i,j,hf,hi,hj,h=>hf.elim
 | n+1,.node a b d e,x0,y0,i,j,⟨ha,hb,hd,he⟩,hi,hj,h=>by
  have hp:2 ^ (n+1)=2 ^ n+2 ^ n:=by rw [Nat.pow_succ];omega
  have hq:p2 n=((2 ^ n:Nat):Int):=rfl;rw [hp] at hi hj;have hc:cell (n+1) (.node a b d e) (i:Int) (j:Int)=if (j:Int)<p2 n then (if (i:Int)<p2 n then cell n a i j else cell n b ((i:Int) - p2 n) j) else (if (i:Int)<p2 n then cell n d i ((j:Int) - p2 n) else cell n e ((i:Int) - p2 n) ((j:Int) - p2 n)):=rfl
  rw [hc] at h ⊢;rw [hq] at h ⊢;unfold Cj;simp only [List.mem_append];by_cases h1:j<2 ^ n;·
   rw [if_pos o_] at h ⊢;by_cases h2:i<2 ^ n;·
    rw [if_pos o_] at h ⊢;exact .inl (Mj ha h2 h1 h)
   ·rw [if_neg o_] at h ⊢;obtain⟨u,rfl⟩:∃ u,i=2 ^ n+u:=⟨i - 2 ^ n,o_⟩;rw [show ((2 ^ n+u:Nat):Int) - ((2 ^ n:Nat):Int)=(u:Int) by omega] at h ⊢;have:=Mj (x0:=x0+2 ^ n) (y0:=y0) hb o_ h1 h;rw [Nat.add_assoc] at this;exact .inr (.inl this)
  ·rw [if_neg o_] at h ⊢;obtain⟨v,rfl⟩:∃ v,j=2 ^ n+v:=⟨j - 2 ^ n,o_⟩;rw [show ((2 ^ n+v:Nat):Int) - ((2 ^ n:Nat):Int)=(v:Int) by omega] at h ⊢;by_cases h2:i<2 ^ n;·
    rw [if_pos o_] at h ⊢;have:=Mj (x0:=x0) (y0:=y0+2 ^ n) hd h2 o_ h;rw [Nat.add_assoc] at this;exact .inr (.inr (.inl this))
   ·rw [if_neg o_] at h ⊢;obtain⟨u,rfl⟩:∃ u,i=2 ^ n+u:=⟨i - 2 ^ n,o_⟩;rw [show ((2 ^ n+u:Nat):Int) - ((2 ^ n:Nat):Int)=(u:Int) by omega] at h ⊢;have:=Mj (x0:=x0+2 ^ n) (y0:=y0+2 ^ n) he o_ o_ h;rw [Nat.add_assoc,Nat.add_assoc] at this;exact .inr (.inr (.inr this))
variable {s:Int}{p:List PC}
theorem Sy (hr:Cn p=true) {x y:Int} (hin:∀ c∈p,inSq x y L c) (hs:∀ c∈p,c.st<s):OkS s L (p.map (J7 x y)):=by
 have hp:=Cx hr;refine⟨fun c hc=>?_,fun c hc=>?_,?_⟩;·
  obtain⟨d,hd,rfl⟩:=List.mem_map.1 hc;have:=M8.1 (hin d hd);unfold p2 at this;unfold J7;simp only;omega
 ·obtain⟨d,hd,rfl⟩:=List.mem_map.1 hc;have h1:=hp.2.1 d hd;simp only [Ig,Bool.and_eq_true,decide_eq_true_eq] at h1;have:=hs d hd;unfold J7;simp only;omega
 ·rw [List.pairwise_map];refine (List.Pairwise.and_mem.1 (C6 hp.2.2)).imp fun {a b} h=>?_;obtain⟨ha,hb,hab⟩:=h;have h1:=M8.1 (hin a ha);have h2:=M8.1 (hin b hb);simp only [Cf,decide_eq_true_eq] at hab;unfold J7;simp only;omega
theorem tree_fld (hr:Cn p=true) {x y:Int} (hin:∀ c∈p,inSq x y L c) (hs:∀ c∈p,c.st<s):Dv L (p.map (J7 x y))=mk L (Bl p) x y:=by
 have hok:=Sy hr hin hs;have hfull:=Di L (p.map (J7 x y));have hperm:=J3 (X:=0) (Y:=0) hok;have hmov:(p.map (J7 x y)).map (S1 0 0)=p.map (J7 x y):=by rw [List.map_map];refine List.map_congr_left fun c _=>?_;simp [S1]
 rw [hmov] at hperm;generalize hT:Dv L (p.map (J7 x y))=T at *
 rw [← Kd L hfull];refine C9 L fun i j h1 h2 h3 h4=>?_;rw [Int.zero_add,Int.zero_add];obtain⟨u,rfl⟩:∃ u:Nat,i=u:=⟨i.toNat,o_⟩;obtain⟨v,rfl⟩:∃ v:Nat,j=v:=⟨j.toNat,o_⟩;unfold p2 at h2 h4;by_cases h0:cell L T u v=0;·
  rw [h0];refine Classical.byContradiction fun hne=>?_;obtain⟨c,hc,hx,hy,he⟩:=fld_some (fun e=>hne e.symm:Bl p (x+u) (y+v)≠0);have hm:J7 x y c∈Cj L T 0 0:=hperm.symm.subset (List.mem_map_of_mem hc);have:=(Jy hfull hm).2.2.2.2;unfold J7 at this;simp only at this;rw [show (((c.x - x).toNat:Nat):Int) - ((0:Nat):Int)=(u:Int) by omega,show (((c.y - y).toNat:Nat):Int) - ((0:Nat):Int)=(v:Int) by omega,h0] at this;have hst:=(Cx hr).2.1 c hc;simp only [Ig,Bool.and_eq_true,decide_eq_true_eq] at hst;omega
 ·have hm:=Mj (x0:=0) (y0:=0) hfull (show u<2 ^ L by omega) (show v<2 ^ L by omega) h0;obtain⟨c,hc,he⟩:=List.mem_map.1 (hperm.subset hm);have hci:=M8.1 (hin c hc);unfold J7 at he;simp only [Spot.mk.injEq] at he;have e1:x+(u:Int)=c.x:=o_
  have e2:y+(v:Int)=c.y:=o_
  rw [e1,e2,Vt (Cx hr).2.2 hc];exact he.2.2.symm
theorem pop_fld (hr:Cn p=true) {x y:Int} (hin:∀ c∈p,inSq x y L c) (hs:∀ c∈p,c.st<s):B0 (mk L (Bl p) x y)=p.length:=by have h:=pop_treeOf (Sy hr hin hs);rw [tree_fld hr hin hs,List.length_map] at h;exact h
def C8 (F:Fld) (X Y:Int):Fld:=fun x y=>F (x - X) (y - Y)
theorem mk_mov (n:Nat) (F:Fld) (X Y x y:Int):mk n (C8 F X Y) x y=mk n F (x - X) (y - Y):=C9 n fun i j _ _ _ _=>by show F (x+i - X) (y+j - Y)=_;congr 1<;>omega
theorem gen_mov (r:Rule) (F:Fld) (X Y:Int):gen r (C8 F X Y)=C8 (gen r F) X Y:=by funext x y;show down r _=down r _;congr 1;refine List.map_congr_left fun p _=>?_;show F (x+p.1 - X) (y+p.2 - Y)=F (x - X+p.1) (y - Y+p.2);congr 1<;>omega
theorem it_mov (r:Rule) (F:Fld) (X Y:Int):∀ n,it (gen r) n (C8 F X Y)=C8 (it (gen r) n F) X Y
 | 0=>rfl
 | n+1=>by show gen r _=C8 (gen r _) X Y;rw [it_mov r F X Y n,gen_mov]
variable {F:Fld}
theorem hold_mov {a b:Int} {w h:Nat} (hF:Ln ⟨a,b,w,h⟩ F) (X Y:Int):Ln ⟨a+X,b+Y,w,h⟩ (C8 F X Y):=fun x y hn=>hF _ _ fun hc=>hn (by simp only at hc ⊢;omega)
def Um (F:Fld) (x y st:Int):Fld:=fun i j=>if i=x∧j=y then st else F i j
theorem mod_one (x n:Nat) (h:x<2 ^ (n+1)):(x / 2 ^ n % 2=0∧x % 2 ^ n=x)∨(x / 2 ^ n % 2=1∧x=2 ^ n+x % 2 ^ n):=by
 have h1:=mod_step x n;rw [Nat.mod_eq_of_lt h] at h1;have:x / 2 ^ n % 2=0∨x / 2 ^ n % 2=1:=o_
 rcases this with e|e
 ·rw [e,Nat.mul_zero,Nat.add_zero] at h1;exact .inl ⟨e,h1.symm⟩
 ·rw [e,Nat.mul_one] at h1;exact .inr ⟨e,o_⟩
theorem qd_low (n m x y:Nat) (h:m<n):qd m (x % 2 ^ n) (y % 2 ^ n)=qd m x y:=by
 have key:∀ x,x % 2 ^ n / 2 ^ m % 2=x / 2 ^ m % 2:=fun x=>by obtain⟨d,rfl⟩:∃ d,n=m+1+d:=⟨n - m - 1,o_⟩;rw [Nat.pow_add,Nat.pow_succ,Nat.mul_assoc,Nat.mod_mul_right_div_self,Nat.mod_mul_right_mod]
 unfold qd;rw [key,key]
theorem Jf:∀ (n m:Nat) (t:Tr) (x y:Nat) (st:Int),n≤m→Kr n t (x % 2 ^ m) (y % 2 ^ m) st=Kr n t x y st
 | 0,m,t,x,y,st,h=>by cases t<;>rfl
 | n+1,m,.leaf v,x,y,st,h=>rfl
 | n+1,m,.node a b c d,x,y,st,h=>by simp only [Kr];rw [qd_low m n x y o_,Jf n m a x y st o_,Jf n m b x y st o_,Jf n m c x y st o_,Jf n m d x y st o_]
theorem R2:∀ (n m:Nat) (t:Tr) (x y:Nat),n≤m→I2 n t (x % 2 ^ m) (y % 2 ^ m)=I2 n t x y
 | 0,m,t,x,y,h=>by cases t<;>rfl
 | n+1,m,t,x,y,h=>by simp only [I2];rw [qd_low m n x y o_,R2 n m _ x y o_]
theorem B3 (n:Nat) (F:Fld) (x y i j st:Int) (h:¬ (x≤i∧i<x+p2 n∧y≤j∧j<y+p2 n)):mk n (Um F i j st) x y=mk n F x y:=C9 n fun u v a b c d=>by show (if x+u=i∧y+v=j then st else _)=_;rw [if_neg];omega
theorem V1:∀ (n:Nat) (F:Fld) (X Y:Int) (x y:Nat) (st:Int),x<2 ^ n→y<2 ^ n→Kr n (mk n F X Y) x y st=mk n (Um F (X+x) (Y+y) st) X Y
 | 0,F,X,Y,x,y,st,hx,hy=>by
  obtain rfl:x=0:=o_
  obtain rfl:y=0:=o_
  show Tr.leaf st=Tr.leaf (if X=X+0∧Y=Y+0 then st else _);rw [if_pos ⟨o_,o_⟩]
 | n+1,F,X,Y,x,y,st,hx,hy=>by
  have e2:p2 n=((2 ^ n:Nat):Int):=rfl;have mx:=Nat.mod_lt x (Nat.pow_pos (n:=n) (show 0<2 by omega));have my:=Nat.mod_lt y (Nat.pow_pos (n:=n) (show 0<2 by omega));have ih:=fun A B=>V1 n F A B (x % 2 ^ n) (y % 2 ^ n) st mx my;simp only [Jf n n _ x y st (Nat.le_refl n)] at ih;simp only [mk,Kr];rcases mod_one x n hx with ⟨h1,h2⟩|⟨h1,h2⟩<;>rcases mod_one y n hy with ⟨h3,h4⟩|⟨h3,h4⟩
  ·rw [if_pos (by unfold qd;omega),ih,h2,h4,B3 n F (X+p2 n) Y _ _ _ o_,B3 n F X (Y+p2 n) _ _ _ o_,B3 n F (X+p2 n) (Y+p2 n) _ _ _ o_]
  ·rw [if_neg (by unfold qd;omega),if_neg (by unfold qd;omega),if_pos (by unfold qd;omega),ih,h2,B3 n F X Y _ _ _ o_,B3 n F (X+p2 n) Y _ _ _ o_,B3 n F (X+p2 n) (Y+p2 n) _ _ _ o_];rw [show Y+p2 n+((y % 2 ^ n:Nat):Int)=Y+(y:Int) by omega]
  ·rw [if_neg (by unfold qd;omega),if_pos (by unfold qd;omega),ih,h4,B3 n F X Y _ _ _ o_,B3 n F X (Y+p2 n) _ _ _ o_,B3 n F (X+p2 n) (Y+p2 n) _ _ _ o_];rw [show X+p2 n+((x % 2 ^ n:Nat):Int)=X+(x:Int) by omega]
  ·rw [if_neg (by unfold qd;omega),if_neg (by unfold qd;omega),if_neg (by unfold qd;omega),ih,B3 n F X Y _ _ _ o_,B3 n F (X+p2 n) Y _ _ _ o_,B3 n F X (Y+p2 n) _ _ _ o_];rw [show X+p2 n+((x % 2 ^ n:Nat):Int)=X+(x:Int) by omega,show Y+p2 n+((y % 2 ^ n:Nat):Int)=Y+(y:Int) by omega]
theorem Tp:∀ (n:Nat) (F:Fld) (X Y:Int) (x y:Nat),x<2 ^ n→y<2 ^ n→I2 n (mk n F X Y) x y=F (X+x) (Y+y)
 | 0,F,X,Y,x,y,hx,hy=>by
  obtain rfl:x=0:=o_
  obtain rfl:y=0:=o_
  show F X Y=F (X+0) (Y+0);rw [Int.add_zero,Int.add_zero]
 | n+1,F,X,Y,x,y,hx,hy=>by
  have e2:p2 n=((2 ^ n:Nat):Int):=rfl;have mx:=Nat.mod_lt x (Nat.pow_pos (n:=n) (show 0<2 by omega));have my:=Nat.mod_lt y (Nat.pow_pos (n:=n) (show 0<2 by omega));have ih:=fun A B=>Tp n F A B (x % 2 ^ n) (y % 2 ^ n) mx my;simp only [R2 n n _ x y (Nat.le_refl n)] at ih;simp only [mk,I2];rcases mod_one x n hx with ⟨h1,h2⟩|⟨h1,h2⟩<;>rcases mod_one y n hy with ⟨h3,h4⟩|⟨h3,h4⟩
  ·rw [show qd n x y=0 by unfold qd;omega];show I2 n (mk n F X Y) x y=_;rw [ih,h2,h4]
  ·rw [show qd n x y=2 by unfold qd;omega];show I2 n (mk n F X (Y+p2 n)) x y=_;rw [ih,h2,show Y+p2 n+((y % 2 ^ n:Nat):Int)=Y+(y:Int) by omega]
  ·rw [show qd n x y=1 by unfold qd;omega];show I2 n (mk n F (X+p2 n) Y) x y=_;rw [ih,h4,show X+p2 n+((x % 2 ^ n:Nat):Int)=X+(x:Int) by omega]
  ·rw [show qd n x y=3 by unfold qd;omega];show I2 n (mk n F (X+p2 n) (Y+p2 n)) x y=_;rw [ih,show X+p2 n+((x % 2 ^ n:Nat):Int)=X+(x:Int) by omega,show Y+p2 n+((y % 2 ^ n:Nat):Int)=Y+(y:Int) by omega]
variable {n:Nat}
theorem expT_mk {x y:Int} (h:∀ i j,¬ (x≤i∧i<x+p2 (n+1)∧y≤j∧j<y+p2 (n+1))→F i j=0):expT n (mk (n+1) F x y)=mk (n+2) F (x - p2 n) (y - p2 n):=by
 have e:=Ac n;have hp:=C2 n;have bl:∀ a b,(a+p2 n≤x∨x+p2 (n+1)≤a∨b+p2 n≤y∨y+p2 (n+1)≤b)→Ab n=mk n F a b:=fun a b hab=>(Fa n fun i j a1 a2 a3 a4=>h _ _ o_).symm;have key:∀ (a b c d:Int),a=c→b=d→mk n F a b=mk n F c d:=by rintro a b c d rfl rfl;rfl
 show Tr.node (.node (Ab n) (Ab n) (Ab n) (mk n F x y)) (.node (Ab n) (Ab n) (mk n F (x+p2 n) y) (Ab n)) (.node (Ab n) (mk n F x (y+p2 n)) (Ab n) (Ab n)) (.node (mk n F (x+p2 n) (y+p2 n)) (Ab n) (Ab n) (Ab n)) =
  Tr.node (.node (mk n F _ _) (mk n F _ _) (mk n F _ _) (mk n F _ _)) (.node (mk n F _ _) (mk n F _ _) (mk n F _ _) (mk n F _ _)) (.node (mk n F _ _) (mk n F _ _) (mk n F _ _) (mk n F _ _)) (.node (mk n F _ _) (mk n F _ _) (mk n F _ _) (mk n F _ _))
 congr 1<;>congr 1<;>first|exact bl _ _ o_|exact key _ _ _ _ o_ o_
structure FrIs (n:Nat) (F:Fld) (x y:Int) (f:Frm):Prop where
 all:∀ i j,0≤i→i<p2 n→0≤j→j<p2 n→F (x+i) (y+j)≠0→f.1≤i∧i≤f.2.2.1∧f.2.1≤j∧j≤f.2.2.2
 left:∃ i j,0≤i∧i<p2 n∧0≤j∧j<p2 n∧F (x+i) (y+j)≠0∧i=f.1
 top:∃ i j,0≤i∧i<p2 n∧0≤j∧j<p2 n∧F (x+i) (y+j)≠0∧j=f.2.1
 right:∃ i j,0≤i∧i<p2 n∧0≤j∧j<p2 n∧F (x+i) (y+j)≠0∧i=f.2.2.1
 bottom:∃ i j,0≤i∧i<p2 n∧0≤j∧j<p2 n∧F (x+i) (y+j)≠0∧j=f.2.2.2
theorem fr_is:∀ (n:Nat) (F:Fld) (x y:Int),(∀ f,frT n (mk n F x y)=some f→FrIs n F x y f)∧(frT n (mk n F x y)=none→∀ i j,0≤i→i<p2 n→0≤j→j<p2 n→F (x+i) (y+j)=0)
 | 0,F,x,y=>by
  have e:frT 0 (mk 0 F x y)=if F x y=0 then none else some (0,0,0,0):=rfl
  have h1:p2 0=1:=rfl;constructor;·
   intro f hf;rw [e] at hf;split at hf;·cases hf
   ·rename_i hne;obtain rfl:=Option.some.inj hf;have w:∃ i j:Int,0≤i∧i<p2 0∧0≤j∧j<p2 0∧F (x+i) (y+j)≠0∧i=0∧j=0:=⟨0,0,o_,o_,o_,o_,by simpa using hne,rfl,rfl⟩;obtain⟨i,j,a,b,c,d,e,g,k⟩:=w;exact⟨fun i j a b c d _=>by simp only;omega,⟨i,j,a,b,c,d,e,g⟩,⟨i,j,a,b,c,d,e,k⟩,⟨i,j,a,b,c,d,e,g⟩,⟨i,j,a,b,c,d,e,k⟩⟩
  ·intro hf i j a b c d;rw [e] at hf;split at hf;·
    rename_i h0;obtain rfl:i=0:=o_
    obtain rfl:j=0:=o_;simpa using h0
   ·cases hf
 | n+1,F,x,y=>by
  have hp:=Ac n;have hq:=C2 n;have e2:((2 ^ n:Nat):Int)=p2 n:=rfl;have e:frT (n+1) (mk (n+1) F x y)=Fb (Fb (Fb (Fb none (frT n (mk n F x y)) 0 0) (frT n (mk n F (x+p2 n) y)) (p2 n) 0) (frT n (mk n F x (y+p2 n))) 0 (p2 n)) (frT n (mk n F (x+p2 n) (y+p2 n))) (p2 n) (p2 n):=rfl;rw [e]
  -- a family of parts: what is gathered so far
  let G:Option Frm→(Int→Int→Prop)→Prop:=fun o P=>(∀ f,o=some f→(∀ i j,0≤i→i<p2 (n+1)→0≤j→j<p2 (n+1)→P i j→F (x+i) (y+j)≠0→f.1≤i∧i≤f.2.2.1∧f.2.1≤j∧j≤f.2.2.2) ∧
   (∃ i j,0≤i∧i<p2 (n+1)∧0≤j∧j<p2 (n+1)∧F (x+i) (y+j)≠0∧i=f.1)∧(∃ i j,0≤i∧i<p2 (n+1)∧0≤j∧j<p2 (n+1)∧F (x+i) (y+j)≠0∧j=f.2.1) ∧
   (∃ i j,0≤i∧i<p2 (n+1)∧0≤j∧j<p2 (n+1)∧F (x+i) (y+j)≠0∧i=f.2.2.1)∧(∃ i j,0≤i∧i<p2 (n+1)∧0≤j∧j<p2 (n+1)∧F (x+i) (y+j)≠0∧j=f.2.2.2)) ∧
   (o=none→∀ i j,0≤i→i<p2 (n+1)→0≤j→j<p2 (n+1)→P i j→F (x+i) (y+j)=0)
  have step:∀ (o:Option Frm) (P:Int→Int→Prop) (a b:Int),(a=0∨a=p2 n)→(b=0∨b=p2 n)→G o P→G (Fb o (frT n (mk n F (x+a) (y+b))) a b) (fun i j=>P i j∨(a≤i∧i<a+p2 n∧b≤j∧j<b+p2 n)):=by
   intro o P a b ha hb ⟨h1,h2⟩;obtain⟨k1,k2⟩:=fr_is n F (x+a) (y+b);have sh:∀ i j:Int,F (x+a+(i - a)) (y+b+(j - b))=F (x+i) (y+j):=fun i j=>by congr 1<;>omega
   cases hx:frT n (mk n F (x+a) (y+b)) with
   | none =>
    have k3:=k2 hx;have k4:∀ i j,a≤i→i<a+p2 n→b≤j→j<b+p2 n→F (x+i) (y+j)=0:=fun i j q1 q2 q3 q4=>(by rw [← sh];exact k3 _ _ o_ o_ o_ o_);have ej:Fb o none a b=o:=rfl;rw [ej];refine⟨fun f hf=>?_,fun hn i j q1 q2 q3 q4 hP=>?_⟩;·
     obtain⟨g1,g2⟩:=h1 f hf;refine⟨fun i j q1 q2 q3 q4 hP hne=>?_,g2⟩;rcases hP with hP|hP
     ·exact g1 i j q1 q2 q3 q4 hP hne
     ·exact absurd (k4 i j hP.1 hP.2.1 hP.2.2.1 hP.2.2.2) hne
    ·rcases hP with hP|hP
     ·exact h2 hn i j q1 q2 q3 q4 hP
     ·exact k4 i j hP.1 hP.2.1 hP.2.2.1 hP.2.2.2
   | some X =>
    obtain⟨l,t,r,d⟩:=X;obtain⟨f1,f2,f3,f4,f5⟩:=k1 _ hx;simp only at f1 f2 f3 f4 f5;have mv:∀ {Q:Int→Int→Prop},(∃ i j,0≤i∧i<p2 n∧0≤j∧j<p2 n∧F (x+a+i) (y+b+j)≠0∧Q i j)→∃ i j,0≤i∧i<p2 (n+1)∧0≤j∧j<p2 (n+1)∧F (x+i) (y+j)≠0∧Q (i - a) (j - b):=by rintro Q ⟨i,j,q1,q2,q3,q4,q5,q6⟩;refine⟨i+a,j+b,o_,o_,o_,o_,?_,by rw [Int.add_sub_cancel,Int.add_sub_cancel];exact q6⟩;rw [← sh,Int.add_sub_cancel,Int.add_sub_cancel];exact q5
    have m2:=mv (Q:=fun i _=>i=l) f2;have m3:=mv (Q:=fun _ j=>j=t) f3;have m4:=mv (Q:=fun i _=>i=r) f4;have m5:=mv (Q:=fun _ j=>j=d) f5;have f6:∀ i j,a≤i→i<a+p2 n→b≤j→j<b+p2 n→F (x+i) (y+j)≠0→l+a≤i∧i≤r+a∧t+b≤j∧j≤d+b:=fun i j q1 q2 q3 q4 hne=>by rw [← sh] at hne;have:=f1 _ _ o_ o_ o_ o_ hne;omega
    cases o with
    | none =>
     have ej:Fb none (some (l,t,r,d)) a b=some (l+a,t+b,r+a,d+b):=rfl;rw [ej];refine⟨fun f hf=>?_,fun hn=>by cases hn⟩;obtain rfl:=Option.some.inj hf;refine⟨fun i j q1 q2 q3 q4 hP hne=>?_,?_,?_,?_,?_⟩;·
      rcases hP with hP|hP
      ·exact absurd (h2 rfl i j q1 q2 q3 q4 hP) hne
      ·have:=f6 i j hP.1 hP.2.1 hP.2.2.1 hP.2.2.2 hne;simp only;omega
     ·obtain⟨i,j,q1,q2,q3,q4,q5,q6⟩:=m2;exact⟨i,j,q1,q2,q3,q4,q5,by simp only;omega⟩
     ·obtain⟨i,j,q1,q2,q3,q4,q5,q6⟩:=m3;exact⟨i,j,q1,q2,q3,q4,q5,by simp only;omega⟩
     ·obtain⟨i,j,q1,q2,q3,q4,q5,q6⟩:=m4;exact⟨i,j,q1,q2,q3,q4,q5,by simp only;omega⟩
     ·obtain⟨i,j,q1,q2,q3,q4,q5,q6⟩:=m5;exact⟨i,j,q1,q2,q3,q4,q5,by simp only;omega⟩
    | some o =>
     obtain⟨l',t',r',d'⟩:=o;obtain⟨g1,g2,g3,g4,g5⟩:=h1 _ rfl;simp only at g1 g2 g3 g4 g5;have ej:Fb (some (l',t',r',d')) (some (l,t,r,d)) a b=some (min (l+a) l',min (t+b) t',max (r+a) r',max (d+b) d'):=rfl;rw [ej];refine⟨fun f hf=>?_,fun hn=>by cases hn⟩;obtain rfl:=Option.some.inj hf;refine⟨fun i j q1 q2 q3 q4 hP hne=>?_,?_,?_,?_,?_⟩;·
      rcases hP with hP|hP
      ·have:=g1 i j q1 q2 q3 q4 hP hne;simp only;omega
      ·have:=f6 i j hP.1 hP.2.1 hP.2.2.1 hP.2.2.2 hne;simp only;omega
     ·by_cases hc:l+a≤l';·obtain⟨i,j,q1,q2,q3,q4,q5,q6⟩:=m2;exact⟨i,j,q1,q2,q3,q4,q5,by simp only;omega⟩
      ·obtain⟨i,j,q1,q2,q3,q4,q5,q6⟩:=g2;exact⟨i,j,q1,q2,q3,q4,q5,by simp only;omega⟩
     ·by_cases hc:t+b≤t';·obtain⟨i,j,q1,q2,q3,q4,q5,q6⟩:=m3;exact⟨i,j,q1,q2,q3,q4,q5,by simp only;omega⟩
      ·obtain⟨i,j,q1,q2,q3,q4,q5,q6⟩:=g3;exact⟨i,j,q1,q2,q3,q4,q5,by simp only;omega⟩
     ·by_cases hc:r'≤r+a;·obtain⟨i,j,q1,q2,q3,q4,q5,q6⟩:=m4;exact⟨i,j,q1,q2,q3,q4,q5,by simp only;omega⟩
      ·obtain⟨i,j,q1,q2,q3,q4,q5,q6⟩:=g4;exact⟨i,j,q1,q2,q3,q4,q5,by simp only;omega⟩
     ·by_cases hc:d'≤d+b;·obtain⟨i,j,q1,q2,q3,q4,q5,q6⟩:=m5;exact⟨i,j,q1,q2,q3,q4,q5,by simp only;omega⟩
      ·obtain⟨i,j,q1,q2,q3,q4,q5,q6⟩:=g5;exact⟨i,j,q1,q2,q3,q4,q5,by simp only;omega⟩
  have g0:G none (fun _ _=>False):=⟨fun f hf=>(by cases hf),fun _ i j _ _ _ _ hP=>hP.elim⟩;have g1:=step _ _ 0 0 (.inl rfl) (.inl rfl) g0;have g2:=step _ _ (p2 n) 0 (.inr rfl) (.inl rfl) g1;have g3:=step _ _ 0 (p2 n) (.inl rfl) (.inr rfl) g2;have g4:=step _ _ (p2 n) (p2 n) (.inr rfl) (.inr rfl) g3;rw [Int.add_zero,Int.add_zero] at g4;obtain⟨h1,h2⟩:=g4;refine⟨fun f hf=>?_,fun hf i j q1 q2 q3 q4=>h2 hf i j q1 q2 q3 q4 o_⟩;obtain⟨k1,k2,k3,k4,k5⟩:=h1 f hf;exact⟨fun i j q1 q2 q3 q4=>k1 i j q1 q2 q3 q4 o_,k2,k3,k4,k5⟩
structure VB where
 x:Int
 y:Int
 w:Int
 h:Int
def Gb (a size b n:Int):Bool:=decide (a+size≤b∨b+n≤a)
def Dn (v:VB) (n:Nat) (t:Tr) (x y:Int):Bool:=decide (B0 t=0) || (Gb x (p2 n) v.x v.w || Gb y (p2 n) v.y v.h)
def Bt (v:VB):Nat→Tr→Int→Int→List PC
 | 0,t,x,y=>if Dn v 0 t x y then [] else [⟨x - v.x,y - v.y,match t with|.leaf s=>s|_=>0⟩]
 | n+1,t,x,y=>if Dn v (n+1) t x y then [] else Bt v n (Tr.q t 0) x y++(Bt v n (Tr.q t 1) (x+p2 n) y++(Bt v n (Tr.q t 2) x (y+p2 n)++Bt v n (Tr.q t 3) (x+p2 n) (y+p2 n)))
def Cu (v:VB) (n:Nat) (t:Tr) (x y:Int):Nat→List PC
 | 0=>[]
 | q+1=>Cu v n t x y q++Bt v n (Tr.q t q) (if q % 2=1 then x+p2 n else x) (if 2≤q then y+p2 n else y)
theorem visQ_all (v:VB) (n:Nat) (t:Tr) (x y:Int) (h:Dn v (n+1) t x y=false):Bt v (n+1) t x y=Cu v n t x y 4:=by simp only [Bt,h,Bool.false_eq_true,if_false,Cu];simp [List.append_assoc]
theorem F4:∀ (n:Nat) (F:Fld) (x y:Int),B0 (mk n F x y)=0↔∀ i j,0≤i→i<p2 n→0≤j→j<p2 n→F (x+i) (y+j)=0
 | 0,F,x,y=>by
  have h1:p2 0=1:=rfl;constructor;·
   intro h i j a b c d;obtain rfl:i=0:=o_
   obtain rfl:j=0:=o_;rw [Int.add_zero,Int.add_zero];refine Classical.byContradiction fun hne=>?_;simp [mk,B0,hne] at h
  ·intro h;have:=h 0 0 o_ o_ o_ o_;rw [Int.add_zero,Int.add_zero] at this;simp [mk,B0,this]
 | n+1,F,x,y=>by
  have hp:=Ac n;have hq:=C2 n;have e:B0 (mk (n+1) F x y)=B0 (mk n F x y)+B0 (mk n F (x+p2 n) y)+B0 (mk n F x (y+p2 n))+B0 (mk n F (x+p2 n) (y+p2 n)):=rfl;have i1:=F4 n F x y;have i2:=F4 n F (x+p2 n) y;have i3:=F4 n F x (y+p2 n);have i4:=F4 n F (x+p2 n) (y+p2 n);constructor;·
   intro h i j a b c d;have k1:=i1.1 o_;have k2:=i2.1 o_;have k3:=i3.1 o_;have k4:=i4.1 o_;by_cases hi:i<p2 n<;>by_cases hj:j<p2 n;·exact k1 i j a hi c hj
   ·have:=k3 i (j - p2 n) a hi o_ o_;rwa [show y+p2 n+(j - p2 n)=y+j by omega] at this
   ·have:=k2 (i - p2 n) j o_ o_ c hj;rwa [show x+p2 n+(i - p2 n)=x+i by omega] at this
   ·have:=k4 (i - p2 n) (j - p2 n) o_ o_ o_ o_;rwa [show x+p2 n+(i - p2 n)=x+i by omega,show y+p2 n+(j - p2 n)=y+j by omega] at this
  ·intro h;have k1:=i1.2 fun i j a b c d=>h i j a o_ c o_;have k2:=i2.2 fun i j a b c d=>by rw [Int.add_assoc];exact h _ j o_ o_ c o_
   have k3:=i3.2 fun i j a b c d=>(by rw [Int.add_assoc y];exact h i _ a o_ o_ o_);have k4:=i4.2 fun i j a b c d=>(by rw [Int.add_assoc x,Int.add_assoc y];exact h _ _ o_ o_ o_ o_);omega
def InV (v:VB) (n:Nat) (F:Fld) (x y:Int) (c:PC):Prop :=
 (x≤c.x+v.x∧c.x+v.x<x+p2 n∧y≤c.y+v.y∧c.y+v.y<y+p2 n)∧(0≤c.x∧c.x<v.w∧0≤c.y∧c.y<v.h)∧c.st=F (c.x+v.x) (c.y+v.y)∧c.st≠0
variable {v:VB}
theorem Ra {x y:Int} (h:Dn v n (mk n F x y) x y=true) (c:PC):¬ InV v n F x y c:=by
 rintro⟨h1,h2,h3,h4⟩;simp only [Dn,Gb,Bool.or_eq_true,decide_eq_true_eq] at h;rcases h with h|h
 ·have:=(F4 n F x y).1 h (c.x+v.x - x) (c.y+v.y - y) o_ o_ o_ o_;rw [show x+(c.x+v.x - x)=c.x+v.x by omega,show y+(c.y+v.y - y)=c.y+v.y by omega] at this;exact h4 (h3.trans this)
 ·omega
theorem Bv {v:VB}:∀ {n:Nat} {F:Fld} {x y:Int} {c:PC},c∈Bt v n (mk n F x y) x y↔InV v n F x y c
 | 0,F,x,y,c=>by
  have h1:p2 0=1:=rfl;by_cases h:Dn v 0 (mk 0 F x y) x y=true;·
   simp only [Bt,h,if_true];exact⟨fun h0=>absurd h0 i_,fun h0=>absurd h0 (Ra h c)⟩
  ·have e:Bt v 0 (mk 0 F x y) x y=[⟨x - v.x,y - v.y,F x y⟩]:=by
    simp only [Bt,h];rfl
   rw [e,List.mem_singleton];simp only [Dn,Gb,Bool.or_eq_true,decide_eq_true_eq,not_or] at h;have hne:F x y≠0:=fun h0=>h.1 (by simp [mk,B0,h0]);constructor;·
    rintro rfl;refine⟨by simp only;omega,by simp only;omega,?_,hne⟩;simp only;congr 1<;>omega
   ·rintro⟨k1,k2,k3,k4⟩;have e1:c.x=x - v.x:=o_
    have e2:c.y=y - v.y:=o_;cases c;simp only at e1 e2 k3;subst e1 e2;rw [k3];congr 2<;>omega
 | n+1,F,x,y,c=>by
  have hp:=Ac n;have hq:=C2 n;by_cases h:Dn v (n+1) (mk (n+1) F x y) x y=true;·
   simp only [Bt,h,if_true];exact⟨fun h0=>absurd h0 i_,fun h0=>absurd h0 (Ra h c)⟩
  ·have e:Bt v (n+1) (mk (n+1) F x y) x y=Bt v n (mk n F x y) x y++(Bt v n (mk n F (x+p2 n) y) (x+p2 n) y++(Bt v n (mk n F x (y+p2 n)) x (y+p2 n)++Bt v n (mk n F (x+p2 n) (y+p2 n)) (x+p2 n) (y+p2 n))):=by
    simp only [Bt,h];rfl
   rw [e,List.mem_append,List.mem_append,List.mem_append,Bv,Bv,Bv,Bv];unfold InV;constructor;·rintro (⟨k1,k2⟩|⟨k1,k2⟩|⟨k1,k2⟩|⟨k1,k2⟩)<;>exact⟨o_,k2⟩
   ·rintro⟨k1,k2⟩;by_cases hi:c.x+v.x<x+p2 n<;>by_cases hj:c.y+v.y<y+p2 n;·exact .inl ⟨o_,k2⟩
    ·exact .inr (.inr (.inl ⟨o_,k2⟩))
    ·exact .inr (.inl ⟨o_,k2⟩)
    ·exact .inr (.inr (.inr ⟨o_,k2⟩))
theorem Ef {v:VB}:∀ {n:Nat} {F:Fld} {x y:Int},(Bt v n (mk n F x y) x y).Nodup
 | 0,F,x,y=>by unfold Bt;split<;>simp
 | n+1,F,x,y=>by
  have hp:=Ac n;have hq:=C2 n;by_cases h:Dn v (n+1) (mk (n+1) F x y) x y=true;·simp only [Bt,h,if_true];exact List.nodup_nil
  ·have e:Bt v (n+1) (mk (n+1) F x y) x y=Bt v n (mk n F x y) x y++(Bt v n (mk n F (x+p2 n) y) (x+p2 n) y++(Bt v n (mk n F x (y+p2 n)) x (y+p2 n)++Bt v n (mk n F (x+p2 n) (y+p2 n)) (x+p2 n) (y+p2 n))):=by
    simp only [Bt,h];rfl
   rw [e];refine List.nodup_append.2 ⟨Ef,List.nodup_append.2 ⟨Ef,List.nodup_append.2 ⟨Ef,Ef,?_⟩,?_⟩,?_⟩;·
    intro a ha b hb hab;subst hab;have h1:=(Bv.1 ha).1;have h2:=(Bv.1 hb).1;omega
   ·intro a ha b hb hab;subst hab;have h1:=(Bv.1 ha).1;rw [List.mem_append,Bv,Bv] at hb;rcases hb with hb|hb<;>(have h2:=hb.1;omega)
   ·intro a ha b hb hab;subst hab;have h1:=(Bv.1 ha).1;rw [List.mem_append,List.mem_append,Bv,Bv,Bv] at hb;rcases hb with hb|hb|hb<;>(have h2:=hb.1;omega)
variable {q:List PC}
theorem Lt (h:Al q=true):q.Nodup:=by refine (C6 h).imp fun {a b} hab e=>?_;subst e;simp [Cf] at hab
theorem from_vis {x y:Int} (hq:Cn q=true) (h:∀ c,c∈q↔InV v n F x y c):Ky (Bt v n (mk n F x y) x y)=(q,0):=by refine from_right hq ?_;refine (List.perm_ext_iff_of_nodup Ef (Lt (Cx hq).2.2)).2 fun c=>?_;rw [Bv,h]
end Go.Proofs.Uni
namespace Go.Proofs.YtebolidfbflkmaaGreat
open Go Qs Ev
def cornerT (n:Nat) (t:Tr):Nat→Tr
 | 0=>.node t (Ab n) (Ab n) (Ab n)
 | 1=>.node (Ab n) t (Ab n) (Ab n)
 | 2=>.node (Ab n) (Ab n) t (Ab n)
 | _=>.node (Ab n) (Ab n) (Ab n) t
variable {s:Int}{n:Nat}{t:Tr}
theorem Gl {m:List K4} {a v:Int} {k:Nat} (hg:GoodQ s m) (hl:m.length≤89999) (hn:n<256) (ha:Is s m n a (Ab n)) (hv:Is s m n v t) (hk:k<4) :
  ∃ id m',join s m (Be a v k)=((id,0),m')∧GoodQ s m'∧m <+: m'∧m'.length≤m.length+1∧Is s m' (n+1) id (cornerT n t k):=by
 have hroom:∀ u,room s m [u]:=fun u=>room.of_len u_';have fin:∀ {x y z u:Int} {tx ty tz tu:Tr},Is s m n x tx→Is s m n y ty→Is s m n z tz→Is s m n u tu→∃ id m',join s m ⟨x,y,z,u⟩=((id,0),m')∧GoodQ s m'∧m <+: m'∧m'.length≤m.length+1∧Is s m' (n+1) id (.node tx ty tz tu):=by intro x y z u tx ty tz tu hx hy hz hu;obtain⟨id,m',hj,h1,h2,_,h4⟩:=I7 hg (hroom (.node tx ty tz tu)) hn hx hy hz hu i_;have:=Js s m ⟨x,y,z,u⟩;rw [hj] at this;exact⟨id,m',hj,h1,h2,this,h4⟩
 have:k=0∨k=1∨k=2∨k=3:=o_
 rcases this with rfl|rfl|rfl|rfl
 ·exact fin hv ha ha ha
 ·exact fin ha hv ha ha
 ·exact fin ha ha hv ha
 ·exact fin ha ha ha hv
variable {ns:List K4}{id:Int}
theorem expand_ok (hg:GoodQ s ns) (hl:ns.length≤89000) (hi:Is s ns (n+1) id t) (hn:n+1<256) :
  ∃ x ms,J0 s ns id=((x,0),ms)∧GoodQ s ms∧ns <+: ms∧ms.length≤ns.length+300∧Is s ms (n+2) x (expT n t):=by
 have hlv:=hi.lvl hg;obtain⟨a,m0,h0,g0,p0,l0,i0⟩:=U7 hg (L:=n) o_ o_;have hk:=(hi.node hg).2.2;obtain⟨x0,m1,j0,g1,p1,l1,c0⟩:=Gl (k:=3) g0 o_ o_ i0 ((hk 0 o_).grow p0) o_;obtain⟨x1,m2,j1,g2,p2,l2,c1⟩:=Gl (k:=2) g1 o_ o_ (i0.grow p1) ((hk 1 o_).grow (p0.trans p1)) o_;obtain⟨x2,m3,j2,g3,p3,l3,c2⟩:=Gl (k:=1) g2 o_ o_ (i0.grow (p1.trans p2)) ((hk 2 o_).grow ((p0.trans p1).trans p2)) o_;obtain⟨x3,m4,j3,g4,p4,l4,c3⟩:=Gl (k:=0) g3 o_ o_ (i0.grow ((p1.trans p2).trans p3)) ((hk 3 o_).grow (((p0.trans p1).trans p2).trans p3)) o_;have k4:=M5 (f:=fun ms k=>join s ms (Be a ((A0 s ns id).get k) (3 - k))) (M5 (M5 (M5 (k:=0) (ids:=[]) rfl j0) j1) j2) j3;obtain⟨y,m5,hj,g5,p5,_,i5⟩:=I7 g4 (room.of_len (L:=[expT n t]) u_') o_ (((c0.grow p2).grow p3).grow p4) ((c1.grow p3).grow p4) (c2.grow p4) c3 (by
  simp only [List.mem_singleton];rfl)
 have l5:=Js s m4 ⟨x0,x1,x2,x3⟩;rw [hj] at l5;refine⟨y,m5,?_,g5,((((p0.trans p1).trans p2).trans p3).trans p4).trans p5,by simp only at l5;omega,i5⟩;unfold J0;rw [hlv,if_neg o_,if_neg o_,show (((n+1:Nat):Int) - 1)=((n:Nat):Int) by omega,h0];simp only [ne_eq,not_true_eq_false,if_false];rw [Vu k4];exact hj
open Bn
variable {nx ny:Bool}{dx dy:List Nat}
theorem get_is (hg:GoodQ s ns) (hi:Is s ns n id t) (hp:Dd n nx dx ny dy=0):Xa s ns id nx dx ny dy=(I2 n t (sv nx dx).toNat (sv ny dy).toNat,0):=by unfold Xa;rw [hi.lvl hg,hp,if_neg i_,Int.toNat_natCast,Tq hg hi]
theorem change_is (hg:GoodQ s ns) (hl:ns.length≤89000) (hi:Is s ns n id t) (hn:n≤256) (hp:Dd n nx dx ny dy=0) {st:Int} (h0:0≤st) (h1:st<s) :
  ∃ id' ms,J1 s ns id nx dx ny dy st=((id',0),ms)∧GoodQ s ms∧ns <+: ms∧ms.length≤ns.length+n∧Is s ms n id' (Kr n t (sv nx dx).toNat (sv ny dy).toNat st):=by
 obtain⟨id',ms,h2,h3,h4,h5,h6⟩:=V2 h0 h1 (x:=(sv nx dx).toNat) (y:=(sv ny dy).toNat) hg hi hn o_;refine⟨id',ms,?_,h3,h4,h5,h6⟩;unfold J1;rw [hi.lvl hg,hp,if_neg i_,if_neg o_,Int.toNat_natCast];exact h2
end Go.Proofs.YtebolidfbflkmaaGreat
namespace Go.Proofs.Uni
open Go Qs Ev Pt Bn YtebolidfbflkmaaGreat
variable {s id:Int}{ns:List K4}{n:Nat}
theorem centre_is {t:Tr} (hg:GoodQ s ns) (hl:ns.length≤89999) (hi:Is s ns (n+2) id t) (hn:n+1<256) :
  ∃ x ms,J2 s ns id=((x,0),ms)∧GoodQ s ms∧ns <+: ms∧ms.length≤ns.length+1∧Is s ms (n+1) x (ctr t):=by
 have hlv:=hi.lvl hg;have hk:=(hi.node hg).2.2;have hkk:∀ q,q<4→Is s ns n ((A0 s ns ((A0 s ns id).get q)).get (3 - q)) (Tr.q (Tr.q t q) (3 - q)):=fun q hq=>((hk q hq).node hg).2.2 (3 - q) o_;have h0:=hkk 0 o_;have h1:=hkk 1 o_;have h2:=hkk 2 o_;have h3:=hkk 3 o_;obtain⟨y,m',hj,g',p',_,i'⟩:=I7 hg (room.of_len (L:=[ctr t]) u_') o_ h0 h1 h2 h3 (by simp [ctr]);have hl':=Js s ns ⟨(A0 s ns ((A0 s ns id).get 0)).get (3 - 0),(A0 s ns ((A0 s ns id).get 1)).get (3 - 1),(A0 s ns ((A0 s ns id).get 2)).get (3 - 2),(A0 s ns ((A0 s ns id).get 3)).get (3 - 3)⟩;rw [hj] at hl';refine⟨y,m',?_,g',p',hl',i'⟩;unfold J2;rw [hlv,if_neg o_,if_neg o_];exact hj
def Inside (k:Nat) (F:Fld):Prop:=∀ i j,¬ (-p2 k≤i∧i<p2 k∧-p2 k≤j∧j<p2 k)→F i j=0
variable {k:Nat}{F:Fld}
theorem Inside.more {l:Nat} (h:Inside k F) (hkl:k≤l):Inside l F:=fun i j hn=>h i j fun hc=>hn (by have:=Te hkl;omega)
abbrev mid (n:Nat) (F:Fld):Tr:=mk (n+1) F (-p2 n) (-p2 n)
theorem exp_mid (h:Inside n F):expT n (mid n F)=mid (n+1) F:=by have e:=Ac n;unfold mid;rw [expT_mk fun i j hn=>h i j fun hc=>hn o_];rw [show -p2 n - p2 n=-p2 (n+1) by omega]
theorem ctr_mid (n:Nat) (F:Fld):ctr (mid (n+1) F)=mid n F:=by have e:=Ac n;unfold mid;rw [Se,show -p2 (n+1)+p2 n=-p2 n by omega]
theorem expand_mid (hg:GoodQ s ns) (hl:ns.length≤89000) (hi:Is s ns (n+1) id (mid n F)) (hF:Inside n F) (hn:n+1<256) :
  ∃ x ms,J0 s ns id=((x,0),ms)∧GoodQ s ms∧ns <+: ms∧ms.length≤ns.length+300∧Is s ms (n+2) x (mid (n+1) F):=by
 have:=expand_ok hg hl hi hn;rwa [exp_mid hF] at this
theorem centre_mid (hg:GoodQ s ns) (hl:ns.length≤89999) (hi:Is s ns (n+2) id (mid (n+1) F)) (hn:n+1<256) :
  ∃ x ms,J2 s ns id=((x,0),ms)∧GoodQ s ms∧ns <+: ms∧ms.length≤ns.length+1∧Is s ms (n+1) x (mid n F):=by
 have:=centre_is hg hl hi hn;rwa [ctr_mid] at this
variable {x y:Int}
theorem Qu (hx:Zok x) (hy:Zok y) (h1:0≤x) (h2:x<p2 n) (h3:0≤y) (h4:y<p2 n):Dd (n:Int) (decide (x<0)) (zd x) (decide (y<0)) (zd y)=0:=by unfold Dd;rw [if_neg o_,Ct hx,Ct hy,Int.toNat_natCast,Gd,Gd];rw [if_neg (by decide),if_pos ⟨h1,h2,h3,h4⟩]
theorem change_mid (hg:GoodQ s ns) (hl:ns.length≤89000) (hi:Is s ns (n+1) id (mid n F)) (hn:n+1≤256) {st:Int} (hx:-p2 n≤x∧x<p2 n) (hy:-p2 n≤y∧y<p2 n) (zx:Zok (x+p2 n)) (zy:Zok (y+p2 n)) (h0:0≤st) (h1:st<s) :
  ∃ id' ms,J1 s ns id (decide (x+p2 n<0)) (zd (x+p2 n)) (decide (y+p2 n<0)) (zd (y+p2 n)) st=((id',0),ms)∧GoodQ s ms∧ns <+: ms∧ms.length≤ns.length+(n+1)∧Is s ms (n+1) id' (mid n (Um F x y st)):=by
 have e:=Ac n;obtain⟨id',ms,h2,h3,h4,h5,h6⟩:=change_is hg hl hi hn (Qu (n:=n+1) zx zy o_ o_ o_ o_) h0 h1;refine⟨id',ms,h2,h3,h4,h5,?_⟩;rw [Gd,Gd] at h6;unfold mid at h6 ⊢;rw [V1] at h6;·rwa [Int.toNat_of_nonneg o_,Int.toNat_of_nonneg o_,show -p2 n+(x+p2 n)=x by omega,show -p2 n+(y+p2 n)=y by omega] at h6
 ·have:((2 ^ (n+1):Nat):Int)=p2 (n+1):=rfl;omega
 ·have:((2 ^ (n+1):Nat):Int)=p2 (n+1):=rfl;omega
theorem get_mid (hg:GoodQ s ns) (hi:Is s ns (n+1) id (mid n F)) (hx:-p2 n≤x∧x<p2 n) (hy:-p2 n≤y∧y<p2 n) (zx:Zok (x+p2 n)) (zy:Zok (y+p2 n)) :
  Xa s ns id (decide (x+p2 n<0)) (zd (x+p2 n)) (decide (y+p2 n<0)) (zd (y+p2 n))=(F x y,0):=by
 have e:=Ac n;rw [get_is hg hi (Qu (n:=n+1) zx zy o_ o_ o_ o_),Gd,Gd];unfold mid;rw [Tp];·rw [Int.toNat_of_nonneg o_,Int.toNat_of_nonneg o_,show -p2 n+(x+p2 n)=x by omega,show -p2 n+(y+p2 n)=y by omega]
 ·have:((2 ^ (n+1):Nat):Int)=p2 (n+1):=rfl;omega
 ·have:((2 ^ (n+1):Nat):Int)=p2 (n+1):=rfl;omega
theorem inside_hold (h:Inside k F):Ln ⟨-p2 k,-p2 k,2 ^ (k+1),2 ^ (k+1)⟩ F:=fun i j hn=>h i j fun hc=>hn (by
 have e:=Ac k
 have:((2 ^ (k+1):Nat):Int)=p2 (k+1):=rfl
 simp only;omega)
variable {r:Rule}
theorem inside_it (hq:C1 r=true) {m:Nat} (h:Inside k F) (hm:m≤2 ^ k):Inside (k+2) (it (gen r) m F):=fun i j hn=>by
 have hr:=(T4 r).1;have e:=Ac k;have e1:=Ac (k+1);have hp:=C2 k;have e2:((2 ^ (k+1):Nat):Int)=p2 (k+1):=rfl;have e3:p2 (k+2)=p2 (k+1)+p2 (k+1):=Ac (k+1);have hmp:((rad r*m:Nat):Int)≤2*p2 k:=by have h1:rad r*m≤2*2 ^ k:=Nat.mul_le_mul o_ hm;have h2:((rad r*m:Nat):Int)≤((2*2 ^ k:Nat):Int):=Int.ofNat_le.2 h1;rw [Int.natCast_mul] at h2;exact h2
 refine Om hq (inside_hold h) m i j fun hc=>hn ?_;simp only at hc;omega
def T5 (F:Fld) (X Y:Int) (p:List PC):Fld:=p.foldl (fun F c=>Um F (X+c.x) (Y+c.y) c.st) F
theorem Qr (F:Fld) (X Y:Int) (p:List PC) (c:PC):T5 F X Y (p++[c])=Um (T5 F X Y p) (X+c.x) (Y+c.y) c.st:=by simp [T5]
theorem strict_apart {p:List PC} {c:PC} (h:Al (p++[c])=true):Al p=true∧∀ d∈p,¬ (d.x=c.x∧d.y=c.y):=by have hp:=C6 h;rw [List.pairwise_append] at hp;refine⟨Dw hp.1,fun d hd he=>?_⟩;have:=hp.2.2 d hd c i_;simp only [Cf,decide_eq_true_eq] at this;omega
theorem putF_zero (X Y:Int):∀ {p:List PC},Al p=true→T5 (fun _ _=>0) X Y p=C8 (Bl p) X Y:=by
 intro p;generalize hm:p.length=m
 induction m generalizing p with
 | zero =>intro _;obtain rfl:=List.eq_nil_of_length_eq_zero hm;rfl
 | succ m ih =>
  intro h;rcases List.eq_nil_or_concat p with rfl|⟨l,c,rfl⟩
  ·cases hm
  ·rw [List.concat_eq_append] at h hm ⊢;obtain⟨h1,h2⟩:=strict_apart h;rw [Qr,ih (by simpa using hm) h1];funext x y;show (if x=X+c.x∧y=Y+c.y then c.st else Bl l (x - X) (y - Y))=Bl (l++[c]) (x - X) (y - Y);rw [fld_snoc h2];by_cases hc:x=X+c.x∧y=Y+c.y;·rw [if_pos hc,if_pos ⟨o_,o_⟩]
   ·rw [if_neg hc,if_neg o_]
def parR:Rule:=⟨2,[(0,0),(1,0)],[(1,[0,1]),(1,[1,0]),(2,[0,1])]⟩
def par0:List PC:=[⟨1,0,1⟩]
def par1:List PC:=[⟨0,0,1⟩,⟨1,0,1⟩]
theorem Kc:C1 parR=true:=by decide +kernel
theorem Td:Ln ⟨1,0,1,1⟩ (Bl par0):=fun x y hn=>Pu fun c hc=>by simp [par0] at hc;subst hc;simp only at hn ⊢;omega
theorem gen_fld (h:C1 r=true) {b:Bx} (hb:Ln b F) {q:List PC} (hq:Ns r F (M2 b)=q):gen r F=Bl q:=by rw [← hq,nextL_fld h hb]
theorem par_next:Ns parR (Bl par0) (M2 ⟨1,0,1,1⟩)=par1:=by decide +kernel
theorem Vd (X Y:Int):it (gen parR) 1 (C8 (Bl par0) X Y)=C8 (Bl par1) X Y:=by rw [it_mov];show C8 (gen parR (Bl par0)) X Y=_;rw [gen_fld Kc Td par_next]
end Go.Proofs.Uni
namespace Go.Proofs.Hp
open Go Go.RowKit Ev
def pts (l:List (Int×Int)):List Value:=l.flatMap fun p=>[.int .i64 p.1,.int .i64 p.2]
theorem Nb {α:Type} (f g:α→Value):∀ (l:List α) (i:Nat) (p:α),l[i]?=some p→(l.flatMap fun p=>[f p,g p])[i*2]?=some (f p)∧(l.flatMap fun p=>[f p,g p])[i*2+1]?=some (g p)
 | [],i,p,h=>by simp at h
 | q::l,0,p,h=>by simp at h;subst h;simp
 | q::l,i+1,p,h=>by
  have h':l[i]?=some p:=by simpa using h
  obtain⟨h1,h2⟩:=Nb f g l i p h';rw [List.flatMap_cons,show (i+1)*2=i*2+1+1 by omega];simp only [List.cons_append,List.nil_append,List.getElem?_cons_succ];exact⟨h1,h2⟩
variable {l:List (Int×Int)}{i:Nat}
theorem pts_get {p:Int×Int} (h:l[i]?=some p):(pts l)[i*2]?=some (.int .i64 p.1)∧(pts l)[i*2+1]?=some (.int .i64 p.2) :=
 Nb (fun p:Int×Int=>Value.int .i64 p.1) (fun p=>Value.int .i64 p.2) l i p h
def S0 (l:List (Int×List Int)) (vs:List Value):List Value:=(l.zip vs).flatMap fun p=>[.int .i64 p.1.1,p.2]
theorem ncells_get {l:List (Int×List Int)} {vs:List Value} {x:Int×List Int} {u:Value} (h:l[i]?=some x) (hu:vs[i]?=some u):(S0 l vs)[i*2]?=some (.int .i64 x.1)∧(S0 l vs)[i*2+1]?=some u :=
 Nb (fun p:(Int×List Int)×Value=>Value.int .i64 p.1.1) (fun p=>p.2) (l.zip vs) i (x,u) (by rw [List.getElem?_zip_eq_some];exact⟨h,hu⟩)
def PtsAt (w:World) (v:Value) (l:List (Int×Int)):Prop:=Reads w v l.length 2 (pts l)
theorem PtsAt.fr {w w':World} {v:Value} {l:List (Int×Int)} (h:PtsAt w v l) (hf:Fr [] w w'):PtsAt w' v l:=Reads.fr h hf
variable {w:World}{v:Value}
theorem PtsAt.form (h:PtsAt w v l):∃ a c,v=.slice a l.length c:=by obtain⟨_,a,c,h,_⟩:=h;exact⟨a,c,h⟩
theorem PtsAt.cell {w:World} {a:Option Addr} {n c:Nat} {l:List (Int×Int)} (h:PtsAt w (.slice a n c) l) {i:Nat} {p:Int×Int} (hi:l[i]?=some p) :
  ∃ g off,a=some ⟨g,off,none⟩∧g<w.heap.size∧w.cell? ⟨g,off+i*2,none⟩=some (.int .i64 p.1)∧w.cell? ⟨g,off+i*2+1,none⟩=some (.int .i64 p.2):=by
 obtain⟨hl,a',c',he,hp⟩:=h;cases he;have hlt:=(List.getElem?_eq_some_iff.1 hi).1;obtain⟨g,off,rfl,hg,hc⟩:=hp o_;obtain⟨h1,h2⟩:=pts_get hi;exact⟨g,off,rfl,hg,hc _ _ h1,by rw [Nat.add_assoc];exact hc _ _ h2⟩
def NodesAt (w:World) (v:Value) (l:List (Int×List Int)):Prop:=∃ vs:List Value,Reads w v l.length 2 (S0 l vs)∧∀ (i:Nat) (x:Int×List Int),l[i]?=some x→∃ u,vs[i]?=some u∧IntsAt w u x.2
theorem NodesAt.fr {w w':World} {v:Value} {l:List (Int×List Int)} (h:NodesAt w v l) (hf:Fr [] w w'):NodesAt w' v l:=by obtain⟨vs,h1,h2⟩:=h;refine⟨vs,h1.fr hf,fun i x hi=>?_⟩;obtain⟨u,hu,hr⟩:=h2 i x hi;exact⟨u,hu,hr.fr hf⟩
theorem NodesAt.form {l:List (Int×List Int)} (h:NodesAt w v l):∃ a c,v=.slice a l.length c:=by obtain⟨_,⟨_,a,c,h,_⟩,_⟩:=h;exact⟨a,c,h⟩
theorem NodesAt.node {a:Option Addr} {n c:Nat} {l:List (Int×List Int)} (h:NodesAt w (.slice a n c) l) {x:Int×List Int} (hi:l[i]?=some x) :
  ∃ g off ra rc,a=some ⟨g,off,none⟩∧g<w.heap.size∧w.cell? ⟨g,off+i*2,none⟩=some (.int .i64 x.1)∧w.cell? ⟨g,off+i*2+1,none⟩=some (.slice ra x.2.length rc)∧IntsAt w (.slice ra x.2.length rc) x.2:=by
 obtain⟨vs,⟨hl,a',c',he,hp⟩,h2⟩:=h;cases he;obtain⟨u,hu,hr⟩:=h2 i x hi;obtain⟨ra,rc,rfl⟩:=hr.form;have hlt:=(List.getElem?_eq_some_iff.1 hi).1;obtain⟨g,off,rfl,hg,hc⟩:=hp o_;obtain⟨h3,h4⟩:=ncells_get hi hu;exact⟨g,off,ra,rc,rfl,hg,hc _ _ h3,by rw [Nat.add_assoc];exact hc _ _ h4,hr⟩
def RuleAt (w:World) (hv nv:Value) (r:Rule):Prop:=PtsAt w hv r.hood∧NodesAt w nv r.nodes
theorem RuleAt.fr {w w':World} {hv nv:Value} {r:Rule} (h:RuleAt w hv nv r) (hf:Fr [] w w'):RuleAt w' hv nv r:=⟨h.1.fr hf,h.2.fr hf⟩
end Go.Proofs.Hp
namespace Go.Proofs.Ev
open Qs
def P3 (j:Nat):Nat:=4*(j / 8*2+j % 4 / 2)+(j / 4 % 2*2+j % 2)
def Kx (m:Nat):Nat:=(m / 4 / 2*2+m % 4 / 2)*4+(m / 4 % 2*2+m % 4 % 2)
theorem idx16_lt:∀ m,m<16→Kx m<16:=by decide
theorem pos16_step:∀ m,m<16→∀ j,j<16→(P3 j<m+1↔P3 j<m∨j=Kx m):=by decide
theorem pos16_lt:∀ j,j<16→P3 j<16:=by decide
def Cw (G:Nat→Int) (m:Nat):List Int:=(List.range 16).map fun j=>if P3 j<m then G j else 0
variable {m:Nat}
theorem Mu {G:Nat→Int} {j:Nat} (h:j<16):(Cw G m)[j]?=some (if P3 j<m then G j else 0):=by simp [Cw,h]
theorem tab16_set {G:Nat→Int} (hm:m<16):(Cw G m).set (Kx m) (G (Kx m))=Cw G (m+1):=by
 apply List.ext_getElem?;intro i;rw [List.getElem?_set];have hx:=idx16_lt m hm;by_cases hi:i<16;·
  have hp:=pos16_step m hm i hi;rw [Mu hi,Mu hi];by_cases h:Kx m=i;·
   subst h;rw [if_pos rfl,if_pos (by simp [Cw];exact hx),if_pos (hp.2 (.inr rfl))]
  ·rw [if_neg h];by_cases h2:P3 i<m;·rw [if_pos h2,if_pos (hp.2 (.inl h2))]
   ·rw [if_neg h2,if_neg fun h3=>by rcases hp.1 h3 with h4|h4;exact h2 h4;exact h h4.symm]
 ·rw [if_neg o_,List.getElem?_eq_none (by simp [Cw];omega),List.getElem?_eq_none (by simp [Cw];omega)]
end Go.Proofs.Ev
namespace Go.Proofs.Hp
open Go Go.RowKit
variable {W w:World}{A B C D:Res}{Ps:List Res}
theorem Has.back4 (h:Has W w (D::A::B::C::Ps)):Has W w (A::B::C::D::Ps) :=
 h.perm (((List.Perm.swap A D (B::C::Ps))).trans (((List.Perm.swap B D (C::Ps)).trans ((List.Perm.swap C D Ps).cons B)).cons A))
theorem Has.fifth {E:Res} (h:Has W w (A::B::C::D::E::Ps)):Has W w (A::B::C::E::D::Ps) :=
 h.perm ((((List.Perm.swap E D Ps).cons C).cons B).cons A)
end Go.Proofs.Hp
namespace Go.Proofs.YtebolidfbflkmaaGreat
open Go Go.RowKit Rg Mp Hp Qs Ev
def De (r:Rule) (hv nv:Value) (sb rb:Nat):Array Value:=#[.int .i64 r.S,hv,nv,.pointer (some ⟨sb,0,none⟩),.map (some rb),.int .i64 (A1 (A3 r.hood):Nat)]
def A9 (r:Rule) (hv nv:Value) (mb sb rb:Nat) (ns:List K4) (mm:List ((Int×Int)×Int)) (Ps:List Res):List Res :=
 sTR sb r.S ns::Iv rb mm::Hp.blk mb (.cells (De r hv nv sb rb) 140 (0,0))::Ps
def Kept (r:Rule) (ns:List K4) (mm:List ((Int×Int)×Int)):Prop :=
 ∀ id k v,get? mm (id,k)=some v→∃ n t,Is r.S ns n id t∧2≤n∧0≤k∧Is r.S ns (n - 1) v (stp (gen r) n k.toNat t)
def Keeps (mm mm':List ((Int×Int)×Int)):Prop:=∀ key v,get? mm key=some v→get? mm' key=some v
theorem Keeps.refl (mm:List ((Int×Int)×Int)):Keeps mm mm:=fun _ _ h=>h
theorem Keeps.trans {a b c:List ((Int×Int)×Int)} (h:Keeps a b) (k:Keeps b c):Keeps a c:=fun key v hv=>k key v (h key v hv)
theorem Kept.grow {r:Rule} {ns ms:List K4} {mm:List ((Int×Int)×Int)} (h:Kept r ns mm) (hp:ns <+: ms):Kept r ms mm:=fun id k v hv=>by obtain⟨n,t,h1,h2,h3,h4⟩:=h id k v hv;exact⟨n,t,h1.grow hp,h2,h3,h4.grow hp⟩
def K2 (W:World) (r:Rule) (hv nv:Value) (mb sb rb:Nat) (L:List Tr) (ns:List K4) (mm:List ((Int×Int)×Int)) (n:Nat) (T:Tr) (Ps:List Res) (e:Ending) (w':World):Prop :=
 ∃ res ns' mm',e=.returned (.tuple #[.int .i64 res,.int .i64 0])∧Has W w' (A9 r hv nv mb sb rb ns' mm' Ps)∧ns <+: ns'∧room r.S ns' L∧Kept r ns' mm'∧Is r.S ns' (n - 1) res T∧Keeps mm mm'
def Qd (W:World) (r:Rule) (hv nv:Value) (mb sb rb:Nat) (L:List Tr) (ns:List K4) (mm:List ((Int×Int)×Int)) (n k:Nat) (id:Int) (T:Tr) (Ps:List Res) (e:Ending) (w':World):Prop :=
 ∃ res ns' mm',e=.returned (.tuple #[.int .i64 res,.int .i64 0])∧Has W w' (A9 r hv nv mb sb rb ns' mm' Ps)∧ns <+: ns'∧room r.S ns' L∧Kept r ns' mm'∧Is r.S ns' (n - 1) res T∧Keeps mm mm'∧get? mm' (id,k)=some res∧∀ v,get? mm (id,k)=some v→res=v∧ns'=ns
def RuleSrc (W:World) (hv nv:Value) (r:Rule) (Ps:List Res):Prop:=∀ (w:World) (Qs:List Res),Has W w Qs→(∀ P∈Ps,P∈Qs)→RuleAt w hv nv r
theorem RuleSrc.more {W:World} {hv nv:Value} {r:Rule} {Ps Qs:List Res} (h:RuleSrc W hv nv r Ps) (hs:∀ P∈Ps,P∈Qs):RuleSrc W hv nv r Qs:=fun w Rs hw hm=>h w Rs hw fun P hP=>hm P (hs P hP)
theorem RuleSrc.base {W:World} {hv nv:Value} {r:Rule} {Ps:List Res} (h:RuleAt W hv nv r):RuleSrc W hv nv r Ps:=fun w Qs hw _=>h.fr hw.fr
def StepAt (W:World) (r:Rule) (hv nv:Value) (mb sb rb:Nat) (L:List Tr) (n:Nat):Prop :=
 ∀ (w:World) (Ps:List Res) (ns:List K4) (mm:List ((Int×Int)×Int)) (id:Int) (k:Nat) (t:Tr),Has W w (A9 r hv nv mb sb rb ns mm Ps)→room r.S ns L→Kept r ns mm→Is r.S ns n id t→A1 (A3 r.hood)≤n→k≤n - A1 (A3 r.hood) →
  (∀ u∈Da (gen r) (A1 (A3 r.hood)) n k t,u∈L)→RuleSrc W hv nv r Ps→Calls Tryz.prog 100 #[.pointer (some ⟨mb,0,none⟩),.int .i64 id,.int .i64 n,.int .i64 k] w (Qd W r hv nv mb sb rb L ns mm n k id (stp (gen r) n k t) Ps)
theorem StepAt.run {W:World} {r:Rule} {hv nv:Value} {mb sb rb:Nat} {L:List Tr} {n:Nat} (hst:StepAt W r hv nv mb sb rb L n) {w:World} {Ps:List Res} {ns:List K4} {mm:List ((Int×Int)×Int)} {id:Int} {k:Nat} {t:Tr} {z1 z2:Int} (e1:z1=n) (e2:z2=k)
  (h:Has W w (A9 r hv nv mb sb rb ns mm Ps)) (h1:room r.S ns L) (h2:Kept r ns mm) (h3:Is r.S ns n id t) (h4:A1 (A3 r.hood)≤n) (h5:k≤n - A1 (A3 r.hood)) (h6:∀ u∈Da (gen r) (A1 (A3 r.hood)) n k t,u∈L) (h7:RuleSrc W hv nv r Ps) :
  Calls Tryz.prog 100 #[.pointer (some ⟨mb,0,none⟩),.int .i64 id,.int .i64 z1,.int .i64 z2] w (Qd W r hv nv mb sb rb L ns mm n k id (stp (gen r) n k t) Ps):=by
 subst e1;subst e2;exact hst w Ps ns mm id k t h h1 h2 h3 h4 h5 h6 h7
theorem mC_ {W w:World} {r:Rule} {hv nv:Value} {mb sb rb:Nat} {ns:List K4} {mm:List ((Int×Int)×Int)} {Ps:List Res} (h:Has W w (A9 r hv nv mb sb rb ns mm Ps)) :
  w.cell? ⟨mb,0,none⟩=some (.int .i64 r.S)∧w.cell? ⟨mb,1,none⟩=some hv∧w.cell? ⟨mb,2,none⟩=some nv∧w.cell? ⟨mb,3,none⟩=some (.pointer (some ⟨sb,0,none⟩))∧w.cell? ⟨mb,4,none⟩=some (.map (some rb))∧w.cell? ⟨mb,5,none⟩=some (.int .i64 (A1 (A3 r.hood):Nat))∧mb<w.heap.size:=by
 obtain⟨h1,_,h3⟩:=hCE (h.drop.drop);exact⟨h1 0,h1 1,h1 2,h1 3,h1 4,h1 5,h3⟩
theorem Ao {W w:World} {b m:Nat} {G:Nat→Int} {T:TypeId} {Ps:List Res} (h:Has W w (Hp.blk b (.cells (iv (Cw G m)).toArray T (0,0))::Ps)) (hm:m<16) {v:Int} {j:Nat} (hj:j=Kx m) (hv:v=G j):Has W (w.setCell ⟨b,j,none⟩ (.int .i64 v)) (Hp.blk b (.cells (iv (Cw G (m+1))).toArray T (0,0))::Ps):=by subst hv;subst hj;have:=hST h (Kx m) (.int .i64 (G (Kx m)));rwa [show (iv (Cw G m)).toArray.setIfInBounds (Kx m) (.int .i64 (G (Kx m)))=(iv (Cw G (m+1))).toArray by rw [← tab16_set hm,← Us];simp] at this
theorem B8 {W w:World} {b m:Nat} {G:Nat→Int} {T:TypeId} {Ps:List Res} (h:Has W w (Hp.blk b (.cells (iv (Cw G m)).toArray T (0,0))::Ps)) {j:Nat} (hj:j<16):w.cell? ⟨b,j,none⟩=some (.int .i64 (if P3 j<m then G j else 0)):=by rw [(hCE h).1 j];have:=Pk (Mu (G:=G) (m:=m) hj);simpa using this
def Oe (s:Int) (ns:List K4) (id:Int) (j:Nat):Int:=gid s ns id (j / 4) (j % 4)
structure InnerSt (W wr:World) (r:Rule) (hv nv:Value) (mb sb rb:Nat) (L:List Tr) (ns0:List K4) (mm0:List ((Int×Int)×Int)) (Ps:List Res) (n:Nat) (f:Nat→Nat→Tr) (ib cb:Nat) (id:Int) (ns:List K4) (mm:List ((Int×Int)×Int)) (I:List Int) (m:Nat):Prop where
 has:Has W wr (A9 r hv nv mb sb rb ns mm (Hp.blk ib (.cells (iv I).toArray 222 (0,0))::Hp.blk cb (.cells (iv (Cw (Oe r.S ns0 id) 16)).toArray 220 (0,0))::Ps))
 len:I.length=9
 pre:ns0 <+: ns
 room:room r.S ns L
 kept:Kept r ns mm
 keeps:Keeps mm0 mm
 done:∀ j,j<m→Is r.S ns (n+1) (I.getD j 0) (f (j / 3) (j % 3))
theorem Gt {I:List Int} {m:Nat} {v:Int} (h:m<I.length):(I.set m v).getD m 0=v:=by simp [List.getD_eq_getElem?_getD,h]
theorem Gu {I:List Int} {m j:Nat} {v:Int} (h:j≠m):(I.set m v).getD j 0=I.getD j 0:=by simp [List.getD_eq_getElem?_getD,List.getElem?_set,Ne.symm h]
theorem M7 (I:List Int) (m:Nat) (v:Int):(iv I).toArray.setIfInBounds m (.int .i64 v)=(iv (I.set m v)).toArray:=by rw [← Us];simp
theorem bC_ {W w:World} {b:Nat} {I:List Int} {T:TypeId} {Ps:List Res} (h:Has W w (Hp.blk b (.cells (iv I).toArray T (0,0))::Ps)) {j:Nat} (hj:j<I.length):w.cell? ⟨b,j,none⟩=some (.int .i64 (I.getD j 0)):=by rw [(hCE h).1 j];have:=Pk (List.getElem?_eq_getElem hj);rw [List.getD_eq_getElem?_getD,List.getElem?_eq_getElem hj];simpa using this
section
variable {W wr:World} {r:Rule} {hv nv:Value} {mb sb rb:Nat} {L:List Tr} {ns0:List K4} {mm0:List ((Int×Int)×Int)} {Ps:List Res} {n:Nat} {f:Nat→Nat→Tr} {ib cb:Nat} {id:Int} {ns:List K4} {mm:List ((Int×Int)×Int)} {I:List Int} {m:Nat}
theorem InnerSt.cb_cell (h:InnerSt W wr r hv nv mb sb rb L ns0 mm0 Ps n f ib cb id ns mm I m) {y x:Nat} (hy:y<4) (hx:x<4):wr.cell? ⟨cb,y*4+x,none⟩=some (.int .i64 (gid r.S ns0 id y x)):=by have:=B8 (h.has.fourth.drop.fourth) (j:=y*4+x) o_;rw [if_pos (pos16_lt _ o_)] at this;rw [this];unfold Oe;rw [show (y*4+x) / 4=y by omega,show (y*4+x) % 4=x by omega]
theorem InnerSt.put {wr':World} {ns':List K4} {mm':List ((Int×Int)×Int)} (h:InnerSt W wr r hv nv mb sb rb L ns0 mm0 Ps n f ib cb id ns mm I m) (hm:m<9) {v:Int}
  (hh:Has W wr' (A9 r hv nv mb sb rb ns' mm' (Hp.blk ib (.cells (iv I).toArray 222 (0,0))::Hp.blk cb (.cells (iv (Cw (Oe r.S ns0 id) 16)).toArray 220 (0,0))::Ps)))
  (hp:ns <+: ns') (hr:Qs.room r.S ns' L) (hk:Kept r ns' mm') (hks:Keeps mm mm') (hv':Is r.S ns' (n+1) v (f (m / 3) (m % 3))) :
  InnerSt W (wr'.setCell ⟨ib,m,none⟩ (.int .i64 v)) r hv nv mb sb rb L ns0 mm0 Ps n f ib cb id ns' mm' (I.set m v) (m+1) where
 has:=by have:=(hST hh.fourth m (.int .i64 v)).back4;rwa [M7] at this
 len:=by rw [List.length_set];exact h.len
 pre:=h.pre.trans hp
 room:=hr
 kept:=hk
 keeps:=h.keeps.trans hks
 done:=fun j hj=>by
  by_cases e:j=m;·
   subst e;rw [Gt (by rw [h.len];exact hm)];exact hv'
  ·rw [Gu e];exact (h.done j o_).grow hp
end
structure OutSt (W wr:World) (r:Rule) (hv nv:Value) (mb sb rb:Nat) (L:List Tr) (ns0:List K4) (mm0:List ((Int×Int)×Int)) (Ps:List Res) (n:Nat) (f:Nat→Nat→Tr) (ob ib cb:Nat) (id:Int) (ns1:List K4) (I:List Int) (ns:List K4) (mm:List ((Int×Int)×Int)) (O:List Int) (m:Nat):Prop where
 has:Has W wr (A9 r hv nv mb sb rb ns mm (Hp.blk ob (.cells (iv O).toArray 132 (0,0))::Hp.blk ib (.cells (iv I).toArray 222 (0,0))::Hp.blk cb (.cells (iv (Cw (Oe r.S ns0 id) 16)).toArray 220 (0,0))::Ps))
 len:O.length=4
 pre:ns0 <+: ns
 room:Qs.room r.S ns L
 kept:Kept r ns mm
 keeps:Keeps mm0 mm
 pre1:ns1 <+: ns
 done:∀ j,j<m→Is r.S ns (n+1) (O.getD j 0) (f (j / 2) (j % 2))
section
variable {W wr:World} {r:Rule} {hv nv:Value} {mb sb rb:Nat} {L:List Tr} {ns0:List K4} {mm0:List ((Int×Int)×Int)} {Ps:List Res} {n:Nat} {f:Nat→Nat→Tr} {ob ib cb:Nat} {id:Int} {ns1:List K4} {I:List Int} {ns:List K4} {mm:List ((Int×Int)×Int)} {O:List Int} {m:Nat}
theorem OutSt.ib_has (h:OutSt W wr r hv nv mb sb rb L ns0 mm0 Ps n f ob ib cb id ns1 I ns mm O m):Has W wr (Hp.blk ib (.cells (iv I).toArray 222 (0,0))::sTR sb r.S ns::Iv rb mm::Hp.blk mb (.cells (De r hv nv sb rb) 140 (0,0))::Hp.blk cb (.cells (iv (Cw (Oe r.S ns0 id) 16)).toArray 220 (0,0))::Ps):=h.has.fourth.drop.fourth
theorem OutSt.put {wr':World} {ns':List K4} {mm':List ((Int×Int)×Int)} (h:OutSt W wr r hv nv mb sb rb L ns0 mm0 Ps n f ob ib cb id ns1 I ns mm O m) (hm:m<4) {v:Int}
  (hh:Has W wr' (A9 r hv nv mb sb rb ns' mm' (Hp.blk ob (.cells (iv O).toArray 132 (0,0))::Hp.blk ib (.cells (iv I).toArray 222 (0,0))::Hp.blk cb (.cells (iv (Cw (Oe r.S ns0 id) 16)).toArray 220 (0,0))::Ps)))
  (hp:ns <+: ns') (hr:Qs.room r.S ns' L) (hk:Kept r ns' mm') (hks:Keeps mm mm') (hv':Is r.S ns' (n+1) v (f (m / 2) (m % 2))) :
  OutSt W (wr'.setCell ⟨ob,m,none⟩ (.int .i64 v)) r hv nv mb sb rb L ns0 mm0 Ps n f ob ib cb id ns1 I ns' mm' (O.set m v) (m+1) where
 has:=by have:=(hST hh.fourth m (.int .i64 v)).back4;rwa [M7] at this
 len:=by rw [List.length_set];exact h.len
 pre:=h.pre.trans hp
 room:=hr
 kept:=hk
 keeps:=h.keeps.trans hks
 pre1:=h.pre1.trans hp
 done:=fun j hj=>by
  by_cases e:j=m;·
   subst e;rw [Gt (by rw [h.len];exact hm)];exact hv'
  ·rw [Gu e];exact (h.done j o_).grow hp
end
end Go.Proofs.YtebolidfbflkmaaGreat
