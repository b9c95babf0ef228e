/- Own texts of this claim, part 18: no condition. -/
import Derived.Test.YtebolidfbflkmaaGreatZN16
import Derived.Test.YtebolidfbflkmaaGreatZN11
import Derived.Test.YtebolidfbflkmaaGreatZN12
set_option linter.unusedVariables false
set_option linter.unusedSimpArgs false
set_option maxHeartbeats 16000000
section
namespace Go.Proofs.YtebolidfbflkmaaGreat
open Go Go.RowKit Rg Hp Bn
theorem apart_z {w:World} {A B C:Nat→Prop} {va vs vb:Value} {x s b n:Int} (ha:BigZ w A va x) (hs:BigZ w B vs s) (hb:BigZ w C vb b) (hx:Zok x) (hzs:Zok s) (hzb:Zok b) (hxs:Zok (x+s)) (hn1:-9223372036854775808≤n) (hn2:n<9223372036854775808) (hbn:Zok (b+n)) :
  Calls Tryz.prog 105 #[va,vs,vb,.int .i64 n] w fun e w'=>e=.returned (.bool (decide (x+s≤b∨b+n≤x)))∧Fr [] w w':=by
 have HP1:=q_ (fun w1 (hf:Fr [] w w1)=>plus_z (ha.fr0 hf) (hs.fr0 hf) hx hzs hxs);have HCM:=q_ (fun w1 (hf:Fr [] w w1) (A:Nat→Prop) v (h1:BigZ w1 A v (x+s))=>Compare_z h1 (hb.fr0 hf) hxs hzb);have HFN:=q_ (fun w1=>From_z (w:=w1) hn1 hn2);have HP2:=q_ (fun w1 (hf:Fr [] w w1) (A:Nat→Prop) v (h1:BigZ w1 A v n)=>plus_z (hb.fr0 hf) h1 hzb (zok_int hn1 hn2) hbn);have HC2:=q_ (fun w1 (hf:Fr [] w w1) (A:Nat→Prop) v (h1:BigZ w1 A v (b+n))=>Compare_z (ha.fr0 hf) h1 hx hbn);clear hx hzs hzb hxs hbn;obtain⟨a1,c1,rfl,_⟩:=ha;obtain⟨a2,c2,rfl,_⟩:=hs;obtain⟨a3,c3,rfl,_⟩:=hb;by_cases h1:x+s≤b;·
  have hd1:decide (cmpIY (x+s) b≤0)=true:=by rw [cmp_le];simpa using h1
  have HB:=q_ (show decide (x+s≤b∨b+n≤x)=true from decide_eq_true (.inl h1));clear h1;go_enter Tryz.func105,Tryz.ntmps105;go_wp2;refine wS [([0,1,3,2],[3]),([4,5,6,7,8,9,10],[7,8]),([11],[7]),([12,13,14,15],[])] ?_;(simp only [wpSegs,pick,aq_,bq_,cq_,dq_,eq_]);go_wp2_with fail;refine (HP1.out _ (Fr.t)).mono ?_;rintro e w1 ⟨v1,rfl,hb1,hf⟩;have hp_:=(hf.block (w.heap.size) (by first|(simp;done)|(simp;omega)) i_).trans (show _=some (.cells #[.bool (decide (x<0)),.slice a1 (zd x).length c1] 30 (0,0)) from hpT);obtain⟨p0,p1,pl⟩:=l2_ hp_;have Hp:=q_ hp_;clear hp_;have hr_:=(hf.block (w.heap.size+2) (by first|(simp;done)|(simp;omega)) i_).trans (show _=some (.cells #[.bool (decide (b<0)),.slice a3 (zd b).length c3] 30 (0,0)) from hpT);obtain⟨r0,r1,rl⟩:=l2_ hr_;have Hr:=q_ hr_;clear hr_;have Hf1:=q_ (Fr.trans0 (Fr.t:Fr [] w _) hf);have HC1:=q_ (HCM.out _ Hf1.out _ _ hb1);clear hf hb1;go_wp2;refine mD_ ⟨⟨aGR (T:=30) (cs:=[.bool (decide (b<0)),.slice a3 (zd b).length c3]) rfl rfl rfl Tryz.underlying30 rfl k_ (fun j v hj=>?rng1) rfl,trivial⟩,?_⟩;case rng1 =>rw [Nat.zero_add,hEC Hr.out,← hj];exact (Array.getElem?_toList (xs:=#[Value.bool (decide (b<0)),.slice a3 (zd b).length c3])).symm
  go_wp2_with fail;refine HC1.out.mono ?_;rintro e w2 ⟨rfl,hf⟩;(try clear p0 p1 pl);have hp_:=tk hf Hp;clear Hp;obtain⟨p0,p1,pl⟩:=l2_ hp_;have Hp:=q_ hp_;clear hp_;(try clear r0 r1 rl);have hr_:=tk hf Hr;clear Hr;obtain⟨r0,r1,rl⟩:=l2_ hr_;have Hr:=q_ hr_;clear hr_;have Hf2:=q_ (Hf1.out.trans0 hf);clear hf HC1;go_wp2;refine mD_ ⟨⟨fun o ho hw=>by obtain rfl:=Option.some.inj ho;exact absurd hw (by simp [Region.wanted,yielded]),fun o ho hw=>by obtain rfl:=Option.some.inj ho;exact absurd hw (by simp [Region.wanted,yielded]),trivial⟩,?_⟩;go_wp2;refine mD_ ⟨⟨fun o ho hw=>by obtain rfl:=Option.some.inj ho;exact absurd hw (by simp [Region.wanted,yielded]),trivial⟩,?_⟩;go_wp2;refine mD_ ⟨trivial,sT_ rfl ?_⟩;go_wp2;go_ret;exact⟨by rw [HB.out];rfl,Hf2.out⟩
 ·have hd1:decide (cmpIY (x+s) b≤0)=false:=by rw [cmp_le];simpa using h1
  obtain⟨p2,hp2⟩:∃ p,decide (b+n≤x)=p:=⟨_,rfl⟩;have hd2:decide (cmpIY x (b+n) ≥ 0)=p2:=by rw [cmp_ge];exact hp2
  have HB:=q_ (show decide (x+s≤b∨b+n≤x)=p2 by rw [← hp2];simp [h1]);clear h1 hp2;go_enter Tryz.func105,Tryz.ntmps105;go_wp2;refine wS [([0,1,3,2],[3]),([4,5,6,7,8,9,10],[7,8]),([11],[7]),([12,13,14,15],[])] ?_;(simp only [wpSegs,pick,aq_,bq_,cq_,dq_,eq_]);go_wp2_with fail;refine (HP1.out _ (Fr.t)).mono ?_;rintro e w1 ⟨v1,rfl,hb1,hf⟩;have hp_:=(hf.block (w.heap.size) (by first|(simp;done)|(simp;omega)) i_).trans (show _=some (.cells #[.bool (decide (x<0)),.slice a1 (zd x).length c1] 30 (0,0)) from hpT);obtain⟨p0,p1,pl⟩:=l2_ hp_;have Hp:=q_ hp_;clear hp_;have hr_:=(hf.block (w.heap.size+2) (by first|(simp;done)|(simp;omega)) i_).trans (show _=some (.cells #[.bool (decide (b<0)),.slice a3 (zd b).length c3] 30 (0,0)) from hpT);obtain⟨r0,r1,rl⟩:=l2_ hr_;have Hr:=q_ hr_;clear hr_;have Hf1:=q_ (Fr.trans0 (Fr.t:Fr [] w _) hf);have HC1:=q_ (HCM.out _ Hf1.out _ _ hb1);clear hf hb1;go_wp2;refine mD_ ⟨⟨aGR (T:=30) (cs:=[.bool (decide (b<0)),.slice a3 (zd b).length c3]) rfl rfl rfl Tryz.underlying30 rfl k_ (fun j v hj=>?rng1) rfl,trivial⟩,?_⟩;case rng1 =>rw [Nat.zero_add,hEC Hr.out,← hj];exact (Array.getElem?_toList (xs:=#[Value.bool (decide (b<0)),.slice a3 (zd b).length c3])).symm
  go_wp2_with fail;refine HC1.out.mono ?_;rintro e w2 ⟨rfl,hf⟩;(try clear p0 p1 pl);have hp_:=tk hf Hp;clear Hp;obtain⟨p0,p1,pl⟩:=l2_ hp_;have Hp:=q_ hp_;clear hp_;(try clear r0 r1 rl);have hr_:=tk hf Hr;clear Hr;obtain⟨r0,r1,rl⟩:=l2_ hr_;have Hr:=q_ hr_;clear hr_;have Hf2:=q_ (Hf1.out.trans0 hf);clear hf HC1;go_wp2_with fail;refine (HFN.out _).mono ?_;rintro e w3 ⟨v3,rfl,hb3,hf⟩;(try clear p0 p1 pl);have hp_:=tk hf Hp;clear Hp;obtain⟨p0,p1,pl⟩:=l2_ hp_;have Hp:=q_ hp_;clear hp_;(try clear r0 r1 rl);have hr_:=tk hf Hr;clear Hr;obtain⟨r0,r1,rl⟩:=l2_ hr_;have Hr:=q_ hr_;clear hr_;have Hf3:=q_ (Hf2.out.trans0 hf);have HQ:=q_ (HP2.out _ Hf3.out _ _ hb3);clear hf hb3;go_wp2;refine mD_ ⟨⟨aGR (T:=30) (cs:=[.bool (decide (x<0)),.slice a1 (zd x).length c1]) rfl rfl rfl Tryz.underlying30 rfl k_ (fun j v hj=>?rng2) rfl,
   aGR (T:=30) (cs:=[.bool (decide (b<0)),.slice a3 (zd b).length c3]) rfl rfl rfl Tryz.underlying30 rfl k_ (fun j v hj=>?rng3) rfl,trivial⟩,?_⟩
  case rng2 =>rw [Nat.zero_add,hEC Hp.out,← hj];exact (Array.getElem?_toList (xs:=#[Value.bool (decide (x<0)),.slice a1 (zd x).length c1])).symm
  case rng3 =>rw [Nat.zero_add,hEC Hr.out,← hj];exact (Array.getElem?_toList (xs:=#[Value.bool (decide (b<0)),.slice a3 (zd b).length c3])).symm
  go_wp2_with fail;refine HQ.out.mono ?_;rintro e w4 ⟨v4,rfl,hb4,hf⟩;(try clear p0 p1 pl);have hp_:=tk hf Hp;clear Hp;obtain⟨p0,p1,pl⟩:=l2_ hp_;have Hp:=q_ hp_;clear hp_;(try clear r0 r1 rl);have hr_:=tk hf Hr;clear Hr;obtain⟨r0,r1,rl⟩:=l2_ hr_;have Hr:=q_ hr_;clear hr_;have Hf4:=q_ (Hf3.out.trans0 hf);have HC4:=q_ (HC2.out _ Hf4.out _ _ hb4);clear hf hb4 HQ;go_wp2;refine mD_ ⟨⟨aGR (T:=30) (cs:=[.bool (decide (x<0)),.slice a1 (zd x).length c1]) rfl rfl rfl Tryz.underlying30 rfl k_ (fun j v hj=>?rng4) rfl,trivial⟩,?_⟩;case rng4 =>rw [Nat.zero_add,hEC Hp.out,← hj];exact (Array.getElem?_toList (xs:=#[Value.bool (decide (x<0)),.slice a1 (zd x).length c1])).symm
  go_wp2_with fail;refine HC4.out.mono ?_;rintro e w5 ⟨rfl,hf⟩;have Hf5:=q_ (Hf4.out.trans0 hf);clear hf HC4;go_wp2;refine mD_ ⟨trivial,sT_ rfl ?_⟩;go_wp2;go_ret;exact⟨by rw [HB.out];rfl,Hf5.out⟩
end Go.Proofs.YtebolidfbflkmaaGreat
end
section
namespace Go.Proofs.Ev
open Qs
def gr (lost l:Nat):Int:=p2 (max l lost - 2)
theorem p2_add (a b:Nat):p2 (a+b)=p2 a*p2 b:=by unfold p2;rw [Nat.pow_add,Int.natCast_mul]
theorem gr_dvd {lost l n:Nat} (hl:2≤lost) (h:max l lost≤n):p2 (n - 2)=p2 (n - max l lost)*gr lost l:=by unfold gr;rw [← p2_add];congr 1;omega
def At (g:Fld→Fld) (F:Fld) (X Y:Int) (lost n k:Nat) (u:Tr):Prop :=
 ∃ l m:Nat,∃ i j:Int,1≤l∧l≤n∧m≤2 ^ k∧(k+lost≤l→m=0∨m=2 ^ k)∧u=mk l (it g m F) (X+i*gr lost l) (Y+j*gr lost l)
theorem subs_mk:∀ (n:Nat) {F:Fld} {x y:Int} {u:Tr},u∈subs (mk n F x y)→∃ l:Nat,∃ i j:Int,1≤l∧l≤n∧u=mk l F (x+i*p2 l) (y+j*p2 l)
 | 0,F,x,y,u,h=>by simp [mk,subs] at h
 | n+1,F,x,y,u,h=>by
  simp only [mk,subs,List.mem_append,List.mem_singleton] at h;have key:∀ (a b:Int),u∈subs (mk n F (x+a*p2 n) (y+b*p2 n))→∃ l:Nat,∃ i j:Int,1≤l∧l≤n+1∧u=mk l F (x+i*p2 l) (y+j*p2 l):=by
   intro a b hu;obtain⟨l,i,j,h1,h2,rfl⟩:=subs_mk n hu;have e:p2 n=p2 (n - l)*p2 l:=by rw [← p2_add];congr 1;omega
   refine⟨l,a*p2 (n - l)+i,b*p2 (n - l)+j,h1,o_,?_⟩;rw [Int.add_mul,Int.add_mul,Int.mul_assoc,Int.mul_assoc,← e,← Int.add_assoc,← Int.add_assoc]
  rcases h with (((h|h)|h)|h)|h
  ·exact key 0 0 (by simpa using h)
  ·exact key 1 0 (by simpa using h)
  ·exact key 0 1 (by simpa using h)
  ·exact key 1 1 (by simpa using h)
  ·exact⟨n+1,0,0,o_,o_,by rw [h];simp [mk]⟩
theorem At.sub {g:Fld→Fld} {F:Fld} {X Y a b:Int} {lost n k k' m0:Nat} {u:Tr} (hl:2≤lost) (hn:lost≤n) (ht:∀ l m,m≤2 ^ k'→(k'+lost≤l→m=0∨m=2 ^ k')→l≤n→m0+m≤2 ^ k∧(k+lost≤l→m0+m=0∨m0+m=2 ^ k))
  (h:At g (it g m0 F) (X+a*p2 (n - 2)) (Y+b*p2 (n - 2)) lost n k' u):At g F X Y lost (n+1) k u:=by
 obtain⟨l,m,i,j,h1,h2,h3,h4,rfl⟩:=h;have h5:=ht l m h3 h4 h2;have e:=gr_dvd (l:=l) hl (n:=n) o_;refine⟨l,m0+m,a*p2 (n - max l lost)+i,b*p2 (n - max l lost)+j,h1,o_,h5.1,h5.2,?_⟩;rw [Int.add_mul,Int.add_mul,Int.mul_assoc,Int.mul_assoc,← e,← Int.add_assoc,← Int.add_assoc,Nat.add_comm m0,it_add]
theorem At.up {g:Fld→Fld} {F:Fld} {X Y:Int} {lost n k:Nat} {u:Tr} (h:At g F X Y lost n k u):At g F X Y lost (n+1) k u:=by obtain⟨l,m,i,j,h1,h2,h3⟩:=h;exact⟨l,m,i,j,h1,o_,h3⟩
theorem At.here {g:Fld→Fld} {F:Fld} {X Y a b x y:Int} {lost n k m l:Nat} (hl:2≤lost) (hn:max l lost≤n) (h1:1≤l) (hm:m≤2 ^ k) (ht:k+lost≤l→m=0∨m=2 ^ k) (hx:x=X+a*p2 (n - 2)) (hy:y=Y+b*p2 (n - 2)):At g F X Y lost n k (mk l (it g m F) x y):=by subst hx hy;have e:=gr_dvd (l:=l) hl (n:=n) hn;refine⟨l,m,a*p2 (n - max l lost),b*p2 (n - max l lost),h1,o_,hm,ht,?_⟩;rw [Int.mul_assoc,Int.mul_assoc,← e]
theorem part9_mk (n:Nat) (F:Fld) (X Y:Int) {i j:Nat} (hi:i<3) (hj:j<3):part9 (mk (n+3) F X Y) i j=mk (n+2) F (X+j*p2 (n+1)) (Y+i*p2 (n+1)):=by refine four_mk fun u v hu hv=>?_;rw [g16_mk (n+1) F X Y o_ o_,Int.natCast_add,Int.natCast_add,Int.add_mul,Int.add_mul,Int.add_assoc,Int.add_assoc]
theorem inner9_mk {r:Int} {g:Fld→Fld} (hg:Local r g) {n k:Nat} {two:Bool} (hr:two=true→r*p2 (k - 1)≤p2 n) (F:Fld) (X Y:Int) {i j:Nat} (hi:i<3) (hj:j<3) :
  inner9 g (n+3) k two (mk (n+3) F X Y) i j=mk (n+1) (it g (if two then 2 ^ (k - 1) else 0) F) (X+j*p2 (n+1)+p2 n) (Y+i*p2 (n+1)+p2 n):=by
 unfold inner9;rw [part9_mk n F X Y hi hj];cases two with
 | true =>rw [if_pos rfl,if_pos rfl];show stp g (n+2) (k - 1) _=_;rw [stp_mk hg o_ (hr rfl)];rfl
 | false =>rw [if_neg i_,if_neg i_,ctr_mk];rfl
theorem out4_mk {r:Int} {g:Fld→Fld} (hg:Local r g) {n k:Nat} {two:Bool} (hr:two=true→r*p2 (k - 1)≤p2 n) (F:Fld) (X Y:Int) {i j:Nat} (hi:i<2) (hj:j<2) :
  out4 g (n+3) k two (mk (n+3) F X Y) i j=mk (n+2) (it g (if two then 2 ^ (k - 1) else 0) F) (X+j*p2 (n+1)+p2 n) (Y+i*p2 (n+1)+p2 n):=by
 refine four_mk fun u v hu hv=>?_;rw [inner9_mk hg hr F X Y o_ o_,Int.natCast_add,Int.natCast_add,Int.add_mul,Int.add_mul];congr 1<;>omega
theorem need_at {r:Int} {g:Fld→Fld} (hg:Local r g) (h0:0≤r) (h2:r≤2):∀ (n k:Nat) (F:Fld) (X Y:Int),lostOf r≤n→k≤n - lostOf r→∀ u∈need g (lostOf r) n k (mk n F X Y),At g F X Y (lostOf r) n k u
 | 0,k,F,X,Y,hn,hk,u,hu=>by have:=lost_le h0 h2;omega
 | n+1,k,F,X,Y,hn,hk,u,hu=>by
  have hl:=lost_le h0 h2;by_cases hlt:n+1≤lostOf r;·
   rw [need_small hlt,stp_mk hg o_ (margin h0 h2 hn hk)] at hu;obtain rfl:k=0:=o_;obtain⟨l,i,j,h1,h3,rfl⟩:=subs_mk _ hu;have e:p2 l=p2 (l+2 - lostOf r)*gr (lostOf r) l:=by unfold gr;rw [← p2_add];congr 1;omega
   have e2:p2 (n+1 - 2)=gr (lostOf r) l:=by unfold gr;congr 1;omega
   refine⟨l,1,1+i*p2 (l+2 - lostOf r),1+j*p2 (l+2 - lostOf r),h1,o_,i_,fun _=>.inr rfl,?_⟩;rw [Int.add_mul,Int.add_mul,Int.mul_assoc,Int.mul_assoc,← e,← e2,Int.one_mul,← Int.add_assoc,← Int.add_assoc]
  ·obtain⟨n,rfl⟩:∃ m,n=m+2:=⟨n - 2,o_⟩;have ih:=need_at hg h0 h2 (n+2);have e1:=p2_succ n;have hmar:=fun k' (h:k'≤n+2 - lostOf r)=>margin h0 h2 (n:=n+2) (k:=k') o_ h;have hr:decide (k=n+2+1 - lostOf r)=true→r*p2 (k - 1)≤p2 n:=fun h=>hmar (k - 1) (by have:=of_decide_eq_true h;omega);have hcor:∀ (Z:Int) (i:Nat),Z+(i:Int)*p2 (n+1)=Z+(2*(i:Int))*p2 (n+2 - 2):=fun Z i=>by
    show _=Z+2*(i:Int)*p2 n;rw [e1,Int.mul_add,Int.two_mul,Int.add_mul]
   have hcor2:∀ (Z:Int) (i:Nat),Z+(i:Int)*p2 (n+1)+p2 n=Z+(2*(i:Int)+1)*p2 (n+2 - 2):=fun Z i=>by rw [hcor,Int.add_mul,Int.one_mul,← Int.add_assoc];rfl
   have h12:∀ k,1≤2 ^ k:=fun k=>Nat.pow_pos o_;rw [need,if_neg hlt] at hu;simp only [List.mem_append,List.mem_flatMap,List.mem_singleton,List.mem_cons] at hu;rcases hu with (⟨⟨i,j⟩,hp,hu⟩|⟨⟨i,j⟩,hp,hu⟩)|hu
   ·have hij:i<3∧j<3:=(by simp [i9] at hp;omega);obtain⟨hi,hj⟩:=hij;rw [part9_mk n F X Y hi hj] at hu;rcases hu with rfl|hu
    ·have:=At.here (g:=g) (F:=F) (X:=X) (Y:=Y) (lost:=lostOf r) (n:=n+2) (k:=k) (l:=n+2) (m:=0) hl.1 o_ o_ (Nat.zero_le _) (fun _=>.inl rfl) (hcor X j) (hcor Y i);exact this.up
    ·by_cases hk2:k=n+2+1 - lostOf r;·
      rw [if_pos hk2] at hu;have:=ih (k - 1) F _ _ o_ o_ u hu;rw [hcor,hcor] at this;have h2k:2 ^ k=2 ^ (k - 1)+2 ^ (k - 1):=by obtain⟨q,rfl⟩:∃ q,k=q+1:=⟨k - 1,o_⟩;rw [Nat.pow_succ,Nat.add_sub_cancel];omega
      exact At.sub (m0:=0) (k':=k - 1) hl.1 o_ (fun l m a b c=>⟨o_,fun h=>by omega⟩) this
     ·rw [if_neg hk2,List.mem_singleton] at hu;subst hu;rw [ctr_mk];have:=At.here (g:=g) (F:=F) (X:=X) (Y:=Y) (lost:=lostOf r) (n:=n+2) (k:=k) (l:=n+1) (m:=0) hl.1 o_ o_ (Nat.zero_le _) (fun _=>.inl rfl) (hcor2 X j) (hcor2 Y i);exact this.up
   ·have hij:i<2∧j<2:=(by simp [i4] at hp;omega);obtain⟨hi,hj⟩:=hij;rw [out4_mk hg hr F X Y hi hj] at hu;by_cases hk2:k=n+2+1 - lostOf r
    ·have h2k:2 ^ k=2 ^ (k - 1)+2 ^ (k - 1):=by
      obtain⟨q,rfl⟩:∃ q,k=q+1:=⟨k - 1,o_⟩;rw [Nat.pow_succ,Nat.add_sub_cancel];omega
     rw [decide_eq_true hk2,if_pos rfl,if_pos hk2] at hu;rcases hu with rfl|hu
     ·have:=At.here (g:=g) (F:=F) (X:=X) (Y:=Y) (lost:=lostOf r) (n:=n+2) (k:=k) (l:=n+2) (m:=2 ^ (k - 1)) hl.1 o_ o_ (h2k▸Nat.le_add_left _ _) (fun h=>by omega) (hcor2 X j) (hcor2 Y i);exact this.up
     ·have:=ih (k - 1) _ _ _ o_ o_ u hu;rw [hcor2,hcor2] at this;exact At.sub (m0:=2 ^ (k - 1)) (k':=k - 1) hl.1 o_ (fun l m a b c=>⟨o_,fun h=>by omega⟩) this
    ·rw [decide_eq_false hk2,if_neg hk2] at hu;simp only [Bool.false_eq_true,if_false] at hu;rcases hu with rfl|hu
     ·have:=At.here (g:=g) (F:=F) (X:=X) (Y:=Y) (lost:=lostOf r) (n:=n+2) (k:=k) (l:=n+2) (m:=0) hl.1 o_ o_ (Nat.zero_le _) (fun h=>.inl rfl) (hcor2 X j) (hcor2 Y i);exact this.up
     ·have:=ih k _ _ _ o_ o_ u hu;rw [hcor2,hcor2] at this;exact At.sub (m0:=0) (k':=k) hl.1 o_ (fun l m a b _=>by rw [Nat.zero_add];exact⟨a,b⟩) this
   ·rcases hu with hu|hu
    case inr=>exact absurd hu i_
    rw [hu];have hmk:=margin h0 h2 (n:=n+2+1) (k:=k) o_ o_;rw [stp_mk hg o_ hmk];have:=At.here (g:=g) (F:=F) (X:=X) (Y:=Y) (lost:=lostOf r) (n:=n+2) (k:=k) (l:=n+2) (m:=2 ^ k) hl.1 o_ o_ (Nat.le_refl _) (fun h=>.inr rfl) (show X+p2 (n+1)=_ by have:=hcor X 1;simp only [Int.natCast_one,Int.one_mul] at this;exact this) (show Y+p2 (n+1)=_ by have:=hcor Y 1;simp only [Int.natCast_one,Int.one_mul] at this;exact this);exact this.up
end Go.Proofs.Ev
end
section
namespace Go.Proofs.Pt
structure PC where
 x:Int
 y:Int
 st:Int
 deriving DecidableEq
def placeB (x y:Int):Bool:=decide (-1048576≤x∧x≤1048576∧-1048576≤y∧y≤1048576)
def pBef (a b:PC):Bool:=decide (a.y<b.y∨a.y=b.y∧a.x<b.x)
theorem pBef_asymm {a b:PC} (h:pBef a b=true) (h':pBef b a=true):False:=by simp only [pBef,decide_eq_true_eq] at h h';omega
theorem pBef_trans {a b c:PC} (h:pBef a b=true) (h':pBef b c=true):pBef a c=true:=by simp only [pBef,decide_eq_true_eq] at *;omega
theorem pBef_weak {a b c:PC} (h:pBef b a=false) (h':pBef c b=false):pBef c a=false:=by simp only [pBef,decide_eq_false_iff_not] at *;omega
def samePos (a b:PC):Bool:=decide (a.x=b.x∧a.y=b.y)
theorem samePos_iff {a b:PC} (h:pBef b a=false):samePos a b=!pBef a b:=by
 rw [Bool.eq_iff_iff];simp only [samePos,pBef,decide_eq_true_eq,decide_eq_false_iff_not,Bool.not_eq_true'] at *
 omega
def strictB:List PC→Bool
 | []=>true
 | [_]=>true
 | a::b::l=>pBef a b && strictB (b::l)
theorem strict_pair:∀ {l:List PC},strictB l=true→l.Pairwise fun a b=>pBef a b=true
 | [],_=>List.Pairwise.nil
 | [a],_=>by simp
 | a::b::l,h=>by
  simp only [strictB,Bool.and_eq_true] at h;have ih:=strict_pair h.2;refine List.Pairwise.cons ?_ ih;intro c hc;rw [List.mem_cons] at hc;rcases hc with rfl|hc
  ·exact h.1
  ·exact pBef_trans h.1 ((List.pairwise_cons.1 ih).1 c hc)
theorem strict_of_pair:∀ {l:List PC},(l.Pairwise fun a b=>pBef a b=true)→strictB l=true
 | [],_=>rfl
 | [a],_=>rfl
 | a::b::l,h=>by obtain⟨h1,h2⟩:=List.pairwise_cons.1 h;simp only [strictB,Bool.and_eq_true];exact⟨h1 b i_,strict_of_pair h2⟩
theorem strict_perm_eq:∀ {l m:List PC},(l.Pairwise fun a b=>pBef a b=true)→(m.Pairwise fun a b=>pBef a b=true)→l.Perm m→l=m
 | [],m,_,_,h=>(List.perm_nil.1 h.symm).symm
 | a::l,[],_,_,h=>by have:=h.length_eq;simp at this
 | a::l,b::m,hl,hm,h=>by
  obtain⟨l1,l2⟩:=List.pairwise_cons.1 hl;obtain⟨m1,m2⟩:=List.pairwise_cons.1 hm;have ha:a∈b::m:=h.subset i_;have hb:b∈a::l:=h.symm.subset i_;rw [List.mem_cons] at ha hb;rcases ha with rfl|ha
  ·rw [strict_perm_eq l2 m2 (List.Perm.cons_inv h)]
  ·rcases hb with rfl|hb
   ·rw [strict_perm_eq l2 m2 (List.Perm.cons_inv h)]
   ·exact (pBef_asymm (m1 a ha) (l1 b hb)).elim
def Weak (l:List PC):Prop:=l.Pairwise fun a b=>pBef b a=false
theorem weak_strict:∀ {l:List PC},Weak l→(strictB l=true↔l.Pairwise fun a b=>samePos a b=false)
 | [],_=>by simp [strictB]
 | a::l,h=>by
  obtain⟨h1,h2⟩:=List.pairwise_cons.1 h;constructor;·
   intro hs;refine (strict_pair hs).imp_of_mem ?_;intro x y hx hy hxy;cases hq:samePos x y with
   | false=>rfl
   | true=>simp only [samePos,pBef,decide_eq_true_eq] at hxy hq;omega
  ·intro hd;apply strict_of_pair;refine (List.Pairwise.and h hd).imp ?_;intro x y ⟨hxy,hq⟩;rw [samePos_iff hxy] at hq;simpa using hq
theorem pair_perm {R:PC→PC→Prop} (hR:∀ a b,R a b→R b a) {l m:List PC} (h:l.Perm m):l.Pairwise R→m.Pairwise R:=(h.pairwise_iff (fun hab=>hR _ _ hab)).1
theorem weak_same {l m:List PC} (hl:Weak l) (hm:Weak m) (h:l.Perm m):strictB l=strictB m∧(strictB l=true→l=m):=by
 have hs:∀ a b,samePos a b=false→samePos b a=false:=fun a b=>by simp only [samePos,decide_eq_false_iff_not];omega
 constructor;·
  rw [Bool.eq_iff_iff,weak_strict hl,weak_strict hm];exact⟨pair_perm hs h,pair_perm hs h.symm⟩
 ·intro hst;refine strict_perm_eq (strict_pair hst) (strict_pair ?_) h;rw [weak_strict hm];exact pair_perm hs h ((weak_strict hl).1 hst)
def insP (c:PC):List PC→List PC
 | []=>[c]
 | d::l=>if pBef c d then c::d::l else d::insP c l
def sortP (l:List PC):List PC:=l.foldl (fun q c=>insP c q) []
theorem insP_perm (c:PC):∀ l:List PC,(insP c l).Perm (c::l)
 | []=>List.Perm.refl _
 | d::l=>by
  unfold insP;split;·exact List.Perm.refl _
  ·exact ((insP_perm c l).cons d).trans (List.Perm.swap c d l)
theorem insP_weak (c:PC):∀ {l:List PC},Weak l→Weak (insP c l)
 | [],_=>by simp [insP,Weak]
 | d::l,h=>by
  obtain⟨h1,h2⟩:=List.pairwise_cons.1 h;unfold insP;split;·
   rename_i hc;have hdc:pBef d c=false:=by
    cases hq:pBef d c with
    | false=>rfl
    | true=>exact (pBef_asymm hc hq).elim
   refine List.Pairwise.cons ?_ h;intro x hx;rw [List.mem_cons] at hx;rcases hx with rfl|hx
   ·exact hdc
   ·exact pBef_weak hdc (h1 x hx)
  ·rename_i hc;refine List.Pairwise.cons ?_ (insP_weak c h2);intro x hx;have:=(insP_perm c l).subset hx;rw [List.mem_cons] at this;rcases this with rfl|hx
   ·simpa using hc
   ·exact h1 x hx
theorem sortP_fold:∀ (l q:List PC),Weak q→Weak (l.foldl (fun q c=>insP c q) q)∧(l.foldl (fun q c=>insP c q) q).Perm (q++l)
 | [],q,h=>⟨h,i_⟩
 | c::l,q,h=>by obtain⟨h1,h2⟩:=sortP_fold l (insP c q) (insP_weak c h);refine⟨h1,h2.trans ?_⟩;refine ((insP_perm c q).append_right l).trans ?_;exact (List.perm_middle (l₁:=q)).symm
theorem sortP_weak (l:List PC):Weak (sortP l):=(sortP_fold l [] List.Pairwise.nil).1
theorem sortP_perm (l:List PC):(sortP l).Perm l:=(sortP_fold l [] List.Pairwise.nil).2
def badP:List PC→Int
 | []=>0
 | c::l=>if placeB c.x c.y=false then 5 else if c.st<0∨8≤c.st then 10 else badP l
theorem badP_snoc:∀ (l:List PC) (c:PC),badP (l++[c])=if badP l≠0 then badP l else badP [c]
 | [],c=>by simp [badP]
 | d::l,c=>by
  have:=badP_snoc l c;simp only [List.cons_append,badP];split;·simp
  ·split;·simp
   ·exact this
theorem badP_app {l m:List PC} (h:badP l≠0):badP (l++m)=badP l:=by
 induction l with
 | nil=>exact absurd rfl h
 | cons d l ih =>
  simp only [List.cons_append,badP] at h ⊢;split;·rfl
  ·split;·rfl
   ·rename_i h1 h2;rw [if_neg h1,if_neg h2] at h;exact ih h
def someP (l:List PC):List PC:=l.filter fun c=>decide (c.st≠0)
def fromP (l:List PC):List PC×Int :=
 if badP l≠0 then ([],badP l) else if strictB (sortP (someP l))=false then ([],8) else if 5000<(sortP (someP l)).length then ([],6) else (sortP (someP l),0)
theorem fromP_of {l q:List PC} (hb:badP l=0) (hw:Weak q) (hp:q.Perm (someP l)):fromP l=if strictB q=false then ([],8) else if 5000<q.length then ([],6) else (q,0):=by
 obtain⟨h1,h2⟩:=weak_same hw (sortP_weak (someP l)) (hp.trans (sortP_perm _).symm);unfold fromP;rw [if_neg (by simp [hb]),← h1];cases hs:strictB q with
 | false=>rfl
 | true =>have:=h2 hs;simp only [reduceCtorEq,if_false];rw [← this]
def cellB (c:PC):Bool:=placeB c.x c.y && decide (1≤c.st∧c.st<8)
def rightP (l:List PC):Bool:=decide (l.length≤5000) && (l.all cellB && strictB l)
theorem from_right {p l:List PC} (h:rightP p=true) (hl:l.Perm p):fromP l=(p,0):=by
 unfold rightP at h;simp only [Bool.and_eq_true,decide_eq_true_eq,List.all_eq_true] at h;obtain⟨h1,h2,h3⟩:=h;have hc:∀ c∈l,cellB c=true:=fun c hc=>h2 c (hl.subset hc);have hb:badP l=0:=by
  clear h1 h2 h3 hl
  induction l with
  | nil=>rfl
  | cons c l ih =>have:=hc c i_;simp only [cellB,Bool.and_eq_true,decide_eq_true_eq] at this;unfold badP;rw [if_neg (by simp [this.1]),if_neg o_];exact ih fun d hd=>hc d (by simp [hd])
 have hs:someP l=l:=by unfold someP;rw [List.filter_eq_self];intro c hcl;have:=hc c hcl;simp only [cellB,Bool.and_eq_true,decide_eq_true_eq] at this;simp;omega
 have hw:Weak p:=(strict_pair h3).imp fun hab=>by
  cases hq:pBef _ _ with
  | false=>rfl
  | true=>exact (pBef_asymm hab hq).elim
 rw [fromP_of hb hw (by rw [hs];exact hl.symm),h3];simp only [Bool.true_eq_false,if_false];rw [if_neg o_]
def topP (l:List PC):Int:=l.foldl (fun m c=>max m c.st) 0
theorem topP_snoc (l:List PC) (c:PC):topP (l++[c])=max (topP l) c.st:=by simp [topP]
end Go.Proofs.Pt
end
section
namespace Go.Proofs.Pt
open Qs Ev
def fldP (p:List PC):Fld:=fun x y=>match p.find? (fun c=>decide (c.x=x∧c.y=y)) with
 | some c=>c.st
 | none=>0
theorem right_parts {p:List PC} (h:rightP p=true):p.length≤5000∧(∀ c∈p,cellB c=true)∧strictB p=true:=by unfold rightP at h;simp only [Bool.and_eq_true,decide_eq_true_eq,List.all_eq_true] at h;exact⟨h.1,h.2.1,h.2.2⟩
theorem pos_unique {p:List PC} (h:strictB p=true) {c d:PC} (hc:c∈p) (hd:d∈p) (hx:c.x=d.x) (hy:c.y=d.y):c=d:=by
 have hp:=strict_pair h;obtain⟨i,hi,rfl⟩:=List.getElem_of_mem hc;obtain⟨j,hj,rfl⟩:=List.getElem_of_mem hd;have key:∀ (a b:Nat) (ha:a<p.length) (hb:b<p.length),a<b→p[a].x=p[b].x→p[a].y=p[b].y→False:=fun a b ha hb hab h1 h2=>by have:=List.pairwise_iff_getElem.1 hp a b ha hb hab;simp only [pBef,decide_eq_true_eq] at this;omega
 rcases Nat.lt_trichotomy i j with h1|h1|h1
 ·exact (key i j hi hj h1 hx hy).elim
 ·subst h1;rfl
 ·exact (key j i hj hi h1 hx.symm hy.symm).elim
theorem fld_some {p:List PC} {x y:Int} (h:fldP p x y≠0):∃ c∈p,c.x=x∧c.y=y∧fldP p x y=c.st:=by
 unfold fldP at h ⊢;cases hf:p.find? (fun c=>decide (c.x=x∧c.y=y)) with
 | none=>rw [hf] at h;exact absurd rfl h
 | some c =>have h1:=List.find?_some hf;simp only [decide_eq_true_eq] at h1;exact⟨c,List.mem_of_find?_eq_some hf,h1.1,h1.2,rfl⟩
theorem fld_mem {p:List PC} (h:strictB p=true) {c:PC} (hc:c∈p):fldP p c.x c.y=c.st:=by
 unfold fldP;cases hf:p.find? (fun d=>decide (d.x=c.x∧d.y=c.y)) with
 | none =>have:=List.find?_eq_none.1 hf c hc;simp at this
 | some d =>have h1:=List.find?_some hf;simp only [decide_eq_true_eq] at h1;rw [pos_unique h (List.mem_of_find?_eq_some hf) hc h1.1 h1.2]
theorem fld_none {p:List PC} {x y:Int} (h:∀ c∈p,¬(c.x=x∧c.y=y)):fldP p x y=0:=by unfold fldP;rw [List.find?_eq_none.2 fun c hc=>by simpa using h c hc]
theorem fld_snoc {p:List PC} {c:PC} (h:∀ d∈p,¬(d.x=c.x∧d.y=c.y)) (x y:Int):fldP (p++[c]) x y=if c.x=x∧c.y=y then c.st else fldP p x y:=by
 by_cases he:c.x=x∧c.y=y;·
  rw [if_pos he];unfold fldP;rw [List.find?_append,List.find?_eq_none.2 fun d hd=>by have:=h d hd;rw [he.1,he.2] at this;simpa using this];simp [he]
 ·rw [if_neg he];unfold fldP;rw [List.find?_append];cases p.find? (fun c=>decide (c.x=x∧c.y=y)) with
  | some d=>rfl
  | none=>simp [he]
def quietB (r:Rule):Bool:=rightR r && down r (List.replicate r.hood.length 0) == 0
theorem quiet_parts {r:Rule} (h:quietB r=true):rightR r=true∧down r (List.replicate r.hood.length 0)=0:=by unfold quietB at h;rw [Bool.and_eq_true,beq_iff_eq] at h;exact h
theorem gen_quiet {r:Rule} (h:quietB r=true) {F:Fld} {x y:Int} (hF:∀ i j,-2≤i→i≤2→-2≤j→j≤2→F (x+i) (y+j)=0):gen r F x y=0:=by obtain⟨h1,h2⟩:=quiet_parts h;have hr:=radius_le r.hood;unfold gen;rw [show (r.hood.map fun p=>F (x+p.1) (y+p.2))=List.replicate r.hood.length 0 from ?_,h2];rw [List.eq_replicate_iff];refine⟨i_,fun b hb=>?_⟩;obtain⟨p,hp,rfl⟩:=List.mem_map.1 hb;have:=hood_in (right_hood h1) hp;exact hF _ _ o_ o_ o_ o_
structure Bx where
 x:Int
 y:Int
 w:Nat
 h:Nat
def nearAt (b:Bx) (k:Nat):Int×Int:=(b.x - 2+((k % (b.w+4):Nat):Int),b.y - 2+((k / (b.w+4):Nat):Int))
def nearL (b:Bx):List (Int×Int):=(List.range ((b.h+4)*(b.w+4))).map (nearAt b)
theorem mem_near {b:Bx} {q:Int×Int}:q∈nearL b↔b.x - 2≤q.1∧q.1<b.x+b.w+2∧b.y - 2≤q.2∧q.2<b.y+b.h+2:=by
 unfold nearL;rw [List.mem_map];constructor;·
  rintro⟨k,hk,rfl⟩;have hk:=List.mem_range.1 hk;have h1:k % (b.w+4)<b.w+4:=Nat.mod_lt _ o_;have h2:k / (b.w+4)<b.h+4:=Nat.div_lt_of_lt_mul (by rw [Nat.mul_comm];exact hk);unfold nearAt;simp only;generalize k % (b.w+4)=u at *
  generalize k / (b.w+4)=v at *
  omega
 ·rintro⟨h1,h2,h3,h4⟩;obtain⟨u,hu⟩:∃ u:Nat,q.1=b.x - 2+u:=⟨(q.1 - (b.x - 2)).toNat,o_⟩;obtain⟨v,hv⟩:∃ v:Nat,q.2=b.y - 2+v:=⟨(q.2 - (b.y - 2)).toNat,o_⟩;have hu4:u<b.w+4:=o_
  have hv4:v<b.h+4:=o_
  refine⟨v*(b.w+4)+u,List.mem_range.2 ?_,?_⟩;·
   have:(v+1)*(b.w+4)≤(b.h+4)*(b.w+4):=Nat.mul_le_mul_right _ o_;rw [Nat.add_mul] at this;omega
  ·unfold nearAt;have e1:(v*(b.w+4)+u) % (b.w+4)=u:=(by rw [Nat.mul_comm,Nat.mul_add_mod,Nat.mod_eq_of_lt hu4]);have e2:(v*(b.w+4)+u) / (b.w+4)=v:=(by rw [Nat.mul_comm,Nat.mul_add_div o_,Nat.div_eq_of_lt hu4,Nat.add_zero]);rw [e1,e2,← hu,← hv]
theorem near_sorted (b:Bx):(nearL b).Pairwise fun p q=>p.2<q.2∨p.2=q.2∧p.1<q.1:=by
 unfold nearL;rw [List.pairwise_map];refine List.pairwise_lt_range.imp fun {i j} hij=>?_;unfold nearAt;simp only;have hm:0<b.w+4:=o_
 have h1:=Nat.div_add_mod i (b.w+4);have h2:=Nat.div_add_mod j (b.w+4);have h3:i / (b.w+4)≤j / (b.w+4):=Nat.div_le_div_right (Nat.le_of_lt hij);by_cases he:i / (b.w+4)=j / (b.w+4);·
  rw [he] at h1;omega
 ·omega
def cellAt (r:Rule) (F:Fld) (q:Int×Int):Option PC:=if gen r F q.1 q.2=0 then none else some ⟨q.1,q.2,gen r F q.1 q.2⟩
def nextL (r:Rule) (F:Fld) (l:List (Int×Int)):List PC:=l.filterMap (cellAt r F)
theorem mem_nextL {r:Rule} {F:Fld} {l:List (Int×Int)} {c:PC}:c∈nextL r F l↔(c.x,c.y)∈l∧c.st=gen r F c.x c.y∧c.st≠0:=by
 unfold nextL;rw [List.mem_filterMap];constructor;·
  rintro⟨q,hq,h⟩;unfold cellAt at h;split at h;·cases h
  ·rename_i h0;obtain rfl:=Option.some.inj h;exact⟨hq,rfl,h0⟩
 ·rintro⟨h1,h2,h3⟩;refine⟨(c.x,c.y),h1,?_⟩;unfold cellAt;rw [if_neg (by rw [← h2];exact h3)];simp only [← h2]
theorem nextL_strict {r:Rule} {F:Fld} (b:Bx):strictB (nextL r F (nearL b))=true:=by
 refine strict_of_pair ?_;unfold nextL;rw [List.pairwise_filterMap];refine (near_sorted b).imp fun {p q} h c hc d hd=>?_;have key:∀ {q:Int×Int} {c:PC},cellAt r F q=some c→c.x=q.1∧c.y=q.2:=fun {q c} h=>by
  unfold cellAt at h;split at h;·cases h
  ·obtain rfl:=Option.some.inj h;exact⟨rfl,rfl⟩
 obtain⟨c1,c2⟩:=key hc;obtain⟨d1,d2⟩:=key hd;simp only [pBef,decide_eq_true_eq];rw [c1,c2,d1,d2];exact h
def Hold (b:Bx) (F:Fld):Prop:=∀ x y,¬(b.x≤x∧x<b.x+b.w∧b.y≤y∧y<b.y+b.h)→F x y=0
theorem nextL_fld {r:Rule} (h:quietB r=true) {F:Fld} {b:Bx} (hb:Hold b F):fldP (nextL r F (nearL b))=gen r F:=by
 funext x y;by_cases h0:gen r F x y=0;·
  rw [h0];refine fld_none fun c hc he=>?_;obtain⟨_,h2,h3⟩:=mem_nextL.1 hc;rw [he.1,he.2,h0] at h2;exact h3 h2
 ·have hm:(⟨x,y,gen r F x y⟩:PC)∈nextL r F (nearL b):=by
   refine mem_nextL.2 ⟨mem_near.2 ?_,rfl,h0⟩;refine Classical.byContradiction fun hn=>h0 (gen_quiet h fun i j a1 a2 a3 a4=>hb _ _ fun hh=>hn ?_);simp only;omega
  exact fld_mem (nextL_strict b) hm
end Go.Proofs.Pt
end
section
namespace Go.Proofs.Ev
open Qs Pt YtebolidfbflkmaaGreat
theorem mk_blank:∀ (n:Nat) {F:Fld} {x y:Int},(∀ i j,0≤i→i<p2 n→0≤j→j<p2 n→F (x+i) (y+j)=0)→mk n F x y=emptyT n
 | 0,F,x,y,h=>by have:=h 0 0 o_ (by rw [p2_zero];omega) o_ (by rw [p2_zero];omega);rw [Int.add_zero,Int.add_zero] at this;show Tr.leaf _=Tr.leaf _;rw [this]
 | n+1,F,x,y,h=>by
  have e:=p2_succ n;have p:=p2_pos n;show Tr.node _ _ _ _=Tr.node _ _ _ _;rw [mk_blank n fun i j a b c d=>h i j a o_ c o_,mk_blank n (x:=x+p2 n) fun i j a b c d=>by rw [Int.add_assoc];exact h _ j o_ o_ c o_,
   mk_blank n (y:=y+p2 n) fun i j a b c d=>by rw [Int.add_assoc y];exact h i _ a o_ o_ o_,mk_blank n (x:=x+p2 n) (y:=y+p2 n) fun i j a b c d=>by rw [Int.add_assoc,Int.add_assoc];exact h _ _ o_ o_ o_ o_]
def cnt (lost l B:Nat):Nat:=(B - 1+2 ^ l) / 2 ^ (max l lost - 2)+1
def times (lost l k:Nat):List Nat:=if k+lost≤l then [0,2 ^ k] else List.range (2 ^ k+1)
def firstG (lost l:Nat) (a X:Int):Int:=(a - p2 l - X) / gr lost l+1
def placeL (g:Fld→Fld) (F:Fld) (X Y:Int) (lost l m:Nat) (a b:Int) (B:Nat):List Tr :=
 (List.range (cnt lost l B)).flatMap fun (i:Nat)=>(List.range (cnt lost l B)).map fun (j:Nat)=>mk l (it g m F) (X+(firstG lost l a X+(i:Int))*gr lost l) (Y+(firstG lost l b Y+(j:Int))*gr lost l)
def stepL (g:Fld→Fld) (F:Fld) (X Y:Int) (lost n k:Nat) (a b:Int) (B p:Nat):List Tr :=
 (List.range n).flatMap fun l=>emptyT (l+1)::(times lost (l+1) k).flatMap fun m=>placeL g F X Y lost (l+1) m (a - (p*m:Nat)) (b - (p*m:Nat)) (B+2*(p*m))
def stepN (lost n k B p:Nat):Nat:=((List.range n).map fun l=>((times lost (l+1) k).map fun m=>cnt lost (l+1) (B+2*(p*m))*cnt lost (l+1) (B+2*(p*m))).sum+1).sum
theorem sum_const {α:Type} (c:Nat):∀ l:List α,(l.map fun _=>c).sum=l.length*c
 | []=>by simp
 | x::l=>by simp only [List.map_cons,List.sum_cons,sum_const c l,List.length_cons,Nat.succ_mul];omega
theorem placeL_length (g:Fld→Fld) (F:Fld) (X Y:Int) (lost l m:Nat) (a b:Int) (B:Nat):(placeL g F X Y lost l m a b B).length=cnt lost l B*cnt lost l B:=by unfold placeL;simp only [List.length_flatMap,List.length_map,List.length_range];rw [sum_const,List.length_range]
theorem stepL_length (g:Fld→Fld) (F:Fld) (X Y:Int) (lost n k:Nat) (a b:Int) (B p:Nat):(stepL g F X Y lost n k a b B p).length=stepN lost n k B p:=by unfold stepL stepN;simp only [List.length_flatMap,List.length_cons,placeL_length]
theorem pickG {lost l B:Nat} {a X i:Int} (hB:1≤B) (h1:a - p2 l<X+i*gr lost l) (h2:X+i*gr lost l<a+B):∃ q:Nat,q<cnt lost l B∧i=firstG lost l a X+(q:Int):=by
 have hg:0<gr lost l:=p2_pos _;unfold firstG;generalize hD:a - p2 l - X=D;have e1:D / gr lost l<i:=Int.ediv_lt_of_lt_mul hg o_;have e2:D<(D / gr lost l+1)*gr lost l:=Int.lt_ediv_add_one_mul_self D hg;refine⟨(i - (D / gr lost l+1)).toNat,?_,o_⟩;unfold cnt;refine Nat.lt_succ_of_le ((Nat.le_div_iff_mul_le (Nat.pow_pos o_)).2 ?_);have e3:((((i - (D / gr lost l+1)).toNat*2 ^ (max l lost - 2):Nat)):Int)=(i - (D / gr lost l+1))*gr lost l:=by rw [Int.natCast_mul,Int.toNat_of_nonneg o_];rfl
 have e4:(((B - 1+2 ^ l:Nat)):Int)=(B:Int) - 1+p2 l:=by rw [Int.natCast_add];show ((B - 1:Nat):Int)+p2 l=_;omega
 refine Int.ofNat_le.1 ?_;show ((_:Nat):Int)≤((_:Nat):Int);rw [e3,e4,Int.sub_mul];omega
theorem place_mem {g:Fld→Fld} {F:Fld} {X Y i j a b:Int} {lost l m B:Nat} (hB:1≤B) (hx:a - p2 l<X+i*gr lost l∧X+i*gr lost l<a+B) (hy:b - p2 l<Y+j*gr lost l∧Y+j*gr lost l<b+B) :
  mk l (it g m F) (X+i*gr lost l) (Y+j*gr lost l)∈placeL g F X Y lost l m a b B:=by
 obtain⟨q,hq,e1⟩:=pickG hB hx.1 hx.2;obtain⟨s,hs,e2⟩:=pickG hB hy.1 hy.2;unfold placeL;refine List.mem_flatMap.2 ⟨q,List.mem_range.2 hq,List.mem_map.2 ⟨s,List.mem_range.2 hs,?_⟩⟩;rw [e1,e2]
theorem step_mem {g:Fld→Fld} {F:Fld} {X Y a b:Int} {lost n k B p:Nat} {u:Tr} (hB:1≤B) (hH:∀ m:Nat,m≤2 ^ k→Hold ⟨a - (p*m:Nat),b - (p*m:Nat),B+2*(p*m),B+2*(p*m)⟩ (it g m F)) (h:At g F X Y lost n k u):u∈stepL g F X Y lost n k a b B p:=by
 obtain⟨l,m,i,j,h1,h2,h3,h4,rfl⟩:=h;have hm:=hH m h3;unfold stepL;refine List.mem_flatMap.2 ⟨l - 1,List.mem_range.2 o_,?_⟩;rw [show l - 1+1=l by omega];by_cases hx:a - (p*m:Nat) - p2 l<X+i*gr lost l∧X+i*gr lost l<a - (p*m:Nat)+(B+2*(p*m):Nat);·
  by_cases hy:b - (p*m:Nat) - p2 l<Y+j*gr lost l∧Y+j*gr lost l<b - (p*m:Nat)+(B+2*(p*m):Nat);·
   refine List.mem_cons_of_mem _ (List.mem_flatMap.2 ⟨m,?_,place_mem o_ hx hy⟩);unfold times;split;·
    rename_i hk;rcases h4 hk with e|e<;>simp [e]
   ·exact List.mem_range.2 o_
  ·rw [mk_blank l fun u v a1 a2 a3 a4=>hm _ _ fun hc=>hy (by simp only at hc;omega)];exact List.mem_cons_self
 ·rw [mk_blank l fun u v a1 a2 a3 a4=>hm _ _ fun hc=>hx (by simp only at hc;omega)];exact List.mem_cons_self
theorem hold_more {a b a' b':Int} {w h w' h':Nat} {F:Fld} (hF:Hold ⟨a,b,w,h⟩ F) (h1:a'≤a) (h2:b'≤b) (h3:a+w≤a'+w') (h4:b+h≤b'+h'):Hold ⟨a',b',w',h'⟩ F:=fun x y hn=>hF x y fun hc=>hn (by simp only at hc ⊢;omega)
def rad (r:Rule):Nat:=(radius r.hood).toNat
theorem hold_gen {r:Rule} (h:quietB r=true) {F:Fld} {a b:Int} {w v:Nat} (hF:Hold ⟨a,b,w,v⟩ F):Hold ⟨a - rad r,b - rad r,w+2*rad r,v+2*rad r⟩ (gen r F):=fun x y hn=>by
 obtain⟨h1,h2⟩:=quiet_parts h;have hr:=radius_le r.hood;have hrr:((rad r:Nat):Int)=radius r.hood:=by unfold rad;omega
 rw [gen_local h1 (F:=F) (H:=fun _ _=>0) (x:=x) (y:=y) (u:=x) (v:=y) fun i j a1 a2 a3 a4=>hF _ _ fun hc=>hn (by simp only at hc ⊢;omega)];exact gen_quiet h fun _ _ _ _ _ _=>rfl
theorem hold_it {r:Rule} (h:quietB r=true) {F:Fld} {a b:Int} {w v:Nat} (hF:Hold ⟨a,b,w,v⟩ F):∀ m:Nat,Hold ⟨a - (rad r*m:Nat),b - (rad r*m:Nat),w+2*(rad r*m),v+2*(rad r*m)⟩ (it (gen r) m F)
 | 0=>by simpa [it] using hF
 | m+1=>by refine hold_more (hold_gen h (hold_it h hF m)) ?_ ?_ ?_ ?_<;>rw [Nat.mul_succ]<;>omega
def runL (r:Rule) (F:Fld) (a b:Int) (B n:Nat):List Tr :=
 (List.range 200).flatMap fun k=>if n / 2 ^ k % 2=1 then stepL (gen r) (it (gen r) (n % 2 ^ k) F) (-p2 206) (-p2 206) (lostOf (radius r.hood)) 207 k (a - (rad r*(n % 2 ^ k):Nat)) (b - (rad r*(n % 2 ^ k):Nat)) (B+2*(rad r*(n % 2 ^ k))) (rad r) else []
def runN (p lost B n:Nat):Nat:=((List.range 200).map fun k=>if n / 2 ^ k % 2=1 then stepN lost 207 k (B+2*(p*(n % 2 ^ k))) p else 0).sum
theorem runL_length (r:Rule) (F:Fld) (a b:Int) (B n:Nat):(runL r F a b B n).length=runN (rad r) (lostOf (radius r.hood)) B n:=by
 unfold runL runN;rw [List.length_flatMap];congr 2;funext k;split;·exact stepL_length _ _ _ _ _ _ _ _ _ _ _
 ·rfl
theorem run_need {r:Rule} (h:quietB r=true) {F:Fld} {a b:Int} {B n k:Nat} (hB:1≤B) (hF:Hold ⟨a,b,B,B⟩ F) (hk:k<200) (hbit:n / 2 ^ k % 2=1) :
  ∀ u∈need (gen r) (lostOf (radius r.hood)) 207 k (mk 207 (it (gen r) (n % 2 ^ k) F) (-p2 206) (-p2 206)),u∈runL r F a b B n:=fun u hu=>by
 have hr:=radius_le r.hood;have hl:=lost_le hr.1 hr.2;have hat:=need_at (gen_local (quiet_parts h).1) hr.1 hr.2 207 k _ _ _ o_ o_ u hu;unfold runL;refine List.mem_flatMap.2 ⟨k,List.mem_range.2 hk,?_⟩;rw [if_pos hbit];exact step_mem o_ (fun m _=>hold_it h (hold_it h hF (n % 2 ^ k)) m) hat
theorem runN_tab:((List.range 3).all fun p=>(List.range 11).all fun n=>decide (runN p (max p 1+1) 21 n≤56000))=true:=by decide +kernel
theorem rad_lost (r:Rule):rad r<3∧lostOf (radius r.hood)=max (rad r) 1+1:=by have hr:=radius_le r.hood;unfold rad lostOf;omega
theorem runL_le (r:Rule) (F:Fld) (a b:Int) {n:Nat} (hn:n≤10):(runL r F a b 21 n).length≤56000:=by have h:=runN_tab;have hr:=rad_lost r;simp only [List.all_eq_true,List.mem_range,decide_eq_true_eq] at h;rw [runL_length,hr.2];exact h _ hr.1 n o_
end Go.Proofs.Ev
end
section
namespace Go.Proofs.YtebolidfbflkmaaGreat
open Go Qs Ev
def treeOf:Nat→List Spot→Tr
 | n,[]=>emptyT n
 | 0,c::_=>.leaf c.st
 | n+1,c::l=>.node (treeOf n (partQ (2 ^ n) 0 (c::l))) (treeOf n (partQ (2 ^ n) 1 (c::l))) (treeOf n (partQ (2 ^ n) 2 (c::l))) (treeOf n (partQ (2 ^ n) 3 (c::l)))
theorem quadOf_lt (h:Nat) (c:Spot):quadOf h c<4:=by unfold quadOf;split<;>split<;>omega
theorem filter_four (f:Spot→Nat) (hf:∀ c,f c<4):∀ l:List Spot,((l.filter fun c=>decide (f c=0))++((l.filter fun c=>decide (f c=1))++((l.filter fun c=>decide (f c=2))++(l.filter fun c=>decide (f c=3))))).Perm l
 | []=>List.Perm.refl _
 | c::l=>by
  have ih:=filter_four f hf l;have:=hf c;have h4:f c=0∨f c=1∨f c=2∨f c=3:=o_
  rcases h4 with e|e|e|e<;>simp only [List.filter_cons,e,decide_true,if_true,show decide ((0:Nat)=1)=false from rfl,show decide ((0:Nat)=2)=false from rfl,show decide ((0:Nat)=3)=false from rfl,
   show decide ((1:Nat)=0)=false from rfl,show decide ((1:Nat)=2)=false from rfl,show decide ((1:Nat)=3)=false from rfl,show decide ((2:Nat)=0)=false from rfl,show decide ((2:Nat)=1)=false from rfl,show decide ((2:Nat)=3)=false from rfl,
   show decide ((3:Nat)=0)=false from rfl,show decide ((3:Nat)=1)=false from rfl,show decide ((3:Nat)=2)=false from rfl,Bool.false_eq_true,if_false]
  ·exact ih.cons c
  ·exact List.perm_middle.trans (ih.cons c)
  ·refine List.Perm.trans ?_ (ih.cons c);refine (List.Perm.append_left _ List.perm_middle).trans ?_;exact List.perm_middle
  ·refine List.Perm.trans ?_ (ih.cons c);refine (List.Perm.append_left _ ((List.Perm.append_left _ List.perm_middle).trans List.perm_middle)).trans ?_;exact List.perm_middle
structure OkS (s:Int) (n:Nat) (l:List Spot):Prop where
 inside:∀ c∈l,c.x<2 ^ n∧c.y<2 ^ n
 state:∀ c∈l,1≤c.st∧c.st<s
 apart:l.Pairwise fun a b=>¬ (a.x=b.x∧a.y=b.y)
theorem OkS.part {s:Int} {n:Nat} {l:List Spot} (h:OkS s (n+1) l) (k:Nat):OkS s n (partQ (2 ^ n) k l) where
 inside c hc:=by simp only [partQ,List.mem_map,List.mem_filter,decide_eq_true_eq] at hc;obtain⟨d,⟨hd,hq⟩,rfl⟩:=hc;have:=h.inside d hd;rw [Nat.pow_succ] at this;simp only [intoQ];constructor<;>split<;>omega
 state c hc:=by simp only [partQ,List.mem_map,List.mem_filter,decide_eq_true_eq] at hc;obtain⟨d,⟨hd,hq⟩,rfl⟩:=hc;exact h.state d hd
 apart:=by unfold partQ;rw [List.pairwise_map];refine List.Pairwise.imp_of_mem ?_ (h.apart.filter _);intro a b ha hb hab;simp only [List.mem_filter,decide_eq_true_eq] at ha hb;have e:quadOf (2 ^ n) a=quadOf (2 ^ n) b:=ha.2.trans hb.2.symm;unfold quadOf at e;simp only [intoQ];intro hh;apply hab;obtain⟨h1,h2⟩:=hh;by_cases x1:2 ^ n≤a.x<;>by_cases x2:2 ^ n≤b.x<;>by_cases y1:2 ^ n≤a.y<;>by_cases y2:2 ^ n≤b.y<;>simp only [x1,x2,y1,y2,if_true,if_false] at e h1 h2<;>omega
theorem OkS.nil {s:Int} {n:Nat}:OkS s n []:=⟨i_,i_,List.Pairwise.nil⟩
theorem OkS.one {s:Int} {c:Spot} {l:List Spot} (h:OkS s 0 (c::l)):l=[]∧c.x=0∧c.y=0:=by
 have hc:=h.inside c i_;cases l with
 | nil=>exact⟨rfl,o_,o_⟩
 | cons d l =>have hd:=h.inside d i_;have:=(List.pairwise_cons.1 h.apart).1 d i_;simp only [Nat.pow_zero] at hc hd;exact absurd ⟨o_,o_⟩ this
def movS (X Y:Nat) (c:Spot):Spot:=⟨X+c.x,Y+c.y,c.st⟩
theorem cells_treeOf {s:Int}:∀ {n:Nat} {l:List Spot} {X Y:Nat},OkS s n l→(cellsT n (treeOf n l) X Y).Perm (l.map (movS X Y))
 | n,[],X,Y,_=>by
  have:treeOf n []=emptyT n:=by cases n<;>rfl
  rw [this,cellsT_none (empty_full n) (pop_empty n)];exact List.Perm.refl _
 | 0,c::l,X,Y,h=>by obtain⟨rfl,hx,hy⟩:=h.one;have:=h.state c i_;simp only [treeOf,cellsT,List.map_cons,List.map_nil,movS];rw [if_neg o_,hx,hy];exact List.Perm.refl _
 | n+1,c::l,X,Y,h=>by
  have e:∀ k (A B:Nat),(∀ d∈c::l,quadOf (2 ^ n) d=k→A+(intoQ (2 ^ n) d).x=X+d.x∧B+(intoQ (2 ^ n) d).y=Y+d.y) →
    (cellsT n (treeOf n (partQ (2 ^ n) k (c::l))) A B).Perm (((c::l).filter fun d=>decide (quadOf (2 ^ n) d=k)).map (movS X Y)):=by
   intro k A B hk;refine (cells_treeOf (h.part k)).trans ?_;have:((partQ (2 ^ n) k (c::l)).map (movS A B))=((c::l).filter fun d=>decide (quadOf (2 ^ n) d=k)).map (movS X Y):=by unfold partQ;rw [List.map_map];apply List.map_congr_left;intro d hd;simp only [List.mem_filter,decide_eq_true_eq] at hd;obtain⟨h1,h2⟩:=hk d hd.1 hd.2;simp only [Function.comp_apply,movS];rw [h1,h2];rfl
   rw [this]
  have hq:∀ d:Spot,∀ k,quadOf (2 ^ n) d=k→(k % 2=1↔2 ^ n≤d.x)∧(2≤k↔2 ^ n≤d.y):=by intro d k hk;unfold quadOf at hk;constructor<;>constructor<;>intro hh<;>(repeat' split at hk)<;>omega
  have hP:=filter_four (quadOf (2 ^ n)) (quadOf_lt (2 ^ n)) (c::l);refine List.Perm.trans ?_ (hP.map (movS X Y));rw [List.map_append,List.map_append,List.map_append];simp only [treeOf,cellsT];refine (e 0 X Y ?_).append ((e 1 (X+2 ^ n) Y ?_).append ((e 2 X (Y+2 ^ n) ?_).append (e 3 (X+2 ^ n) (Y+2 ^ n) ?_))) <;>
  ·intro d hd hk;obtain⟨h1,h2⟩:=hq d _ hk;simp only [intoQ];constructor<;>split<;>omega
theorem treeOf_full:∀ (n:Nat) (l:List Spot),Full n (treeOf n l)
 | n,[]=>by have:treeOf n []=emptyT n:=(by cases n<;>rfl);rw [this];exact empty_full n
 | 0,c::l=>trivial
 | n+1,c::l=>⟨treeOf_full n _,treeOf_full n _,treeOf_full n _,treeOf_full n _⟩
theorem pop_treeOf {s:Int} {n:Nat} {l:List Spot} (h:OkS s n l):popT (treeOf n l)=l.length:=by rw [← cellsT_len (x:=0) (y:=0) (treeOf_full n l),(cells_treeOf h).length_eq,List.length_map]
end Go.Proofs.YtebolidfbflkmaaGreat
end
