/- Own texts of this claim, part 10: no condition. -/
import Derived.Test.YtebolidfbflkmaaGreatRows
import Derived.Test.YtebolidfbflkmaaGreatZN6
import Derived.Test.YtebolidfbflkmaaGreatZN5
import Derived.Test.YtebolidfbflkmaaGreatZN7
import Derived.Test.YtebolidfbflkmaaGreatZN8
import Derived.Test.YtebolidfbflkmaaGreatZN2
import Derived.Test.YtebolidfbflkmaaGreatZN3
set_option linter.unusedVariables false
set_option linter.unusedSimpArgs false
set_option maxHeartbeats 16000000
set_option maxRecDepth 100000
section
namespace Go.Proofs.YtebolidfbflkmaaGreat
open Go Go.RowKit Rg Hp Bn
theorem Compare_calls {w:World} {na nb:Bool} {da db:List Nat} {va vb:Value} (ha:Reads w va da.length 1 (u32s da)) (hb:Reads w vb db.length 1 (u32s db)) (hDa:Dig 4294967296 da) (hDb:Dig 4294967296 db) (hla:da.length≤10000) (hlb:db.length≤10000) :
  Calls Tryz.prog 48 #[.agg #[.bool na,va],.agg #[.bool nb,vb]] w fun e w'=>e=.returned (.int .i64 (cmpS na da nb db))∧Fr [] w w':=by
 have hra:=fun w1 (hf:Fr [] w w1)=>Right_calls (neg:=na) (ha.fr hf) o_;have hrb:=fun w1 (hf:Fr [] w w1)=>Right_calls (neg:=nb) (hb.fr hf) o_;have Ha:=q_ ha;have Hb:=q_ hb;obtain⟨_,a,ac,rfl,_⟩:=ha;obtain⟨_,b,bc,rfl,_⟩:=hb;have HDa:=q_ hDa;have HDb:=q_ hDb;obtain⟨r,hS⟩:∃ r,r=cmpS na da nb db:=⟨_,rfl⟩;rw [← hS];unfold cmpS at hS;clear hDa hDb;cases hR1:RightB na da with
 | false =>rw [hR1] at hra hS;simp only [Bool.false_and,if_true] at hS;subst hS;have Hra:=q_ hra;clear hR1 hra hrb;go_enter Tryz.func48,Tryz.ntmps48;go_wp2_with fail;refine (Hra.out _ (Fr.t)).mono ?_;rintro e w1 ⟨rfl,hf⟩;have Hf:=q_ (Fr.trans0 (Fr.t:Fr [] w _) hf);clear hf;go_wp2;go_ret;exact⟨rfl,Hf.out⟩
 | true =>
  rw [hR1] at hra hS;obtain⟨cA,lA,_⟩:=right_canon hR1;have HcA:=q_ cA;have Hra:=q_ hra;clear hR1 hra cA;cases hR2:RightB nb db with
  | false =>rw [hR2] at hrb hS;simp only [Bool.and_false,if_true] at hS;subst hS;have Hrb:=q_ hrb;clear hR2 hrb;go_enter Tryz.func48,Tryz.ntmps48;go_wp2_with fail;refine (Hra.out _ (Fr.t)).mono ?_;rintro e w1 ⟨rfl,hf⟩;have hb1:=(hf.block (w.heap.size+1) i_ i_).trans (show _=some (.cells #[.bool nb,.slice b db.length bc] 30 (0,0)) from hpT);obtain⟨b0,b1,bl⟩:=l2_ hb1;have Hf1:=q_ (Fr.trans0 (Fr.t:Fr [] w _) hf);clear hf hb1;go_wp2_with fail;refine (Hrb.out _ Hf1.out).mono ?_;rintro e w2 ⟨rfl,hf⟩;have Hf:=q_ (Hf1.out.trans0 hf);clear hf b0 b1;go_wp2;go_ret;exact⟨rfl,Hf.out⟩
  | true =>
   rw [hR2] at hrb hS;obtain⟨cB,lB,_⟩:=right_canon hR2;have HcB:=q_ cB;simp only [Bool.and_self,Bool.true_eq_false,if_false] at hS;have Hrb:=q_ hrb;have hag:=fun w3 (hf:Fr [] w w3)=>against_calls (Ha.out.fr hf) (Hb.out.fr hf) HDa.out HDb.out HcA.out cB o_ o_;have hag2:=fun w3 (hf:Fr [] w w3)=>against_calls (Hb.out.fr hf) (Ha.out.fr hf) HDb.out HDa.out cB HcA.out o_ o_;generalize cmpN (val 4294967296 da) (val 4294967296 db)=q1 at *
   generalize cmpN (val 4294967296 db) (val 4294967296 da)=q2 at *
   have Hag:=q_ hag;have Hag2:=q_ hag2;have HS:=q_ hS;clear hR2 hrb cB hag hag2 hS;go_enter Tryz.func48,Tryz.ntmps48;go_wp2_with fail;refine (Hra.out _ (Fr.t)).mono ?_;rintro e w1 ⟨rfl,hf⟩;have hb1:=(hf.block (w.heap.size+1) i_ i_).trans (show _=some (.cells #[.bool nb,.slice b db.length bc] 30 (0,0)) from hpT);obtain⟨b0,b1,bl⟩:=l2_ hb1;have Hb1:=q_ hb1;have Ha1:=q_ ((hf.block w.heap.size (by simp;omega) i_).trans (show _=some (.cells #[.bool na,.slice a da.length ac] 30 (0,0)) from hpT));have Hf1:=q_ (Fr.trans0 (Fr.t:Fr [] w _) hf);clear hf hb1;go_wp2_with fail;refine (Hrb.out _ Hf1.out).mono ?_;rintro e w2 ⟨rfl,hf⟩;have ha2:=tk hf Ha1;have hb2:=tk hf Hb1;clear b0 b1 bl;obtain⟨a0,a1,al⟩:=l2_ ha2;obtain⟨b0,b1,bl⟩:=l2_ hb2;have Hf:=q_ (Hf1.out.trans0 hf);clear hf ha2 hb2;cases na<;>cases nb;·
    go_wp2_with fail;refine (Hag.out _ Hf.out).mono ?_;rintro e w3 ⟨rfl,hd⟩;have Hf3:=q_ (Hf.out.trans0 (hd.fr []));clear hd a0 a1 b0 b1;go_wp2;go_ret;exact⟨by rw [HS.out];rfl,Hf3.out⟩
   ·go_wp2;go_ret;exact⟨by rw [HS.out];rfl,Hf.out⟩
   ·go_wp2;go_ret;exact⟨by rw [HS.out];rfl,Hf.out⟩
   ·go_wp2_with fail;refine (Hag2.out _ Hf.out).mono ?_;rintro e w3 ⟨rfl,hd⟩;have Hf3:=q_ (Hf.out.trans0 (hd.fr []));clear hd a0 a1 b0 b1;go_wp2;go_ret;exact⟨by rw [HS.out];rfl,Hf3.out⟩
theorem Bit_calls {w:World} {neg:Bool} {ds:List Nat} {k:Int} {a:Option Addr} {c:Nat} (hv:Reads w (.slice a ds.length c) ds.length 1 (u32s ds)) (hD:Dig 4294967296 ds) (hl:ds.length≤10000) (hc:ds.length≤c) (hk1:-9223372036854775808≤k) (hk2:k<9223372036854775808) :
  Calls Tryz.prog 53 #[.agg #[.bool neg,.slice a ds.length c],.int .i64 k] w fun e w'=>e=.returned (.int .i64 (bitS neg ds k:Nat))∧Fr [] w w':=by
 have hra:=fun w1 (hf:Fr [] w w1)=>Right_calls (neg:=neg) (hv.fr hf) o_;obtain⟨r,hS⟩:∃ r,r=bitS neg ds k:=⟨_,rfl⟩;rw [← hS];unfold bitS at hS;have Hv:=q_ hv;have HDd:=q_ hD;clear hv hD;cases hR1:RightB neg ds with
 | false =>rw [hR1] at hS hra;simp only [true_or,if_true] at hS;subst hS;have Hra:=q_ hra;clear hra hR1;go_enter Tryz.func53,Tryz.ntmps53;go_wp2_with fail;refine (Hra.out _ (Fr.t)).mono ?_;rintro e w1 ⟨rfl,hf⟩;have hb_:=(hf.block (w.heap.size) (by first|(simp;done)|(simp;omega)) i_).trans (show _=some (.cells #[.bool neg,.slice a ds.length c] 30 (0,0)) from hpT);obtain⟨b0,b1,bl⟩:=l2_ hb_;have Hb:=q_ hb_;clear hb_;have Hf:=q_ (Fr.trans0 (Fr.t:Fr [] w _) hf);clear hf;go_wp2;go_ret;exact⟨rfl,Hf.out⟩
 | true =>
  rw [hR1] at hS hra;simp only [Bool.true_eq_false,false_or] at hS;have Hra:=q_ hra;clear hra hR1;by_cases hk0:k<0;·
   rw [if_pos hk0] at hS;subst hS;have hd:decide (k<0)=true:=(by simpa using hk0);go_enter Tryz.func53,Tryz.ntmps53;go_wp2_with fail;refine (Hra.out _ (Fr.t)).mono ?_;rintro e w1 ⟨rfl,hf⟩;have hb_:=(hf.block (w.heap.size) (by first|(simp;done)|(simp;omega)) i_).trans (show _=some (.cells #[.bool neg,.slice a ds.length c] 30 (0,0)) from hpT);obtain⟨b0,b1,bl⟩:=l2_ hb_;have Hb:=q_ hb_;clear hb_;have Hf:=q_ (Fr.trans0 (Fr.t:Fr [] w _) hf);clear hf;go_wp2;go_ret;exact⟨rfl,Hf.out⟩
  ·rw [if_neg hk0] at hS;have hd:decide (k<0)=false:=(by simpa using hk0);by_cases hk3:2048≤k;·
    rw [if_pos hk3] at hS;subst hS;have hd2:decide (2048≤k)=true:=(by simpa using hk3);cases neg;·
     go_enter Tryz.func53,Tryz.ntmps53;go_wp2_with fail;refine (Hra.out _ (Fr.t)).mono ?_;rintro e w1 ⟨rfl,hf⟩;have hb_:=(hf.block (w.heap.size) (by first|(simp;done)|(simp;omega)) i_).trans (show _=some (.cells #[.bool false,.slice a ds.length c] 30 (0,0)) from hpT);obtain⟨b0,b1,bl⟩:=l2_ hb_;have Hb:=q_ hb_;clear hb_;have Hf:=q_ (Fr.trans0 (Fr.t:Fr [] w _) hf);clear hf;go_wp2;go_ret;exact⟨rfl,Hf.out⟩
    ·go_enter Tryz.func53,Tryz.ntmps53;go_wp2_with fail;refine (Hra.out _ (Fr.t)).mono ?_;rintro e w1 ⟨rfl,hf⟩;have hb_:=(hf.block (w.heap.size) (by first|(simp;done)|(simp;omega)) i_).trans (show _=some (.cells #[.bool true,.slice a ds.length c] 30 (0,0)) from hpT);obtain⟨b0,b1,bl⟩:=l2_ hb_;have Hb:=q_ hb_;clear hb_;have Hf:=q_ (Fr.trans0 (Fr.t:Fr [] w _) hf);clear hf;go_wp2;go_ret;exact⟨rfl,Hf.out⟩
   ·rw [if_neg hk3] at hS;have hd2:decide (2048≤k)=false:=(by simp;omega);have hsh:=fun w1 (hf:Fr [] w w1)=>Shift_calls (neg:=neg) (k:=-k) (Hv.out.fr hf) HDd.out hl hc o_ o_;obtain⟨sD,sL⟩:=shiftS_dig (neg:=neg) (ds:=ds) (k:=-k);generalize shiftS neg ds (-k)=s at *
    have Hsh:=q_ hsh;have HsD:=q_ sD;have HsL:=q_ sL;have HS:=q_ hS;clear hsh sD sL hS;go_enter Tryz.func53,Tryz.ntmps53;go_wp2_with fail;refine (Hra.out _ (Fr.t)).mono ?_;rintro e w1 ⟨rfl,hf⟩;have hb_:=(hf.block (w.heap.size) (by first|(simp;done)|(simp;omega)) i_).trans (show _=some (.cells #[.bool neg,.slice a ds.length c] 30 (0,0)) from hpT);obtain⟨b0,b1,bl⟩:=l2_ hb_;have Hb:=q_ hb_;clear hb_;have Hf:=q_ (Fr.trans0 (Fr.t:Fr [] w _) hf);clear hf;go_wp2_with fail;refine (Hsh.out _ Hf.out).mono ?_;rintro e w2 ⟨ra,rc,hlo,rfl,hr,hf⟩;have Hf:=q_ (Hf.out.trans0 hf);have Hr:=q_ hr;have hdg:=fun w (hf:Fr [] w2 w)=>digit_calls (hr.fr hf) (by have:=HsL.out;omega) 0;have hx:s.2.1.getD 0 0<4294967296:=HsD.out.getD o_ 0;have Hdg:=q_ hdg;clear hlo hr hf hdg;obtain⟨s1,s2,s3⟩:=s;have Ea:=and_one hx;have HS2:=HS.out;simp only at HS2 Ea hx Hdg;generalize s2.getD 0 0=x at *
    have hx2:x % 2<2:=o_;subst HS2;clear HS HsD HsL;go_wp2_with fail;refine (Hdg.out _ (Fr.t)).mono ?_;rintro e w4 ⟨rfl,rfl⟩;go_wp2;go_ret;exact⟨rfl,by have:=Hf.out;exact Fr.t⟩
def BigCall (w:World) (z:Int) (e:Ending) (w':World):Prop:=∃ v,e=.returned (.tuple #[v,.int .i64 0])∧BigZ w' (w.heap.size≤·) v z∧Fr [] w w'
def BigCall1 (w:World) (z:Int) (e:Ending) (w':World):Prop:=∃ v,e=.returned v∧BigZ w' (w.heap.size≤·) v z∧Fr [] w w'
section
variable {w:World} {A B:Nat→Prop} {va vb:Value} {x y:Int}
theorem Add_z (ha:BigZ w A va x) (hb:BigZ w B vb y) (hx:Zok x) (hy:Zok y) (hs:Zok (x+y)):Calls Tryz.prog 44 #[va,vb] w (BigCall w (x+y)):=by obtain⟨a,c,rfl,_,_,h3⟩:=ha;obtain⟨a',c',rfl,_,_,k3⟩:=hb;refine (Add_calls h3 k3 (zd_dig x) (zd_dig y) (by have:=zd_len hx;omega) (by have:=zd_len hy;omega)).mono ?_;rw [addS_z hx hy hs];rintro e w' ⟨a,c,⟨h1,h2⟩,rfl,h3,hf⟩;exact⟨_,rfl,⟨a,c,rfl,h1,h2,h3⟩,hf⟩
theorem Compare_z (ha:BigZ w A va x) (hb:BigZ w B vb y) (hx:Zok x) (hy:Zok y):Calls Tryz.prog 48 #[va,vb] w fun e w'=>e=.returned (.int .i64 (cmpIY x y))∧Fr [] w w':=by obtain⟨a,c,rfl,_,_,h3⟩:=ha;obtain⟨a',c',rfl,_,_,k3⟩:=hb;have:=Compare_calls (na:=decide (x<0)) (nb:=decide (y<0)) h3 k3 (zd_dig x) (zd_dig y) (by have:=zd_len hx;omega) (by have:=zd_len hy;omega);rwa [cmpS_z hx hy] at this
theorem From_z (h1:-9223372036854775808≤x) (h2:x<9223372036854775808):Calls Tryz.prog 45 #[.int .i64 x] w (BigCall1 w x):=by refine (From_calls h1 h2).mono ?_;rw [fromS_z (zok_int h1 h2)];rintro e w' ⟨a,c,⟨h1,h2⟩,rfl,h3,hf⟩;exact⟨_,rfl,⟨a,c,rfl,h1,h2,h3⟩,hf⟩
theorem Shift_z {n:Nat} (ha:BigZ w A va 1) (hn:n≤2047):Calls Tryz.prog 95 #[va,.int .i64 n] w (BigCall w ((2 ^ n:Nat):Int)):=by obtain⟨a,c,rfl,h0,_,h3⟩:=ha;refine (Shift_calls (neg:=decide ((1:Int)<0)) h3 (zd_dig 1) (by have:=zd_len (z:=1) (zok_int o_ o_);omega) h0 o_ o_).mono ?_;rw [show decide ((1:Int)<0)=false from rfl,shift_one hn];rintro e w' ⟨a,c,⟨h1,h2⟩,rfl,h3,hf⟩;refine⟨_,rfl,⟨a,c,?_,h1,h2,h3⟩,hf⟩;rw [decide_eq_false (Int.not_lt.2 (Int.natCast_nonneg _))]
theorem Bit_z {k:Nat} (ha:BigZ w A va x) (hx:Zok x) (h0:0≤x) (hk:k<2048):Calls Tryz.prog 53 #[va,.int .i64 k] w fun e w'=>e=.returned (.int .i64 (x.toNat / 2 ^ k % 2:Nat))∧Fr [] w w':=by obtain⟨a,c,rfl,hc,_,h3⟩:=ha;have:=Bit_calls (neg:=decide (x<0)) (k:=k) h3 (zd_dig x) (by have:=zd_len hx;omega) hc o_ o_;rwa [bitS_z hx h0 hk] at this
end
end Go.Proofs.YtebolidfbflkmaaGreat
end
section
namespace Go.Proofs.YtebolidfbflkmaaGreat
open Go Go.RowKit Rg Hp Bn
def RBigCall (w:World) (z:Int) (e:Ending) (w':World):Prop:=∃ v,e=.returned (.tuple #[v,.int .i64 0])∧BigZ w' (w.heap.size≤·) v z∧Fr [] w w'
def RBigCall1 (w:World) (z:Int) (e:Ending) (w':World):Prop:=∃ v,e=.returned v∧BigZ w' (w.heap.size≤·) v z∧Fr [] w w'
section
variable {w:World} {A B:Nat→Prop} {va vb:Value} {x y:Int}
theorem RFrom_z (h1:-9223372036854775808≤x) (h2:x<9223372036854775808):Calls Tryz.prog 16 #[.int .i64 x] w (RBigCall1 w x):=by refine (RFrom_calls h1 h2).mono ?_;rw [fromS_z (zok_int h1 h2)];rintro e w' ⟨a,c,⟨h1,h2⟩,rfl,h3,hf⟩;exact⟨_,rfl,⟨a,c,rfl,h1,h2,h3⟩,hf⟩
end
end Go.Proofs.YtebolidfbflkmaaGreat
end
section
namespace Go.Proofs.YtebolidfbflkmaaGreat
open Go Go.RowKit Rg Hp Bn
section
variable {w:World} {A B:Nat→Prop} {va vb:Value} {x y:Int}
theorem RNeg_z (ha:BigZ w A va x) (hx:Zok x):Calls Tryz.prog 35 #[va] w (RBigCall1 w (-x)):=by obtain⟨a,c,rfl,h0,_,h3⟩:=ha;refine (RNeg_calls h3 (zd_dig x) (by have:=zd_len hx;omega)).mono ?_;rw [negS_z hx];rintro e w' ⟨a,c,⟨h1,h2⟩,rfl,h3,hf⟩;exact⟨_,rfl,⟨a,c,rfl,h1,h2,h3⟩,hf⟩
end
end Go.Proofs.YtebolidfbflkmaaGreat
end
section
namespace Go.Proofs.Mp
open Go
section
variable {P:Program} {T E:TypeId} {q:IntKind} {n:Nat}
def ints (q:IntKind) (xs:List Int):Array Value:=(xs.map (Value.int q)).toArray
theorem run_underlying' {t:TypeId} {d:TypeDesc} (h:P.underlying t=some d) (w:World):(Go.underlying t).run P w=.ok d w:=by unfold Go.underlying;simp [h]
theorem run_sizeOf' {t:TypeId} {s:Nat} (h:(P.info? t).map (·.size)=some s) (w:World):(Go.sizeOf t).run P w=.ok s w:=by
 unfold Go.sizeOf Go.typeInfo;cases hi:P.info? t with
 | none=>rw [hi] at h;cases h
 | some i=>rw [hi] at h;simp at h;simp [hi,h]
theorem run_part_int (hE:P.underlying E=some (.int q)) {cs:Array Value} {off:Nat} {v:Value} (hv:cs[off]?=some v) (w:World):(Go.part E cs off).run P w=.ok v w:=by unfold Go.part Go.isAgg;rw [Sem.run_bind,Sem.run_bind,run_underlying' hE];simp [hv]
theorem ints_get {xs:List Int} {i:Nat} (h:i<xs.length):(ints q xs)[i]?=some (.int q (xs[i])):=by simp [ints,h]
theorem run_equal_int (hE:P.underlying E=some (.int q)) (d:Nat) (x y:Int) (w:World):(Op.equalIn (d+1) E (.int q x) (.int q y)).run P w=.ok (x == y) w:=by unfold Op.equalIn;rw [Sem.run_bind,run_underlying' hE];simp
theorem eq_loop (hE:P.underlying E=some (.int q)) (hs:(P.info? E).map (·.size)=some 1) (d:Nat) (xs ys:List Int) (hl:xs.length=ys.length):∀ (m i:Nat) (w:World),i+m=xs.length →
  (forIn (List.range' i m) ((none:Option Bool),()) (fun i s=>do
   let a ← Go.part E (ints q xs) (i*1)
   let b ← Go.part E (ints q ys) (i*1)
   let r ← Op.equalIn (d+1) E a b
   if (!r)=true then pure (ForInStep.done (some false,())) else pure (ForInStep.yield (none,())):Nat→Option Bool×Unit→Sem (ForInStep (Option Bool×Unit)))).run P w =
   .ok (if xs.drop i=ys.drop i then none else some false,()) w
 | 0,i,w,h=>by rw [List.drop_of_length_le o_,List.drop_of_length_le o_];rfl
 | m+1,i,w,h=>by
  rw [List.range'_succ,List.forIn_cons,Sem.run_bind,Sem.run_bind,run_part_int hE (by rw [Nat.mul_one];exact ints_get o_)];simp only [Result.andThen_ok];rw [Sem.run_bind,run_part_int hE (by rw [Nat.mul_one];exact ints_get o_)];simp only [Result.andThen_ok];rw [Sem.run_bind,run_equal_int hE];simp only [Result.andThen_ok];have ex:xs.drop i=xs[i]::xs.drop (i+1):=List.drop_eq_getElem_cons o_;have ey:ys.drop i=ys[i]::ys.drop (i+1):=List.drop_eq_getElem_cons o_;rw [ex,ey];by_cases hxy:xs[i]=ys[i];·
   simp only [hxy,beq_self_eq_true,Bool.not_true,Bool.false_eq_true,if_false,Sem.run_pure,Result.andThen_ok,List.cons.injEq,true_and];exact eq_loop hE hs d xs ys hl m (i+1) w o_
  ·have hb:(xs[i] == ys[i])=false:=(by simpa using hxy);have hn:¬ (xs[i]::xs.drop (i+1)=ys[i]::ys.drop (i+1)):=fun e=>hxy (List.cons.inj e).1;rw [if_neg hn];simp [hb]
theorem run_equalIn_ints (hT:P.underlying T=some (.array n E)) (hE:P.underlying E=some (.int q)) (hs:(P.info? E).map (·.size)=some 1) (d:Nat) (xs ys:List Int) (hx:xs.length=n) (hy:ys.length=n) (w:World) :
  (Op.equalIn (d+2) T (.agg (ints q xs)) (.agg (ints q ys))).run P w=.ok (decide (xs=ys)) w:=by
 show Sem.run P (Op.equalIn ((d+1)+1) _ _ _) w=_;unfold Op.equalIn;rw [Sem.run_bind,run_underlying' hT];simp only [Result.andThen_ok];rw [Sem.run_bind,run_sizeOf' hs];simp only [Result.andThen_ok];rw [Sem.run_bind,Std.Legacy.Range.forIn_eq_forIn_range'];have hl:List.range' [:n].start [:n].size [:n].step=List.range' 0 n:=by simp [Std.Legacy.Range.size]
 rw [hl];have:=eq_loop hE hs d xs ys o_ n 0 w o_;rw [this];simp only [List.drop_zero,Result.andThen_ok];by_cases h:xs=ys<;>simp [h]
theorem check_loop (hE:P.underlying E=some (.int q)) (hs:(P.info? E).map (·.size)=some 1) (d:Nat) (e:Bool) (xs:List Int):∀ (m i:Nat) (w:World),i+m=xs.length →
  (forIn (List.range' i m) () (fun i s=>do
   let n ← Go.sizeOf E
   let a ← Go.part E (ints q xs) (i*n)
   Instr.checkKey e (d+1) E a
   pure (ForInStep.yield ()):Nat→Unit→Sem (ForInStep Unit))).run P w=.ok () w
 | 0,i,w,h=>rfl
 | m+1,i,w,h=>by
  have hc:∀ x:Int,(Instr.checkKey e (d+1) E (.int q x)).run P w=.ok () w:=by intro x;unfold Instr.checkKey;rw [Sem.run_bind,run_underlying' hE];simp
  rw [List.range'_succ,List.forIn_cons,Sem.run_bind,Sem.run_bind,run_sizeOf' hs];simp only [Result.andThen_ok];rw [Sem.run_bind,run_part_int hE (by rw [Nat.mul_one];exact ints_get o_)];simp only [Result.andThen_ok];rw [Sem.run_bind,hc];simp only [Result.andThen_ok,Sem.run_pure];exact check_loop hE hs d e xs m (i+1) w o_
theorem run_checkKey_ints (hT:P.underlying T=some (.array n E)) (hE:P.underlying E=some (.int q)) (hs:(P.info? E).map (·.size)=some 1) (d:Nat) (e:Bool) (xs:List Int) (hx:xs.length=n) (w:World) :
  (Instr.checkKey e (d+2) T (.agg (ints q xs))).run P w=.ok () w:=by
 show Sem.run P (Instr.checkKey e ((d+1)+1) _ _) w=_;unfold Instr.checkKey;rw [Sem.run_bind,run_underlying' hT];simp only [Result.andThen_ok];rw [Std.Legacy.Range.forIn_eq_forIn_range'];have hl:List.range' [:n].start [:n].size [:n].step=List.range' 0 n:=by simp [Std.Legacy.Range.size]
 rw [hl];rw [Sem.run_bind,check_loop hE hs d e xs n 0 w o_];rfl
theorem sameBits_int (d:Nat) (x:Int):Instr.sameBits d (.int q x) (.int q x)=true:=by cases d<;>simp [Instr.sameBits]
theorem zip_same:∀ (l:List Value),(∀ v∈l,∀ d,Instr.sameBits d v v=true)→∀ d,(l.zip l).all (fun p=>Instr.sameBits d p.1 p.2)=true
 | [],_,_=>rfl
 | v::l,h,d=>by simp only [List.zip_cons_cons,List.all_cons,Bool.and_eq_true];exact⟨h v i_ d,zip_same l (fun u hu=>h u (by simp [hu])) d⟩
theorem sameBits_ints (d:Nat) (xs:List Int):Instr.sameBits (d+1) (.agg (ints q xs)) (.agg (ints q xs))=true:=by unfold Instr.sameBits;simp only [beq_self_eq_true,Bool.true_and,ints];exact zip_same _ (fun v hv d=>by obtain⟨x,_,rfl⟩:=List.mem_map.1 hv;exact sameBits_int d x) d
theorem KeysBy.ints {κ:Type} [DecidableEq κ] (f:κ→List Int) (hf:∀ a b,f a=f b→a=b) (hn:∀ a,(f a).length=n) (hT:P.underlying T=some (.array n E)) (hE:P.underlying E=some (.int q)) (hs:(P.info? E).map (·.size)=some 1) :
  KeysBy P T (fun k=>Value.agg (Mp.ints q (f k))):=by
 refine KeysBy.deep hT (fun k v=>rfl) (fun a b w=>?_) (fun e k w=>run_checkKey_ints hT hE hs 9998 e (f k) (hn k) w) fun k=>sameBits_ints 9999 (f k);have:=run_equalIn_ints hT hE hs 9998 (f a) (f b) (hn a) (hn b) w;show (Op.equalIn 10000 T _ _).run P w=_;rw [this];congr 1;by_cases h:a=b;·simp [h]
 ·have:¬ f a=f b:=fun e=>h (hf a b e);simp [h,this]
end
end Go.Proofs.Mp
end
section
namespace Go.Proofs.Qs
structure K4 where
 a:Int
 b:Int
 c:Int
 d:Int
 deriving DecidableEq
def lvl (s:Int) (ls:List Int) (id:Int):Int:=if id<0 then -1 else if id<s then 0 else ls.getD (id - s).toNat (-1)
def levs (s:Int) (ns:List K4):List Int:=ns.foldl (fun ls k=>ls++[lvl s ls k.a+1]) []
theorem levs_snoc (s:Int) (ns:List K4) (k:K4):levs s (ns++[k])=levs s ns++[lvl s (levs s ns) k.a+1]:=by simp [levs]
theorem levs_length (s:Int) (ns:List K4):(levs s ns).length=ns.length:=by
 rcases List.eq_nil_or_concat ns with rfl|⟨l,x,rfl⟩
 ·rfl
 ·rw [List.concat_eq_append,levs_snoc];simp [levs_length s l]
termination_by ns.length
decreasing_by simp_all
theorem levs_take (s:Int) (ns:List K4):∀ i,(levs s ns).take i=levs s (ns.take i):=by
 intro i;rcases List.eq_nil_or_concat ns with rfl|⟨l,x,rfl⟩
 ·simp [levs]
 ·rw [List.concat_eq_append,levs_snoc];rcases Nat.lt_or_ge l.length i with h|h
  ·rw [List.take_of_length_le (by simp [levs_length];omega),List.take_of_length_le (by simp;omega),levs_snoc]
  ·rw [List.take_append_of_le_length (by simp [levs_length];omega),List.take_append_of_le_length h,levs_take s l i]
termination_by ns.length
decreasing_by simp_all
def Fits (s:Int) (ns:List K4) (k:K4):Prop :=
 0≤lvl s (levs s ns) k.a∧lvl s (levs s ns) k.a<256∧lvl s (levs s ns) k.b=lvl s (levs s ns) k.a∧lvl s (levs s ns) k.c=lvl s (levs s ns) k.a∧lvl s (levs s ns) k.d=lvl s (levs s ns) k.a
instance (s:Int) (ns:List K4) (k:K4):Decidable (Fits s ns k):=by unfold Fits;exact inferInstance
def GoodQ (s:Int) (ns:List K4):Prop:=2≤s∧s≤8∧ns.length≤100000∧ns.Nodup∧∀ i k,ns[i]?=some k→Fits s (ns.take i) k
theorem GoodQ.nil {s:Int} (h:2≤s) (h':s≤8):GoodQ s []:=⟨h,h',i_,i_,i_⟩
theorem GoodQ.snoc {s:Int} {ns:List K4} {k:K4} (h:GoodQ s ns) (hk:Fits s ns k) (hn:k∉ns) (hl:ns.length<100000):GoodQ s (ns++[k]):=by
 obtain⟨h1,h2,h3,h4,h5⟩:=h;refine⟨h1,h2,by simp;omega,?_,?_⟩;·
  rw [List.nodup_append];refine⟨h4,i_,?_⟩;intro x hx y hy e;simp at hy;subst hy;subst e;exact hn hx
 ·intro i x hx;rcases Nat.lt_or_ge i ns.length with hi|hi
  ·rw [List.getElem?_append_left hi] at hx;rw [List.take_append_of_le_length o_];exact h5 i x hx
  ·have hi':i=ns.length:=by
    have:=(List.getElem?_eq_some_iff.1 hx).1;simp at this;omega
   subst hi';simp at hx;subst hx;simpa using hk
def joinIn (s:Int) (ns:List K4) (k:K4):(Int×Int)×List K4 :=
 match ns.idxOf? k with
  | some i=>((s+i,0),ns)
  | none=>if 100000≤ns.length then ((0,6),ns) else ((s+ns.length,0),ns++[k])
def join (s:Int) (ns:List K4) (k:K4):(Int×Int)×List K4 :=
 if lvl s (levs s ns) k.a<0∨lvl s (levs s ns) k.b<0∨lvl s (levs s ns) k.c<0∨lvl s (levs s ns) k.d<0 then ((0,13),ns)
 else if ¬ Fits s ns k then ((0,18),ns)
 else joinIn s ns k
theorem joinIn_hit {s:Int} {ns:List K4} {k:K4} {i:Nat} (h:ns.idxOf? k=some i):joinIn s ns k=((s+i,0),ns):=by unfold joinIn;rw [h]
theorem joinIn_full {s:Int} {ns:List K4} {k:K4} (h:ns.idxOf? k=none) (hl:100000≤ns.length):joinIn s ns k=((0,6),ns):=by unfold joinIn;rw [h];simp only [if_pos hl]
theorem joinIn_new {s:Int} {ns:List K4} {k:K4} (h:ns.idxOf? k=none) (hl:ns.length<100000):joinIn s ns k=((s+ns.length,0),ns++[k]):=by unfold joinIn;rw [h];simp only [if_neg (by omega:¬ 100000≤ns.length)]
def pairs (s:Int) (ns:List K4):List (K4×Int):=ns.zipIdx.map fun p=>(p.1,s+p.2)
theorem pairs_keys (s:Int) (ns:List K4):(pairs s ns).map (·.1)=ns:=by simp [pairs,List.map_map,Function.comp_def]
theorem pairs_snoc (s:Int) (ns:List K4) (k:K4):pairs s (ns++[k])=pairs s ns++[(k,s+ns.length)]:=by simp [pairs,List.zipIdx_append]
theorem pairs_get (s:Int) (ns:List K4) (i:Nat):(pairs s ns)[i]?=(ns[i]?).map fun k=>(k,s+i):=by simp [pairs,List.getElem?_zipIdx];cases ns[i]?<;>simp
end Go.Proofs.Qs
end
section
namespace Go.Proofs.YtebolidfbflkmaaGreat
open Go Go.RowKit Mp Hp Qs
def kl (k:K4):List Int:=[k.a,k.b,k.c,k.d]
def kv (k:K4):Value:=.agg #[.int .i64 k.a,.int .i64 k.b,.int .i64 k.c,.int .i64 k.d]
theorem size_int:(Tryz.prog.info? 3).map (·.size)=some 1:=by kernel_rfl
theorem keys4:KeysBy Tryz.prog 132 kv :=
 KeysBy.ints (q:=.i64) kl (fun a b h=>by cases a;cases b;simpa [kl] using h) (fun _=>rfl) Tryz.underlying132 Tryz.underlying3 size_int
section
variable (w:World) (a b c d:Value)
theorem index4_0:(Instr.index 132 (.agg #[a,b,c,d]) (.int .i64 0)).run Tryz.prog w=.ok a w:=by kernel_rfl
theorem index4_1:(Instr.index 132 (.agg #[a,b,c,d]) (.int .i64 1)).run Tryz.prog w=.ok b w:=by kernel_rfl
theorem index4_2:(Instr.index 132 (.agg #[a,b,c,d]) (.int .i64 2)).run Tryz.prog w=.ok c w:=by kernel_rfl
theorem index4_3:(Instr.index 132 (.agg #[a,b,c,d]) (.int .i64 3)).run Tryz.prog w=.ok d w:=by kernel_rfl
end
theorem eq4 (w:World) (a b c d x y z u:Int):(Op.equalIn 10000 132 (.agg #[.int .i64 a,.int .i64 b,.int .i64 c,.int .i64 d]) (.agg #[.int .i64 x,.int .i64 y,.int .i64 z,.int .i64 u])).run Tryz.prog w =
  .ok (a == x && (b == y && (c == z && d == u))) w:=by
 refine (run_equalIn_ints (q:=.i64) Tryz.underlying132 Tryz.underlying3 size_int 9998 [a,b,c,d] [x,y,z,u] rfl rfl w).trans ?_;congr 1;rw [Bool.eq_iff_iff];simp
theorem eq4s (w:World) (a b c d x y z u:Int):(Op.equalIn 9999 132 (.agg #[.int .i64 a,.int .i64 b,.int .i64 c,.int .i64 d]) (.agg #[.int .i64 x,.int .i64 y,.int .i64 z,.int .i64 u])).run Tryz.prog w =
  .ok (a == x && (b == y && (c == z && d == u))) w:=by
 refine (run_equalIn_ints (q:=.i64) Tryz.underlying132 Tryz.underlying3 size_int 9997 [a,b,c,d] [x,y,z,u] rfl rfl w).trans ?_;congr 1;rw [Bool.eq_iff_iff];simp
attribute [go_sem] eq4 eq4s index4_0 index4_1 index4_2 index4_3
end Go.Proofs.YtebolidfbflkmaaGreat
end
section
namespace Go.Proofs.YtebolidfbflkmaaGreat
open Go Go.RowKit Rg Mp Hp Qs
def flat (ns:List K4):List Value:=ns.flatMap fun k=>[.int .i64 k.a,.int .i64 k.b,.int .i64 k.c,.int .i64 k.d]
structure StoreIn (w:World) (b:Nat) (s:Int) (ns:List K4) (nv lv:Value) (mb:Nat):Prop where
 blk:w.heap[b]?=some (.cells #[.int .i64 s,nv,lv,.map (some mb)] 131 (0,0))
 nodes:w.ownsRow 0 183 4 nv ns.length (flat ns)
 levels:w.ownsRow 0 3 1 lv ns.length ((levs s ns).map (Value.int .i64))
 known:MapIs w mb kv (Value.int .i64) (pairs s ns)
 ne1:b≠mb
 ne2:nv.ownBlock≠some b
 ne3:nv.ownBlock≠some mb
 ne4:lv.ownBlock≠some b
 ne5:lv.ownBlock≠some mb
 ne6:∀ g,nv.ownBlock=some g→lv.ownBlock≠some g
def foot (b:Nat) (nv lv:Value) (mb:Nat):List Nat:=b::mb::(nv.ownBlock.toList++lv.ownBlock.toList)
def StoreAt (w:World) (b:Nat) (s:Int) (ns:List K4) (F:List Nat):Prop:=GoodQ s ns∧∃ nv lv mb,StoreIn w b s ns nv lv mb∧F=foot b nv lv mb
theorem StoreIn.keep {w w':World} {b mb:Nat} {s:Int} {ns:List K4} {nv lv:Value} (h:StoreIn w b s ns nv lv mb) (hk:∀ x∈foot b nv lv mb,w'.heap[x]?=w.heap[x]?):StoreIn w' b s ns nv lv mb where
 blk:=(hk b (by simp [foot])).trans h.blk
 nodes:=oOB h.nodes fun g hg=>hk g (by simp [foot,hg])
 levels:=oOB h.levels fun g hg=>hk g (by simp [foot,hg])
 known:=h.known.of_block (hk mb (by simp [foot]))
 ne1:=h.ne1
 ne2:=h.ne2
 ne3:=h.ne3
 ne4:=h.ne4
 ne5:=h.ne5
 ne6:=h.ne6
theorem StoreIn.lt {w:World} {b mb:Nat} {s:Int} {ns:List K4} {nv lv:Value} (h:StoreIn w b s ns nv lv mb):∀ x∈foot b nv lv mb,x<w.heap.size:=by
 intro x hx;simp only [foot,List.mem_cons,List.mem_append,Option.mem_toList] at hx;rcases hx with rfl|rfl|hx|hx
 ·exact lBk h.blk
 ·exact h.known.lt
 ·exact oLT h.nodes hx
 ·exact oLT h.levels hx
theorem StoreAt.keep {w w':World} {b:Nat} {s:Int} {ns:List K4} {F:List Nat} (h:StoreAt w b s ns F) (hk:∀ x∈F,w'.heap[x]?=w.heap[x]?):StoreAt w' b s ns F:=by obtain⟨hg,nv,lv,mb,hS,rfl⟩:=h;exact⟨hg,nv,lv,mb,hS.keep hk,rfl⟩
theorem StoreAt.lt {w:World} {b:Nat} {s:Int} {ns:List K4} {F:List Nat} (h:StoreAt w b s ns F):∀ x∈F,x<w.heap.size:=by obtain⟨hg,nv,lv,mb,hS,rfl⟩:=h;exact hS.lt
theorem StoreAt.fr {w w':World} {b:Nat} {s:Int} {ns:List K4} {F G:List Nat} (h:StoreAt w b s ns F) (hf:Fr G w w') (hd:∀ x∈F,x∉G):StoreAt w' b s ns F :=
 h.keep fun x hx=>hf.block x (h.lt x hx) (hd x hx)
theorem StoreAt.drew {w w':World} {b:Nat} {s:Int} {ns:List K4} {F:List Nat} (h:StoreAt w b s ns F) (hd:Drew w w'):StoreAt w' b s ns F:=h.keep fun x _=>by rw [hd.heap]
theorem Level_neg (b:Nat) (id:Int) (w:World) (h:id<0) :
  Calls Tryz.prog 98 #[.pointer (some ⟨b,0,none⟩),.int .i64 id] w fun e w'=>e=.returned (.int .i64 (-1))∧Drew w w':=by
 have hd:decide (id<0)=true:=by simpa using h
 go_enter Tryz.func98,Tryz.ntmps98;go_wp2;refine wT ?_;go_wp2;refine sT_ rfl ?_;go_wp2;go_ret;exact⟨rfl,(Drew.refl _).drew⟩
theorem Level_state (b:Nat) (id s:Int) (na:Option Addr) (nl nc:Nat) (w:World) (h0:w.cell? ⟨b,0,none⟩=some (.int .i64 s)) (h1:w.cell? ⟨b,1,none⟩=some (.slice na nl nc))
  (hs:0≤s) (hs2:s≤8) (hnl:nl≤100000) (hid:0≤id) (hid2:id<s) :
  Calls Tryz.prog 98 #[.pointer (some ⟨b,0,none⟩),.int .i64 id] w fun e w'=>e=.returned (.int .i64 0)∧Drew w w':=by
 have hd:decide (id<0)=false:=by simp;omega
 go_enter Tryz.func98,Tryz.ntmps98;go_wp2;refine wT ?_;go_wp2;refine sT_ rfl ?_;go_wp2;go_ret;exact⟨rfl,(Drew.refl _).drew⟩
theorem Level_far (b:Nat) (id s:Int) (na:Option Addr) (nl nc:Nat) (w:World) (h0:w.cell? ⟨b,0,none⟩=some (.int .i64 s)) (h1:w.cell? ⟨b,1,none⟩=some (.slice na nl nc))
  (hs:0≤s) (hs2:s≤8) (hnl:nl≤100000) (hid:s+nl≤id) :
  Calls Tryz.prog 98 #[.pointer (some ⟨b,0,none⟩),.int .i64 id] w fun e w'=>e=.returned (.int .i64 (-1))∧Drew w w':=by
 have hd:decide (id<0)=false:=by simp;omega
 go_enter Tryz.func98,Tryz.ntmps98;go_wp2;refine wT ?_;go_wp2;refine sT_ rfl ?_;go_wp2;go_ret;exact⟨rfl,(Drew.refl _).drew⟩
theorem Level_node (b:Nat) (s:Int) (k:Nat) (na:Option Addr) (nl nc nl' nc' lb:Nat) (v:Int) (w:World) (h0:w.cell? ⟨b,0,none⟩=some (.int .i64 s)) (h1:w.cell? ⟨b,1,none⟩=some (.slice na nl nc))
  (h2:w.cell? ⟨b,2,none⟩=some (.slice (some ⟨lb,0,none⟩) nl' nc')) (hs:0≤s) (hs2:s≤8) (hnl:nl≤100000) (hid:k<nl) (hid':k<nl') (hc:w.cell? ⟨lb,k,none⟩=some (.int .i64 v)) :
  Calls Tryz.prog 98 #[.pointer (some ⟨b,0,none⟩),.int .i64 (s+k)] w fun e w'=>e=.returned (.int .i64 v)∧Drew w w':=by
 have hw1:IntKind.i64.wrap (s+↑k - s)=↑k:=IntWalk.i64_in _ o_ |>.trans o_;go_enter Tryz.func98,Tryz.ntmps98;go_wp2;refine wT ?_;go_wp2;refine sT_ rfl ?_;go_wp2;refine wT ?_;go_wp2;refine sT_ rfl ?_;go_wp2;go_ret;exact⟨rfl,(Drew.refl _).drew.drew⟩
theorem Level_calls {w:World} {b:Nat} {s:Int} {ns:List K4} {F:List Nat} (hS:StoreAt w b s ns F) (id:Int) :
  Calls Tryz.prog 98 #[.pointer (some ⟨b,0,none⟩),.int .i64 id] w fun e w'=>e=.returned (.int .i64 (lvl s (levs s ns) id))∧Drew w w':=by
 obtain⟨⟨hs,hs2,hl,_⟩,nv,lv,mb,hI,rfl⟩:=hS;obtain⟨na,nc,rfl,_⟩:=oFM hI.nodes;obtain⟨la,lc,rfl,hla,_⟩:=oFM hI.levels;have h0:w.cell? ⟨b,0,none⟩=some (.int .i64 s):=hEC hI.blk 0;have h1:w.cell? ⟨b,1,none⟩=some (.slice na ns.length nc):=hEC hI.blk 1;have h2:w.cell? ⟨b,2,none⟩=some (.slice la ns.length lc):=hEC hI.blk 2;have hlen:=levs_length s ns;unfold lvl;by_cases hneg:id<0;·rw [if_pos hneg];exact Level_neg b id w hneg
 ·rw [if_neg hneg];by_cases hst:id<s;·rw [if_pos hst];exact Level_state b id s na _ nc w h0 h1 o_ hs2 hl o_ hst
  ·rw [if_neg hst];by_cases hfar:s+ns.length≤id;·
    rw [List.getD_eq_getElem?_getD,List.getElem?_eq_none o_];exact Level_far b id s na _ nc w h0 h1 o_ hs2 hl hfar
   ·obtain⟨k,rfl⟩:∃ k:Nat,id=s+k:=⟨(id - s).toNat,o_⟩;obtain⟨g,rfl⟩:=hla o_;have hk:k<(levs s ns).length:=o_;have hk':(s+↑k - s).toNat=k:=o_;rw [hk',List.getD_eq_getElem?_getD,List.getElem?_eq_getElem hk];exact Level_node b s k na _ nc _ lc g _ w h0 h1 h2 o_ hs2 hl o_ o_ (owns_cell hI.levels rfl (by simp [hk]))
end Go.Proofs.YtebolidfbflkmaaGreat
end
