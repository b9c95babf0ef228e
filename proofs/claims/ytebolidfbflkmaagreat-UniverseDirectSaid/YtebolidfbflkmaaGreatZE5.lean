/- Own texts of this claim, part 6: no condition. -/
import Derived.Test.YtebolidfbflkmaaGreatZE4
set_option linter.unusedVariables false
set_option linter.unusedSimpArgs false
set_option maxHeartbeats 16000000
set_option maxRecDepth 100000
namespace Go.Proofs.YtebolidfbflkmaaGreat
open Go Go.RowKit Rg Hp Bn
theorem Compare_calls {w:World} {na nb:Bool} {da db:List Nat} {va vb:Value} (ha:Reads w va da.length 1 (Aw da)) (hb:Reads w vb db.length 1 (Aw db)) (hDa:Dig 4294967296 da) (hDb:Dig 4294967296 db) (hla:da.length≤10000) (hlb:db.length≤10000) :
  Calls Tryz.prog 48 #[.agg #[.bool na,va],.agg #[.bool nb,vb]] w fun e w'=>e=.returned (.int .i64 (cmpS na da nb db))∧Fr [] w w':=by
 have hra:=fun w1 (hf:Fr [] w w1)=>Ba (neg:=na) (ha.fr hf) o_;have hrb:=fun w1 (hf:Fr [] w w1)=>Ba (neg:=nb) (hb.fr hf) o_;have Ha:=q_ ha;have Hb:=q_ hb;obtain⟨_,a,ac,rfl,_⟩:=ha;obtain⟨_,b,bc,rfl,_⟩:=hb;have HDa:=q_ hDa;have HDb:=q_ hDb;obtain⟨r,hS⟩:∃ r,r=cmpS na da nb db:=⟨_,rfl⟩;rw [← hS];unfold cmpS at hS;clear hDa hDb;cases hR1:A7 na da with
 | false =>rw [hR1] at hra hS;simp only [Bool.false_and,if_true] at hS;subst hS;have Hra:=q_ hra;clear hR1 hra hrb;go_enter Tryz.func48,Tryz.ntmps48;go_wp2_with fail;refine (Hra.o _ (Fr.t)).mono ?_;rintro e w1 ⟨rfl,hf⟩;have Hf:=q_ (Fr.trans0 (Fr.t:Fr [] w _) hf);clear hf;go_wp2;go_ret;exact⟨rfl,Hf.o⟩
 | true =>
  rw [hR1] at hra hS;obtain⟨cA,lA,_⟩:=C7 hR1;have HcA:=q_ cA;have Hra:=q_ hra;clear hR1 hra cA;cases hR2:A7 nb db with
  | false =>rw [hR2] at hrb hS;simp only [Bool.and_false,if_true] at hS;subst hS;have Hrb:=q_ hrb;clear hR2 hrb;go_enter Tryz.func48,Tryz.ntmps48;go_wp2_with fail;refine (Hra.o _ (Fr.t)).mono ?_;rintro e w1 ⟨rfl,hf⟩;have hb1:=(hf.block (w.heap.size+1) i_ i_).trans (show _=some (.cells #[.bool nb,.slice b db.length bc] 30 (0,0)) from hpT);obtain⟨b0,b1,bl⟩:=l2_ hb1;have Hf1:=q_ (Fr.trans0 (Fr.t:Fr [] w _) hf);clear hf hb1;go_wp2_with fail;refine (Hrb.o _ Hf1.o).mono ?_;rintro e w2 ⟨rfl,hf⟩;have Hf:=q_ (Hf1.o.trans0 hf);clear hf b0 b1;go_wp2;go_ret;exact⟨rfl,Hf.o⟩
  | true =>
   rw [hR2] at hrb hS;obtain⟨cB,lB,_⟩:=C7 hR2;have HcB:=q_ cB;simp only [Bool.and_self,Bool.true_eq_false,if_false] at hS;have Hrb:=q_ hrb;have hag:=fun w3 (hf:Fr [] w w3)=>Gv (Ha.o.fr hf) (Hb.o.fr hf) HDa.o HDb.o HcA.o cB o_ o_;have hag2:=fun w3 (hf:Fr [] w w3)=>Gv (Hb.o.fr hf) (Ha.o.fr hf) HDb.o HDa.o cB HcA.o o_ o_;generalize Gc (val 4294967296 da) (val 4294967296 db)=q1 at *
   generalize Gc (val 4294967296 db) (val 4294967296 da)=q2 at *
   have Hag:=q_ hag;have Hag2:=q_ hag2;have HS:=q_ hS;clear hR2 hrb cB hag hag2 hS;go_enter Tryz.func48,Tryz.ntmps48;go_wp2_with fail;refine (Hra.o _ (Fr.t)).mono ?_;rintro e w1 ⟨rfl,hf⟩;have hb1:=(hf.block (w.heap.size+1) i_ i_).trans (show _=some (.cells #[.bool nb,.slice b db.length bc] 30 (0,0)) from hpT);obtain⟨b0,b1,bl⟩:=l2_ hb1;have Hb1:=q_ hb1;have Ha1:=q_ ((hf.block w.heap.size u_' i_).trans (show _=some (.cells #[.bool na,.slice a da.length ac] 30 (0,0)) from hpT));have Hf1:=q_ (Fr.trans0 (Fr.t:Fr [] w _) hf);clear hf hb1;go_wp2_with fail;refine (Hrb.o _ Hf1.o).mono ?_;rintro e w2 ⟨rfl,hf⟩;have ha2:=tk hf Ha1;have hb2:=tk hf Hb1;clear b0 b1 bl;obtain⟨a0,a1,al⟩:=l2_ ha2;obtain⟨b0,b1,bl⟩:=l2_ hb2;have Hf:=q_ (Hf1.o.trans0 hf);clear hf ha2 hb2;cases na<;>cases nb;·
    go_wp2_with fail;refine (Hag.o _ Hf.o).mono ?_;rintro e w3 ⟨rfl,hd⟩;have Hf3:=q_ (Hf.o.trans0 (hd.fr []));clear hd a0 a1 b0 b1;go_wp2;go_ret;exact⟨by rw [HS.o];rfl,Hf3.o⟩
   ·go_wp2;go_ret;exact⟨by rw [HS.o];rfl,Hf.o⟩
   ·go_wp2;go_ret;exact⟨by rw [HS.o];rfl,Hf.o⟩
   ·go_wp2_with fail;refine (Hag2.o _ Hf.o).mono ?_;rintro e w3 ⟨rfl,hd⟩;have Hf3:=q_ (Hf.o.trans0 (hd.fr []));clear hd a0 a1 b0 b1;go_wp2;go_ret;exact⟨by rw [HS.o];rfl,Hf3.o⟩
theorem Bit_calls {w:World} {neg:Bool} {ds:List Nat} {k:Int} {a:Option Addr} {c:Nat} (hv:Reads w (.slice a ds.length c) ds.length 1 (Aw ds)) (hD:Dig 4294967296 ds) (hl:ds.length≤10000) (hc:ds.length≤c) (hk1:-9223372036854775808≤k) (hk2:k<9223372036854775808) :
  Calls Tryz.prog 53 #[.agg #[.bool neg,.slice a ds.length c],.int .i64 k] w fun e w'=>e=.returned (.int .i64 (bitS neg ds k:Nat))∧Fr [] w w':=by
 have hra:=fun w1 (hf:Fr [] w w1)=>Ba (neg:=neg) (hv.fr hf) o_;obtain⟨r,hS⟩:∃ r,r=bitS neg ds k:=⟨_,rfl⟩;rw [← hS];unfold bitS at hS;have Hv:=q_ hv;have HDd:=q_ hD;clear hv hD;cases hR1:A7 neg ds with
 | false =>rw [hR1] at hS hra;simp only [true_or,if_true] at hS;subst hS;have Hra:=q_ hra;clear hra hR1;go_enter Tryz.func53,Tryz.ntmps53;go_wp2_with fail;refine (Hra.o _ (Fr.t)).mono ?_;rintro e w1 ⟨rfl,hf⟩;have hb_:=(hf.block (w.heap.size) f_' i_).trans (show _=some (.cells #[.bool neg,.slice a ds.length c] 30 (0,0)) from hpT);obtain⟨b0,b1,bl⟩:=l2_ hb_;have Hb:=q_ hb_;clear hb_;have Hf:=q_ (Fr.trans0 (Fr.t:Fr [] w _) hf);clear hf;go_wp2;go_ret;exact⟨rfl,Hf.o⟩
 | true =>
  rw [hR1] at hS hra;simp only [Bool.true_eq_false,false_or] at hS;have Hra:=q_ hra;clear hra hR1;by_cases hk0:k<0;·
   rw [if_pos hk0] at hS;subst hS;have hd:decide (k<0)=true:=(by simpa using hk0);go_enter Tryz.func53,Tryz.ntmps53;go_wp2_with fail;refine (Hra.o _ (Fr.t)).mono ?_;rintro e w1 ⟨rfl,hf⟩;have hb_:=(hf.block (w.heap.size) f_' i_).trans (show _=some (.cells #[.bool neg,.slice a ds.length c] 30 (0,0)) from hpT);obtain⟨b0,b1,bl⟩:=l2_ hb_;have Hb:=q_ hb_;clear hb_;have Hf:=q_ (Fr.trans0 (Fr.t:Fr [] w _) hf);clear hf;go_wp2;go_ret;exact⟨rfl,Hf.o⟩
  ·rw [if_neg hk0] at hS;have hd:decide (k<0)=false:=(by simpa using hk0);by_cases hk3:2048≤k;·
    rw [if_pos hk3] at hS;subst hS;have hd2:decide (2048≤k)=true:=(by simpa using hk3);cases neg;·
     go_enter Tryz.func53,Tryz.ntmps53;go_wp2_with fail;refine (Hra.o _ (Fr.t)).mono ?_;rintro e w1 ⟨rfl,hf⟩;have hb_:=(hf.block (w.heap.size) f_' i_).trans (show _=some (.cells #[.bool false,.slice a ds.length c] 30 (0,0)) from hpT);obtain⟨b0,b1,bl⟩:=l2_ hb_;have Hb:=q_ hb_;clear hb_;have Hf:=q_ (Fr.trans0 (Fr.t:Fr [] w _) hf);clear hf;go_wp2;go_ret;exact⟨rfl,Hf.o⟩
    ·go_enter Tryz.func53,Tryz.ntmps53;go_wp2_with fail;refine (Hra.o _ (Fr.t)).mono ?_;rintro e w1 ⟨rfl,hf⟩;have hb_:=(hf.block (w.heap.size) f_' i_).trans (show _=some (.cells #[.bool true,.slice a ds.length c] 30 (0,0)) from hpT);obtain⟨b0,b1,bl⟩:=l2_ hb_;have Hb:=q_ hb_;clear hb_;have Hf:=q_ (Fr.trans0 (Fr.t:Fr [] w _) hf);clear hf;go_wp2;go_ret;exact⟨rfl,Hf.o⟩
   ·rw [if_neg hk3] at hS;have hd2:decide (2048≤k)=false:=u_';have hsh:=fun w1 (hf:Fr [] w w1)=>O9 (neg:=neg) (k:=-k) (Hv.o.fr hf) HDd.o hl hc o_ o_;obtain⟨sD,sL⟩:=shiftS_dig (neg:=neg) (ds:=ds) (k:=-k);generalize D8 neg ds (-k)=s at *
    have Hsh:=q_ hsh;have HsD:=q_ sD;have HsL:=q_ sL;have HS:=q_ hS;clear hsh sD sL hS;go_enter Tryz.func53,Tryz.ntmps53;go_wp2_with fail;refine (Hra.o _ (Fr.t)).mono ?_;rintro e w1 ⟨rfl,hf⟩;have hb_:=(hf.block (w.heap.size) f_' i_).trans (show _=some (.cells #[.bool neg,.slice a ds.length c] 30 (0,0)) from hpT);obtain⟨b0,b1,bl⟩:=l2_ hb_;have Hb:=q_ hb_;clear hb_;have Hf:=q_ (Fr.trans0 (Fr.t:Fr [] w _) hf);clear hf;go_wp2_with fail;refine (Hsh.o _ Hf.o).mono ?_;rintro e w2 ⟨ra,rc,hlo,rfl,hr,hf⟩;have Hf:=q_ (Hf.o.trans0 hf);have Hr:=q_ hr;have hdg:=fun w (hf:Fr [] w2 w)=>Fc (hr.fr hf) (by have:=HsL.o;omega) 0;have hx:s.2.1.getD 0 0<4294967296:=HsD.o.getD o_ 0;have Hdg:=q_ hdg;clear hlo hr hf hdg;obtain⟨s1,s2,s3⟩:=s;have Ea:=and_one hx;have HS2:=HS.o;simp only at HS2 Ea hx Hdg;generalize s2.getD 0 0=x at *
    have hx2:x % 2<2:=o_;subst HS2;clear HS HsD HsL;go_wp2_with fail;refine (Hdg.o _ (Fr.t)).mono ?_;rintro e w4 ⟨rfl,rfl⟩;go_wp2;go_ret;exact⟨rfl,by have:=Hf.o;exact Fr.t⟩
def Oq (w:World) (z:Int) (e:Ending) (w':World):Prop:=∃ v,e=.returned (.tuple #[v,.int .i64 0])∧BigZ w' (w.heap.size≤·) v z∧Fr [] w w'
def D2 (w:World) (z:Int) (e:Ending) (w':World):Prop:=∃ v,e=.returned v∧BigZ w' (w.heap.size≤·) v z∧Fr [] w w'
section
variable {w:World} {A B:Nat→Prop} {va vb:Value} {x y:Int}
theorem Ja (ha:BigZ w A va x) (hb:BigZ w B vb y) (hx:Zok x) (hy:Zok y) (hs:Zok (x+y)):Calls Tryz.prog 44 #[va,vb] w (Oq w (x+y)):=by obtain⟨a,c,rfl,_,_,h3⟩:=ha;obtain⟨a',c',rfl,_,_,k3⟩:=hb;refine (Add_calls h3 k3 (E8 x) (E8 y) (by have:=D7 hx;omega) (by have:=D7 hy;omega)).mono ?_;rw [addS_z hx hy hs];rintro e w' ⟨a,c,⟨h1,h2⟩,rfl,h3,hf⟩;exact⟨_,rfl,⟨a,c,rfl,h1,h2,h3⟩,hf⟩
theorem Au (ha:BigZ w A va x) (hb:BigZ w B vb y) (hx:Zok x) (hy:Zok y):Calls Tryz.prog 48 #[va,vb] w fun e w'=>e=.returned (.int .i64 (Bw x y))∧Fr [] w w':=by obtain⟨a,c,rfl,_,_,h3⟩:=ha;obtain⟨a',c',rfl,_,_,k3⟩:=hb;have:=Compare_calls (na:=decide (x<0)) (nb:=decide (y<0)) h3 k3 (E8 x) (E8 y) (by have:=D7 hx;omega) (by have:=D7 hy;omega);rwa [cmpS_z hx hy] at this
theorem J5 (h1:-9223372036854775808≤x) (h2:x<9223372036854775808):Calls Tryz.prog 45 #[.int .i64 x] w (D2 w x):=by refine (From_calls h1 h2).mono ?_;rw [S9 (Bb h1 h2)];rintro e w' ⟨a,c,⟨h1,h2⟩,rfl,h3,hf⟩;exact⟨_,rfl,⟨a,c,rfl,h1,h2,h3⟩,hf⟩
theorem So {n:Nat} (ha:BigZ w A va 1) (hn:n≤2047):Calls Tryz.prog 95 #[va,.int .i64 n] w (Oq w ((2 ^ n:Nat):Int)):=by obtain⟨a,c,rfl,h0,_,h3⟩:=ha;refine (O9 (neg:=decide ((1:Int)<0)) h3 (E8 1) (by have:=D7 (z:=1) (Bb o_ o_);omega) h0 o_ o_).mono ?_;rw [show decide ((1:Int)<0)=false from rfl,shift_one hn];rintro e w' ⟨a,c,⟨h1,h2⟩,rfl,h3,hf⟩;refine⟨_,rfl,⟨a,c,?_,h1,h2,h3⟩,hf⟩;rw [decide_eq_false (Int.not_lt.2 (Int.natCast_nonneg _))]
theorem X7 {k:Nat} (ha:BigZ w A va x) (hx:Zok x) (h0:0≤x) (hk:k<2048):Calls Tryz.prog 53 #[va,.int .i64 k] w fun e w'=>e=.returned (.int .i64 (x.toNat / 2 ^ k % 2:Nat))∧Fr [] w w':=by obtain⟨a,c,rfl,hc,_,h3⟩:=ha;have:=Bit_calls (neg:=decide (x<0)) (k:=k) h3 (E8 x) (by have:=D7 hx;omega) hc o_ o_;rwa [bitS_z hx h0 hk] at this
end
end Go.Proofs.YtebolidfbflkmaaGreat
namespace Go.Proofs.YtebolidfbflkmaaGreat
open Go Go.RowKit Rg Hp Bn
def Uh (w:World) (z:Int) (e:Ending) (w':World):Prop:=∃ v,e=.returned (.tuple #[v,.int .i64 0])∧BigZ w' (w.heap.size≤·) v z∧Fr [] w w'
def Rn (w:World) (z:Int) (e:Ending) (w':World):Prop:=∃ v,e=.returned v∧BigZ w' (w.heap.size≤·) v z∧Fr [] w w'
section
variable {w:World} {A B:Nat→Prop} {va vb:Value} {x y:Int}
theorem Ko (h1:-9223372036854775808≤x) (h2:x<9223372036854775808):Calls Tryz.prog 16 #[.int .i64 x] w (Rn w x):=by refine (RFrom_calls h1 h2).mono ?_;rw [S9 (Bb h1 h2)];rintro e w' ⟨a,c,⟨h1,h2⟩,rfl,h3,hf⟩;exact⟨_,rfl,⟨a,c,rfl,h1,h2,h3⟩,hf⟩
end
end Go.Proofs.YtebolidfbflkmaaGreat
namespace Go.Proofs.YtebolidfbflkmaaGreat
open Go Go.RowKit Rg Hp Bn
section
variable {w:World} {A B:Nat→Prop} {va vb:Value} {x y:Int}
theorem Qe (ha:BigZ w A va x) (hx:Zok x):Calls Tryz.prog 35 #[va] w (Rn w (-x)):=by obtain⟨a,c,rfl,h0,_,h3⟩:=ha;refine (RNeg_calls h3 (E8 x) (by have:=D7 hx;omega)).mono ?_;rw [negS_z hx];rintro e w' ⟨a,c,⟨h1,h2⟩,rfl,h3,hf⟩;exact⟨_,rfl,⟨a,c,rfl,h1,h2,h3⟩,hf⟩
end
end Go.Proofs.YtebolidfbflkmaaGreat
namespace Go.Proofs.Mp
open Go
section
variable {P:Program} {T E:TypeId} {q:IntKind} {n:Nat}
def ints (q:IntKind) (xs:List Int):Array Value:=(xs.map (Value.int q)).toArray
theorem B2 {t:TypeId} {d:TypeDesc} (h:P.underlying t=some d) (w:World):(Go.underlying t).run P w=.ok d w:=by unfold Go.underlying;simp [h]
theorem Nn {t:TypeId} {s:Nat} (h:(P.info? t).map (·.size)=some s) (w:World):(Go.sizeOf t).run P w=.ok s w:=by
 unfold Go.sizeOf Go.typeInfo;cases hi:P.info? t with
 | none=>rw [hi] at h;cases h
 | some i=>rw [hi] at h;simp at h;simp [hi,h]
theorem Dx (hE:P.underlying E=some (.int q)) {cs:Array Value} {off:Nat} {v:Value} (hv:cs[off]?=some v) (w:World):(Go.part E cs off).run P w=.ok v w:=by unfold Go.part Go.isAgg;rw [Sem.run_bind,Sem.run_bind,B2 hE];simp [hv]
theorem Pm {xs:List Int} {i:Nat} (h:i<xs.length):(ints q xs)[i]?=some (.int q (xs[i])):=by simp [ints,h]
theorem Kv (hE:P.underlying E=some (.int q)) (d:Nat) (x y:Int) (w:World):(Op.equalIn (d+1) E (.int q x) (.int q y)).run P w=.ok (x == y) w:=by unfold Op.equalIn;rw [Sem.run_bind,B2 hE];simp
theorem Vv (hE:P.underlying E=some (.int q)) (hs:(P.info? E).map (·.size)=some 1) (d:Nat) (xs ys:List Int) (hl:xs.length=ys.length):∀ (m i:Nat) (w:World),i+m=xs.length →
  (forIn (List.range' i m) ((none:Option Bool),()) (fun i s=>do
   let a ← Go.part E (ints q xs) (i*1)
   let b ← Go.part E (ints q ys) (i*1)
   let r ← Op.equalIn (d+1) E a b
   if (!r)=true then pure (ForInStep.done (some false,())) else pure (ForInStep.yield (none,())):Nat→Option Bool×Unit→Sem (ForInStep (Option Bool×Unit)))).run P w =
   .ok (if xs.drop i=ys.drop i then none else some false,()) w
 | 0,i,w,h=>by rw [List.drop_of_length_le o_,List.drop_of_length_le o_];rfl
 | m+1,i,w,h=>by
  rw [List.range'_succ,List.forIn_cons,Sem.run_bind,Sem.run_bind,Dx hE (by rw [Nat.mul_one];exact Pm o_)];simp only [Result.andThen_ok];rw [Sem.run_bind,Dx hE (by rw [Nat.mul_one];exact Pm o_)];simp only [Result.andThen_ok];rw [Sem.run_bind,Kv hE];simp only [Result.andThen_ok];have ex:xs.drop i=xs[i]::xs.drop (i+1):=List.drop_eq_getElem_cons o_;have ey:ys.drop i=ys[i]::ys.drop (i+1):=List.drop_eq_getElem_cons o_;rw [ex,ey];by_cases hxy:xs[i]=ys[i];·
   simp only [hxy,beq_self_eq_true,Bool.not_true,Bool.false_eq_true,if_false,Sem.run_pure,Result.andThen_ok,List.cons.injEq,true_and];exact Vv hE hs d xs ys hl m (i+1) w o_
  ·have hb:(xs[i] == ys[i])=false:=(by simpa using hxy);have hn:¬ (xs[i]::xs.drop (i+1)=ys[i]::ys.drop (i+1)):=fun e=>hxy (List.cons.inj e).1;rw [if_neg hn];simp [hb]
theorem E9 (hT:P.underlying T=some (.array n E)) (hE:P.underlying E=some (.int q)) (hs:(P.info? E).map (·.size)=some 1) (d:Nat) (xs ys:List Int) (hx:xs.length=n) (hy:ys.length=n) (w:World) :
  (Op.equalIn (d+2) T (.agg (ints q xs)) (.agg (ints q ys))).run P w=.ok (decide (xs=ys)) w:=by
 show Sem.run P (Op.equalIn ((d+1)+1) _ _ _) w=_;unfold Op.equalIn;rw [Sem.run_bind,B2 hT];simp only [Result.andThen_ok];rw [Sem.run_bind,Nn hs];simp only [Result.andThen_ok];rw [Sem.run_bind,Std.Legacy.Range.forIn_eq_forIn_range'];have hl:List.range' [:n].start [:n].size [:n].step=List.range' 0 n:=by simp [Std.Legacy.Range.size]
 rw [hl];have:=Vv hE hs d xs ys o_ n 0 w o_;rw [this];simp only [List.drop_zero,Result.andThen_ok];by_cases h:xs=ys<;>simp [h]
theorem Q5 (hE:P.underlying E=some (.int q)) (hs:(P.info? E).map (·.size)=some 1) (d:Nat) (e:Bool) (xs:List Int):∀ (m i:Nat) (w:World),i+m=xs.length →
  (forIn (List.range' i m) () (fun i s=>do
   let n ← Go.sizeOf E
   let a ← Go.part E (ints q xs) (i*n)
   Instr.checkKey e (d+1) E a
   pure (ForInStep.yield ()):Nat→Unit→Sem (ForInStep Unit))).run P w=.ok () w
 | 0,i,w,h=>rfl
 | m+1,i,w,h=>by
  have hc:∀ x:Int,(Instr.checkKey e (d+1) E (.int q x)).run P w=.ok () w:=by intro x;unfold Instr.checkKey;rw [Sem.run_bind,B2 hE];simp
  rw [List.range'_succ,List.forIn_cons,Sem.run_bind,Sem.run_bind,Nn hs];simp only [Result.andThen_ok];rw [Sem.run_bind,Dx hE (by rw [Nat.mul_one];exact Pm o_)];simp only [Result.andThen_ok];rw [Sem.run_bind,hc];simp only [Result.andThen_ok,Sem.run_pure];exact Q5 hE hs d e xs m (i+1) w o_
theorem run_checkKey_ints (hT:P.underlying T=some (.array n E)) (hE:P.underlying E=some (.int q)) (hs:(P.info? E).map (·.size)=some 1) (d:Nat) (e:Bool) (xs:List Int) (hx:xs.length=n) (w:World) :
  (Instr.checkKey e (d+2) T (.agg (ints q xs))).run P w=.ok () w:=by
 show Sem.run P (Instr.checkKey e ((d+1)+1) _ _) w=_;unfold Instr.checkKey;rw [Sem.run_bind,B2 hT];simp only [Result.andThen_ok];rw [Std.Legacy.Range.forIn_eq_forIn_range'];have hl:List.range' [:n].start [:n].size [:n].step=List.range' 0 n:=by simp [Std.Legacy.Range.size]
 rw [hl];rw [Sem.run_bind,Q5 hE hs d e xs n 0 w o_];rfl
theorem Ly (d:Nat) (x:Int):Instr.sameBits d (.int q x) (.int q x)=true:=by cases d<;>simp [Instr.sameBits]
theorem Sp:∀ (l:List Value),(∀ v∈l,∀ d,Instr.sameBits d v v=true)→∀ d,(l.zip l).all (fun p=>Instr.sameBits d p.1 p.2)=true
 | [],_,_=>rfl
 | v::l,h,d=>by simp only [List.zip_cons_cons,List.all_cons,Bool.and_eq_true];exact⟨h v i_ d,Sp l (fun u hu=>h u (by simp [hu])) d⟩
theorem sameBits_ints (d:Nat) (xs:List Int):Instr.sameBits (d+1) (.agg (ints q xs)) (.agg (ints q xs))=true:=by unfold Instr.sameBits;simp only [beq_self_eq_true,Bool.true_and,ints];exact Sp _ (fun v hv d=>by obtain⟨x,_,rfl⟩:=List.mem_map.1 hv;exact Ly d x) d
theorem KeysBy.ints {κ:Type} [DecidableEq κ] (f:κ→List Int) (hf:∀ a b,f a=f b→a=b) (hn:∀ a,(f a).length=n) (hT:P.underlying T=some (.array n E)) (hE:P.underlying E=some (.int q)) (hs:(P.info? E).map (·.size)=some 1) :
  KeysBy P T (fun k=>Value.agg (Mp.ints q (f k))):=by
 refine KeysBy.deep hT (fun k v=>rfl) (fun a b w=>?_) (fun e k w=>run_checkKey_ints hT hE hs 9998 e (f k) (hn k) w) fun k=>sameBits_ints 9999 (f k);have:=E9 hT hE hs 9998 (f a) (f b) (hn a) (hn b) w;show (Op.equalIn 10000 T _ _).run P w=_;rw [this];congr 1;by_cases h:a=b;·simp [h]
 ·have:¬ f a=f b:=fun e=>h (hf a b e);simp [h,this]
end
end Go.Proofs.Mp
namespace Go.Proofs.Qs
structure K4 where
 a:Int
 b:Int
 c:Int
 d:Int
 deriving DecidableEq
def lvl (s:Int) (ls:List Int) (id:Int):Int:=if id<0 then -1 else if id<s then 0 else ls.getD (id - s).toNat (-1)
def A8 (s:Int) (ns:List K4):List Int:=ns.foldl (fun ls k=>ls++[lvl s ls k.a+1]) []
theorem Fu (s:Int) (ns:List K4) (k:K4):A8 s (ns++[k])=A8 s ns++[lvl s (A8 s ns) k.a+1]:=by simp [A8]
theorem Bp (s:Int) (ns:List K4):(A8 s ns).length=ns.length:=by
 rcases List.eq_nil_or_concat ns with rfl|⟨l,x,rfl⟩
 ·rfl
 ·rw [List.concat_eq_append,Fu];simp [Bp s l]
termination_by ns.length
decreasing_by simp_all
theorem Kf (s:Int) (ns:List K4):∀ i,(A8 s ns).take i=A8 s (ns.take i):=by
 intro i;rcases List.eq_nil_or_concat ns with rfl|⟨l,x,rfl⟩
 ·simp [A8]
 ·rw [List.concat_eq_append,Fu];rcases Nat.lt_or_ge l.length i with h|h
  ·rw [List.take_of_length_le (by simp [Bp];omega),List.take_of_length_le u_',Fu]
  ·rw [List.take_append_of_le_length (by simp [Bp];omega),List.take_append_of_le_length h,Kf s l i]
termination_by ns.length
decreasing_by simp_all
def Fits (s:Int) (ns:List K4) (k:K4):Prop :=
 0≤lvl s (A8 s ns) k.a∧lvl s (A8 s ns) k.a<256∧lvl s (A8 s ns) k.b=lvl s (A8 s ns) k.a∧lvl s (A8 s ns) k.c=lvl s (A8 s ns) k.a∧lvl s (A8 s ns) k.d=lvl s (A8 s ns) k.a
instance (s:Int) (ns:List K4) (k:K4):Decidable (Fits s ns k):=by unfold Fits;exact inferInstance
def GoodQ (s:Int) (ns:List K4):Prop:=2≤s∧s≤8∧ns.length≤100000∧ns.Nodup∧∀ i k,ns[i]?=some k→Fits s (ns.take i) k
variable {s:Int}
theorem GoodQ.nil (h:2≤s) (h':s≤8):GoodQ s []:=⟨h,h',i_,i_,i_⟩
variable {ns:List K4}{k:K4}
theorem GoodQ.snoc (h:GoodQ s ns) (hk:Fits s ns k) (hn:k∉ns) (hl:ns.length<100000):GoodQ s (ns++[k]):=by
 obtain⟨h1,h2,h3,h4,h5⟩:=h;refine⟨h1,h2,by simp;omega,?_,?_⟩;·
  rw [List.nodup_append];refine⟨h4,i_,?_⟩;intro x hx y hy e;simp at hy;subst hy;subst e;exact hn hx
 ·intro i x hx;rcases Nat.lt_or_ge i ns.length with hi|hi
  ·rw [List.getElem?_append_left hi] at hx;rw [List.take_append_of_le_length o_];exact h5 i x hx
  ·have hi':i=ns.length:=by
    have:=(List.getElem?_eq_some_iff.1 hx).1;simp at this;omega
   subst hi';simp at hx;subst hx;simpa using hk
def Fj (s:Int) (ns:List K4) (k:K4):(Int×Int)×List K4 :=
 match ns.idxOf? k with
  | some i=>((s+i,0),ns)
  | none=>if 100000≤ns.length then ((0,6),ns) else ((s+ns.length,0),ns++[k])
def join (s:Int) (ns:List K4) (k:K4):(Int×Int)×List K4 :=
 if lvl s (A8 s ns) k.a<0∨lvl s (A8 s ns) k.b<0∨lvl s (A8 s ns) k.c<0∨lvl s (A8 s ns) k.d<0 then ((0,13),ns)
 else if ¬ Fits s ns k then ((0,18),ns)
 else Fj s ns k
theorem Lf {i:Nat} (h:ns.idxOf? k=some i):Fj s ns k=((s+i,0),ns):=by unfold Fj;rw [h]
theorem joinIn_full (h:ns.idxOf? k=none) (hl:100000≤ns.length):Fj s ns k=((0,6),ns):=by unfold Fj;rw [h];simp only [if_pos hl]
theorem Le (h:ns.idxOf? k=none) (hl:ns.length<100000):Fj s ns k=((s+ns.length,0),ns++[k]):=by unfold Fj;rw [h];simp only [if_neg (by omega:¬ 100000≤ns.length)]
def I1 (s:Int) (ns:List K4):List (K4×Int):=ns.zipIdx.map fun p=>(p.1,s+p.2)
theorem La (s:Int) (ns:List K4):(I1 s ns).map (·.1)=ns:=by simp [I1,List.map_map,Function.comp_def]
theorem pairs_snoc (s:Int) (ns:List K4) (k:K4):I1 s (ns++[k])=I1 s ns++[(k,s+ns.length)]:=by simp [I1,List.zipIdx_append]
theorem pairs_get (s:Int) (ns:List K4) (i:Nat):(I1 s ns)[i]?=(ns[i]?).map fun k=>(k,s+i):=by simp [I1,List.getElem?_zipIdx];cases ns[i]?<;>simp
end Go.Proofs.Qs
namespace Go.Proofs.YtebolidfbflkmaaGreat
open Go Go.RowKit Mp Hp Qs
def kl (k:K4):List Int:=[k.a,k.b,k.c,k.d]
def kv (k:K4):Value:=.agg #[.int .i64 k.a,.int .i64 k.b,.int .i64 k.c,.int .i64 k.d]
theorem Oz:(Tryz.prog.info? 3).map (·.size)=some 1:=by kernel_rfl
theorem Pj:KeysBy Tryz.prog 132 kv :=
 KeysBy.ints (q:=.i64) kl (fun a b h=>by cases a;cases b;simpa [kl] using h) (fun _=>rfl) Tryz.underlying132 Tryz.underlying3 Oz
section
variable (w:World) (a b c d:Value)
theorem U0:(Instr.index 132 (.agg #[a,b,c,d]) (.int .i64 0)).run Tryz.prog w=.ok a w:=by kernel_rfl
theorem Tz:(Instr.index 132 (.agg #[a,b,c,d]) (.int .i64 1)).run Tryz.prog w=.ok b w:=by kernel_rfl
theorem Ty:(Instr.index 132 (.agg #[a,b,c,d]) (.int .i64 2)).run Tryz.prog w=.ok c w:=by kernel_rfl
theorem Tx:(Instr.index 132 (.agg #[a,b,c,d]) (.int .i64 3)).run Tryz.prog w=.ok d w:=by kernel_rfl
end
theorem eq4 (w:World) (a b c d x y z u:Int):(Op.equalIn 10000 132 (.agg #[.int .i64 a,.int .i64 b,.int .i64 c,.int .i64 d]) (.agg #[.int .i64 x,.int .i64 y,.int .i64 z,.int .i64 u])).run Tryz.prog w =
  .ok (a == x && (b == y && (c == z && d == u))) w:=by
 refine (E9 (q:=.i64) Tryz.underlying132 Tryz.underlying3 Oz 9998 [a,b,c,d] [x,y,z,u] rfl rfl w).trans ?_;congr 1;rw [Bool.eq_iff_iff];simp
theorem eq4s (w:World) (a b c d x y z u:Int):(Op.equalIn 9999 132 (.agg #[.int .i64 a,.int .i64 b,.int .i64 c,.int .i64 d]) (.agg #[.int .i64 x,.int .i64 y,.int .i64 z,.int .i64 u])).run Tryz.prog w =
  .ok (a == x && (b == y && (c == z && d == u))) w:=by
 refine (E9 (q:=.i64) Tryz.underlying132 Tryz.underlying3 Oz 9997 [a,b,c,d] [x,y,z,u] rfl rfl w).trans ?_;congr 1;rw [Bool.eq_iff_iff];simp
attribute [go_sem] eq4 eq4s U0 Tz Ty Tx
end Go.Proofs.YtebolidfbflkmaaGreat
namespace Go.Proofs.YtebolidfbflkmaaGreat
open Go Go.RowKit Rg Mp Hp Qs
def flat (ns:List K4):List Value:=ns.flatMap fun k=>[.int .i64 k.a,.int .i64 k.b,.int .i64 k.c,.int .i64 k.d]
structure StoreIn (w:World) (b:Nat) (s:Int) (ns:List K4) (nv lv:Value) (mb:Nat):Prop where
 blk:w.heap[b]?=some (.cells #[.int .i64 s,nv,lv,.map (some mb)] 131 (0,0))
 nodes:w.ownsRow 0 183 4 nv ns.length (flat ns)
 levels:w.ownsRow 0 3 1 lv ns.length ((A8 s ns).map (Value.int .i64))
 known:MapIs w mb kv (Value.int .i64) (I1 s ns)
 ne1:b≠mb
 ne2:nv.ownBlock≠some b
 ne3:nv.ownBlock≠some mb
 ne4:lv.ownBlock≠some b
 ne5:lv.ownBlock≠some mb
 ne6:∀ g,nv.ownBlock=some g→lv.ownBlock≠some g
def D6 (b:Nat) (nv lv:Value) (mb:Nat):List Nat:=b::mb::(nv.ownBlock.toList++lv.ownBlock.toList)
def StoreAt (w:World) (b:Nat) (s:Int) (ns:List K4) (F:List Nat):Prop:=GoodQ s ns∧∃ nv lv mb,StoreIn w b s ns nv lv mb∧F=D6 b nv lv mb
variable {w w':World}{b:Nat}{s:Int}{ns:List K4}
theorem StoreIn.keep {mb:Nat} {nv lv:Value} (h:StoreIn w b s ns nv lv mb) (hk:∀ x∈D6 b nv lv mb,w'.heap[x]?=w.heap[x]?):StoreIn w' b s ns nv lv mb where
 blk:=(hk b (by simp [D6])).trans h.blk
 nodes:=oOB h.nodes fun g hg=>hk g (by simp [D6,hg])
 levels:=oOB h.levels fun g hg=>hk g (by simp [D6,hg])
 known:=h.known.of_block (hk mb (by simp [D6]))
 ne1:=h.ne1
 ne2:=h.ne2
 ne3:=h.ne3
 ne4:=h.ne4
 ne5:=h.ne5
 ne6:=h.ne6
theorem StoreIn.lt {w:World} {b mb:Nat} {s:Int} {ns:List K4} {nv lv:Value} (h:StoreIn w b s ns nv lv mb):∀ x∈D6 b nv lv mb,x<w.heap.size:=by
 intro x hx;simp only [D6,List.mem_cons,List.mem_append,Option.mem_toList] at hx;rcases hx with rfl|rfl|hx|hx
 ·exact lBk h.blk
 ·exact h.known.lt
 ·exact oLT h.nodes hx
 ·exact oLT h.levels hx
theorem StoreAt.keep {w w':World} {b:Nat} {s:Int} {ns:List K4} {F:List Nat} (h:StoreAt w b s ns F) (hk:∀ x∈F,w'.heap[x]?=w.heap[x]?):StoreAt w' b s ns F:=by obtain⟨hg,nv,lv,mb,hS,rfl⟩:=h;exact⟨hg,nv,lv,mb,hS.keep hk,rfl⟩
theorem StoreAt.lt {w:World} {b:Nat} {s:Int} {ns:List K4} {F:List Nat} (h:StoreAt w b s ns F):∀ x∈F,x<w.heap.size:=by obtain⟨hg,nv,lv,mb,hS,rfl⟩:=h;exact hS.lt
variable {F:List Nat}
theorem StoreAt.fr {G:List Nat} (h:StoreAt w b s ns F) (hf:Fr G w w') (hd:∀ x∈F,x∉G):StoreAt w' b s ns F :=
 h.keep fun x hx=>hf.block x (h.lt x hx) (hd x hx)
theorem StoreAt.drew (h:StoreAt w b s ns F) (hd:Drew w w'):StoreAt w' b s ns F:=h.keep fun x _=>by rw [hd.heap]
theorem Level_neg (b:Nat) (id:Int) (w:World) (h:id<0) :
  Calls Tryz.prog 98 #[.pointer (some ⟨b,0,none⟩),.int .i64 id] w fun e w'=>e=.returned (.int .i64 (-1))∧Drew w w':=by
 have hd:decide (id<0)=true:=by simpa using h
 go_enter Tryz.func98,Tryz.ntmps98;go_wp2;refine wT ?_;go_wp2;refine sT_ rfl ?_;go_wp2;go_ret;exact⟨rfl,(Drew.refl _).drew⟩
theorem Level_state (b:Nat) (id s:Int) (na:Option Addr) (nl nc:Nat) (w:World) (h0:w.cell? ⟨b,0,none⟩=some (.int .i64 s)) (h1:w.cell? ⟨b,1,none⟩=some (.slice na nl nc))
  (hs:0≤s) (hs2:s≤8) (hnl:nl≤100000) (hid:0≤id) (hid2:id<s) :
  Calls Tryz.prog 98 #[.pointer (some ⟨b,0,none⟩),.int .i64 id] w fun e w'=>e=.returned (.int .i64 0)∧Drew w w':=by
 have hd:decide (id<0)=false:=by simp;omega
 go_enter Tryz.func98,Tryz.ntmps98;go_wp2;refine wT ?_;go_wp2;refine sT_ rfl ?_;go_wp2;go_ret;exact⟨rfl,(Drew.refl _).drew⟩
theorem Level_far (b:Nat) (id s:Int) (na:Option Addr) (nl nc:Nat) (w:World) (h0:w.cell? ⟨b,0,none⟩=some (.int .i64 s)) (h1:w.cell? ⟨b,1,none⟩=some (.slice na nl nc))
  (hs:0≤s) (hs2:s≤8) (hnl:nl≤100000) (hid:s+nl≤id) :
  Calls Tryz.prog 98 #[.pointer (some ⟨b,0,none⟩),.int .i64 id] w fun e w'=>e=.returned (.int .i64 (-1))∧Drew w w':=by
 have hd:decide (id<0)=false:=by simp;omega
 go_enter Tryz.func98,Tryz.ntmps98;go_wp2;refine wT ?_;go_wp2;refine sT_ rfl ?_;go_wp2;go_ret;exact⟨rfl,(Drew.refl _).drew⟩
theorem Level_node (b:Nat) (s:Int) (k:Nat) (na:Option Addr) (nl nc nl' nc' lb:Nat) (v:Int) (w:World) (h0:w.cell? ⟨b,0,none⟩=some (.int .i64 s)) (h1:w.cell? ⟨b,1,none⟩=some (.slice na nl nc))
  (h2:w.cell? ⟨b,2,none⟩=some (.slice (some ⟨lb,0,none⟩) nl' nc')) (hs:0≤s) (hs2:s≤8) (hnl:nl≤100000) (hid:k<nl) (hid':k<nl') (hc:w.cell? ⟨lb,k,none⟩=some (.int .i64 v)) :
  Calls Tryz.prog 98 #[.pointer (some ⟨b,0,none⟩),.int .i64 (s+k)] w fun e w'=>e=.returned (.int .i64 v)∧Drew w w':=by
 have hw1:IntKind.i64.wrap (s+↑k - s)=↑k:=IntWalk.i64_in _ o_ |>.trans o_;go_enter Tryz.func98,Tryz.ntmps98;go_wp2;refine wT ?_;go_wp2;refine sT_ rfl ?_;go_wp2;refine wT ?_;go_wp2;refine sT_ rfl ?_;go_wp2;go_ret;exact⟨rfl,(Drew.refl _).drew.drew⟩
theorem K3 (hS:StoreAt w b s ns F) (id:Int) :
  Calls Tryz.prog 98 #[.pointer (some ⟨b,0,none⟩),.int .i64 id] w fun e w'=>e=.returned (.int .i64 (lvl s (A8 s ns) id))∧Drew w w':=by
 obtain⟨⟨hs,hs2,hl,_⟩,nv,lv,mb,hI,rfl⟩:=hS;obtain⟨na,nc,rfl,_⟩:=oFM hI.nodes;obtain⟨la,lc,rfl,hla,_⟩:=oFM hI.levels;have h0:w.cell? ⟨b,0,none⟩=some (.int .i64 s):=hEC hI.blk 0;have h1:w.cell? ⟨b,1,none⟩=some (.slice na ns.length nc):=hEC hI.blk 1;have h2:w.cell? ⟨b,2,none⟩=some (.slice la ns.length lc):=hEC hI.blk 2;have hlen:=Bp s ns;unfold lvl;by_cases hneg:id<0;·rw [if_pos hneg];exact Level_neg b id w hneg
 ·rw [if_neg hneg];by_cases hst:id<s;·rw [if_pos hst];exact Level_state b id s na _ nc w h0 h1 o_ hs2 hl o_ hst
  ·rw [if_neg hst];by_cases hfar:s+ns.length≤id;·
    rw [List.getD_eq_getElem?_getD,List.getElem?_eq_none o_];exact Level_far b id s na _ nc w h0 h1 o_ hs2 hl hfar
   ·obtain⟨k,rfl⟩:∃ k:Nat,id=s+k:=⟨(id - s).toNat,o_⟩;obtain⟨g,rfl⟩:=hla o_;have hk:k<(A8 s ns).length:=o_;have hk':(s+↑k - s).toNat=k:=o_;rw [hk',List.getD_eq_getElem?_getD,List.getElem?_eq_getElem hk];exact Level_node b s k na _ nc _ lc g _ w h0 h1 h2 o_ hs2 hl o_ o_ (An hI.levels rfl (by simp [hk]))
variable {k:K4}{i:Nat}
theorem U5 (h:ns.idxOf? k=some i):get? (I1 s ns) k=some (s+i):=by
 unfold get?;rw [La,h];have hi:i<ns.length:=by rw [List.idxOf?_eq_some_iff] at h;exact h.1
 simp [pairs_get,hi]
theorem Ki (h:ns.idxOf? k=none):get? (I1 s ns) k=none:=by unfold get?;rw [La,h];rfl
theorem put_miss (h:ns.idxOf? k=none):put (I1 s ns) k (s+ns.length)=I1 s (ns++[k]):=by unfold put;rw [La,h,pairs_snoc]
theorem flat_snoc (ns:List K4) (k:K4):flat (ns++[k])=flat ns++[.int .i64 k.a,.int .i64 k.b,.int .i64 k.c,.int .i64 k.d]:=by simp [flat]
theorem R6:(Tryz.prog.info? 183).map (fun i=>(i.zero,i.size,i.bytes))=some (some (.agg #[.int .i64 0,.int .i64 0,.int .i64 0,.int .i64 0]),4,32):=by kernel_rfl
theorem info_int:(Tryz.prog.info? 3).map (fun i=>(i.zero,i.size,i.bytes))=some (some (.int .i64 0),1,8):=by kernel_rfl
theorem Ds (w:World):(zeroValue 3).run Tryz.prog w=.ok (.int .i64 0) w:=by kernel_rfl
def JoinPost (w:World) (b:Nat) (s:Int) (ns:List K4) (F:List Nat) (k:K4) (e:Ending) (w':World):Prop :=
 e=.returned (.tuple #[.int .i64 (join s ns k).1.1,.int .i64 (join s ns k).1.2])∧∃ F',StoreAt w' b s (join s ns k).2 F'∧Fr F w w'∧(∀ x∈F',x∈F∨w.heap.size≤x)
variable {r e:Int}
theorem JoinPost.same (hS:StoreAt w b s ns F) (hf:Fr [] w w') (hj:join s ns k=((r,e),ns)) :
  JoinPost w b s ns F k (.returned (.tuple #[.int .i64 r,.int .i64 e])) w':=by
 unfold JoinPost;rw [hj];exact⟨rfl,F,hS.fr hf i_,hf.mono i_,fun x hx=>.inl hx⟩
theorem Lm (hS:StoreAt w b s ns F) (k:K4) :
  Calls Tryz.prog 82 #[.pointer (some ⟨b,0,none⟩),.int .i64 k.a,.int .i64 k.b,.int .i64 k.c,.int .i64 k.d] w (JoinPost w b s ns F k):=by
 have hL:∀ w1,Fr [] w w1→∀ id,Calls Tryz.prog 98 #[.pointer (some ⟨b,0,none⟩),.int .i64 id] w1 fun e w'=>e=.returned (.int .i64 (lvl s (A8 s ns) id))∧Drew w1 w':=fun w1 hf id=>K3 (hS.fr hf i_) id;have ea:=(hL · · k.a);have eb:=(hL · · k.b);have ec:=(hL · · k.c);have ed:=(hL · · k.d);clear hL;generalize hla:lvl s (A8 s ns) k.a=la at *
 generalize hlb:lvl s (A8 s ns) k.b=lb at *
 generalize hlc:lvl s (A8 s ns) k.c=lc at *
 generalize hld:lvl s (A8 s ns) k.d=ld at *
 have Hla:=q_ hla;have Hlb:=q_ hlb;have Hlc:=q_ hlc;have Hld:=q_ hld;clear hla hlb hlc hld;go_enter Tryz.func82,Tryz.ntmps82;go_wp2;refine wp_loop_rounds 5 ?_;rw [rounds_succ];go_wp2_with fail;refine (ea _ ?_).mono ?_;·repeat (first|exact Fr.refl _ _|apply Fr.drewN|apply Fr.drew|apply Fr.alloc)
 rintro e w' ⟨rfl,n1,rfl⟩;go_wp2;·
  go_ret2;refine JoinPost.same hS (by repeat (first|exact Fr.refl _ _|apply Fr.drewN|apply Fr.drew|apply Fr.alloc|refine Fr.setCell ?_ (Or.inr i_) _)) ?_;have h:la<0:=by assumption
  simp [join,Hla.o,h]
 rw [rounds_succ];go_wp2_with fail;refine (eb _ ?_).mono ?_;·repeat (first|exact Fr.refl _ _|apply Fr.drewN|apply Fr.drew|apply Fr.alloc|refine Fr.setCell ?_ (Or.inr i_) _)
 rintro e w' ⟨rfl,n2,rfl⟩;go_wp2;·
  go_ret2;refine JoinPost.same hS (by repeat (first|exact Fr.refl _ _|apply Fr.drewN|apply Fr.drew|apply Fr.alloc|refine Fr.setCell ?_ (Or.inr i_) _)) ?_;have h:lb<0:=by assumption
  simp [join,Hlb.o,h]
 rw [rounds_succ];go_wp2_with fail;refine (ec _ ?_).mono ?_;·repeat (first|exact Fr.refl _ _|apply Fr.drewN|apply Fr.drew|apply Fr.alloc|refine Fr.setCell ?_ (Or.inr i_) _)
 rintro e w' ⟨rfl,n3,rfl⟩;go_wp2;·
  go_ret2;refine JoinPost.same hS (by repeat (first|exact Fr.refl _ _|apply Fr.drewN|apply Fr.drew|apply Fr.alloc|refine Fr.setCell ?_ (Or.inr i_) _)) ?_;have h:lc<0:=by assumption
  simp [join,Hlc.o,h]
 rw [rounds_succ];go_wp2_with fail;refine (ed _ ?_).mono ?_;·repeat (first|exact Fr.refl _ _|apply Fr.drewN|apply Fr.drew|apply Fr.alloc|refine Fr.setCell ?_ (Or.inr i_) _)
 rintro e w' ⟨rfl,n4,rfl⟩;go_wp2;·
  go_ret2;refine JoinPost.same hS (by repeat (first|exact Fr.refl _ _|apply Fr.drewN|apply Fr.drew|apply Fr.alloc|refine Fr.setCell ?_ (Or.inr i_) _)) ?_;have h:ld<0:=by assumption
  simp [join,Hld.o,h]
 rw [rounds_succ];go_wp2
 rotate_right
 ·go_ret2;refine JoinPost.same hS (by repeat (first|exact Fr.refl _ _|apply Fr.drewN|apply Fr.drew|apply Fr.alloc|refine Fr.setCell ?_ (Or.inr i_) _)) ?_;have h:¬(lb=la∧lc=la∧ld=la):=by assumption
  unfold join;rw [if_neg (by rw [Hla.o,Hlb.o,Hlc.o,Hld.o];omega),if_pos (by unfold Fits;rw [Hla.o,Hlb.o,Hlc.o,Hld.o];omega)]
 ·go_ret2;refine JoinPost.same hS (by repeat (first|exact Fr.refl _ _|apply Fr.drewN|apply Fr.drew|apply Fr.alloc|refine Fr.setCell ?_ (Or.inr i_) _)) ?_;have h:256≤la:=by assumption
  unfold join;rw [if_neg (by rw [Hla.o,Hlb.o,Hlc.o,Hld.o];omega),if_pos (by unfold Fits;rw [Hla.o,Hlb.o,Hlc.o,Hld.o];omega)]
 have hfit:Fits s ns k:=by
  have h1:lb=la∧lc=la∧ld=la:=by assumption
  have h2:la<256:=by assumption
  unfold Fits;rw [Hla.o,Hlb.o,Hlc.o,Hld.o];omega
 have hjoin:join s ns k=Fj s ns k:=by unfold join;rw [if_neg (by rw [Hla.o,Hlb.o,Hlc.o,Hld.o];omega),if_neg (by simpa using hfit)]
 have Hj:=q_ hjoin;clear hjoin;refine aBW (fun W=>Fr [] w W∧W.heap.size=w.heap.size+2∧W.heap[w.heap.size]?=some (.cells #[.int .i64 k.a,.int .i64 k.b,.int .i64 k.c,.int .i64 k.d] 132 (0,0)) ∧
  W.heap[w.heap.size+1]?=some (.cells #[.int .i64 la,.int .i64 la,.int .i64 la,.int .i64 la] 132 (0,0))) ?_ ?_
 ·refine⟨by repeat (first|exact Fr.refl _ _|apply Fr.drewN|apply Fr.drew|apply Fr.alloc|refine Fr.setCell ?_ (Or.inr i_) _),by simp only [hDN,hAz,hSz],?_,?_⟩;·simp only [hDN,hAz,hAC,hSC,show ¬ (w.heap.size=w.heap.size+1) by omega,if_true,if_false]
  ·simp only [hDN,hAz,hAC,hSC,if_true,Option.map_some,uPC,List.set_cons_zero,List.set_cons_succ]
 rintro W ⟨hW,hsz,hk0,hk1⟩;clear ea eb ec ed;have hSW:=hS.fr hW i_;obtain⟨hgood,nv,lv,mb,hI,rfl⟩:=hSW;have hSW':StoreAt W b s ns (D6 b nv lv mb):=⟨hgood,nv,lv,mb,hI,rfl⟩;obtain⟨na,nc,rfl,hx1⟩:=oFM hI.nodes;obtain⟨la',lc',rfl,hx2⟩:=oFM hI.levels;clear hx1 hx2;have hlen:ns.length≤100000:=hgood.2.2.1;have hs1:2≤s:=hgood.1;have hs2:s≤8:=hgood.2.1;have b0:W.cell? ⟨b,0,none⟩=some (.int .i64 s):=hEC hI.blk 0;have b1:W.cell? ⟨b,1,none⟩=some (.slice na ns.length nc):=hEC hI.blk 1;have b2:W.cell? ⟨b,2,none⟩=some (.slice la' ns.length lc'):=hEC hI.blk 2;have b3:W.cell? ⟨b,3,none⟩=some (.map (some mb)):=hEC hI.blk 3;have k0:W.cell? ⟨w.heap.size,0,none⟩=some (.int .i64 k.a):=hEC hk0 0;have k1:W.cell? ⟨w.heap.size,1,none⟩=some (.int .i64 k.b):=hEC hk0 1;have k2:W.cell? ⟨w.heap.size,2,none⟩=some (.int .i64 k.c):=hEC hk0 2;have k3:W.cell? ⟨w.heap.size,3,none⟩=some (.int .i64 k.d):=hEC hk0 3;have HB:=q_ hI;have Hsz:=q_ hsz;have hle:w.heap.size+1<W.heap.size:=o_
 clear hsz;have HK0:=q_ hk0;have HK1:=q_ hk1;clear hI hk0 hk1;refine wT ?_;cases hfind:ns.idxOf? k with
 | some i =>go_wp2_with (at_lookup;refine Bc (f:=kv) (g:=Value.int .i64) (k:=k) (z:=.int .i64 0) rfl rfl rfl rfl (HB.o.known.of_block rfl) Tryz.underlying128 Pj (Ds _) (U5 hfind) ?_);refine sT_ rfl ?_;go_wp2;go_ret2;refine JoinPost.same hS (hW.drew) ?_;rw [Hj.o,Lf hfind]
 | none =>
  have l0:W.cell? ⟨w.heap.size+1,0,none⟩=some (.int .i64 la):=hEC HK1.o 0;by_cases hfull:ns.length<100000;·
   have hd:decide ((100000:Int)≤↑ns.length)=false:=u_';have Hlen:=q_ hlen;have Hfull:=q_ hfull;clear hlen hfull;have hl:ns.length≤1048576:=(by have:=Hlen.o;omega);go_wp2_with (at_lookup;refine Ad (f:=kv) (g:=Value.int .i64) (k:=k) (z:=.int .i64 0) rfl rfl rfl rfl (HB.o.known.of_block rfl) Tryz.underlying128 Pj (Ds _) (Ki hfind) ?_);refine sT_ rfl ?_;go_wp2_with fail;refine wT ?_;go_wp2;refine sT_ rfl ?_;go_wp2;obtain⟨i0,hi0,hi1,hi2,hi3⟩:=info_parts R6;obtain⟨j0,hj0,hj1,hj2,hj3⟩:=info_parts info_int;refine wT ?_;go_wp2_with (at_builtin;refine wpList_append_lies _ rfl _ _ 129 rfl 0 183 i0 _ 4 32 Tryz.underlying129 hi0 hi1 hi2 hi3 rfl (by decide) (.slice na ns.length nc) ns.length (flat ns) rfl ?e2 _ 1 1 [.int .i64 k.a,.int .i64 k.b,.int .i64 k.c,.int .i64 k.d] rfl rfl ?e3 ?e4 (by decide) ?e5 ?e6 (Nat.zero_le _) _ rfl ?_);case e2=>exact oOB HB.o.nodes fun x hx=>hAE _ _ _ (oLT HB.o.nodes hx)
   case e3 =>
    intro j u hj;have hsz':(W.alloc (.cells #[.int .i64 k.a,.int .i64 k.b,.int .i64 k.c,.int .i64 k.d] 183)).heap[W.heap.size]?=some (.cells #[.int .i64 k.a,.int .i64 k.b,.int .i64 k.c,.int .i64 k.d] 183):=by rw [hAC,if_pos rfl]
    have:=J4 hsz' j;rw [show (World.drew (World.drew (World.drew (W.alloc (.cells #[.int .i64 k.a,.int .i64 k.b,.int .i64 k.c,.int .i64 k.d] 183))))).cell? _=_ from this];simpa using hj
   case e4=>intro u hu;simp at hu;rcases hu with rfl|rfl|rfl|rfl<;>rfl
   case e5=>unfold maxLen;omega
   case e6=>omega
   intro g cap w1 hown1 hgrow1 hloc1 hg1;have hW1:∀ x,x<W.heap.size→(Value.slice na ns.length nc).ownBlock≠some x→w1.heap[x]?=W.heap[x]?:=fun x hx hn=>(hgrow1.block x (by rw [hDR,hDR,hDR,hAz];omega) (fun e=>hn e.symm)).trans (hAE _ _ _ hx);have hsz1:W.heap.size+1≤w1.heap.size:=by have:=hgrow1.size;rw [hDR,hDR,hDR,hAz] at this;exact this
   have hbW:=lBk HB.o.blk;have hb1:=(hW1 b hbW HB.o.ne2).trans HB.o.blk;obtain⟨c0,c1,c2,c3⟩:=e4_ hb1;have f1:=hEF hb1 1;have Hown1:=q_ hown1;have Hgrow1:=q_ hgrow1;have Hloc1:=q_ hloc1;have HW1:=q_ hW1;clear hown1 hgrow1 hloc1 hW1 hb1;go_wp2;refine sT_ rfl ?_;go_wp2;refine aBW (fun V=>V.heap.size=w1.heap.size∧(∀ x,x≠b→V.heap[x]?=w1.heap[x]?) ∧
    V.heap[b]?=some (.cells #[.int .i64 s,.slice (some ⟨g,0,none⟩) (ns.length+1) cap,.slice la' ns.length lc',.map (some mb)] 131 (0,0))∧Fr (D6 b (.slice na ns.length nc) (.slice la' ns.length lc') mb) W V) ?_ ?_
   ·refine⟨by simp only [hSz],fun x hx=>?_,?_,?_⟩;·simp only [hSC,if_neg hx]
    ·simp only [hSC,if_true,(HW1.o b hbW HB.o.ne2).trans HB.o.blk,Option.map_some,uPC,List.set_cons_zero,List.set_cons_succ]
    ·refine (((((((Fr.refl _ W).alloc _).drew).drew).drew).grown Hgrow1.o fun x hx=>.inl ?_).setCell (.inl ?_) _);·simp [D6,hx]
     ·simp [D6]
   rintro V ⟨hVs,hVo,hVb,hVf⟩;have hV:∀ x,x<W.heap.size→x≠b→(Value.slice na ns.length nc).ownBlock≠some x→V.heap[x]?=W.heap[x]?:=fun x hx hn hn'=>(hVo x hn).trans (HW1.o x hx hn');have hVl:V.ownsRow 0 3 1 (.slice la' ns.length lc') ns.length ((A8 s ns).map (Value.int .i64)):=oOB HB.o.levels fun x hx=>hV x (oLT HB.o.levels hx) (fun e=>HB.o.ne4 (by rw [hx,e])) fun e=>HB.o.ne6 x e hx;have hbnew:∀ x,w.heap.size≤x→x<w.heap.size+2→V.heap[x]?=W.heap[x]?:=fun x hx hx'=>by
    have hSx:=hS.lt;refine hV x (by have:=Hsz.o;omega) (fun e=>?_) fun e=>?_;·have:=hSx b (by simp [D6]);omega
    ·have:=hSx x (by simp [D6,e]);omega
   have v1:V.cell? ⟨w.heap.size+1,0,none⟩=some (.int .i64 la):=hEC ((hbnew _ o_ o_).trans HK1.o) 0;obtain⟨d0,d1,d2,d3⟩:=e4_ hVb;have e2:=hEF hVb 2;have HVo:=q_ hVo;have HV:=q_ hV;have HVb:=q_ hVb;have HVf:=q_ hVf;have HVl:=q_ hVl;have HVs:=q_ hVs;have Hbnew:=q_ hbnew;clear hVo hV hVb hVf hVl hVs hbnew b0 b1 b2 b3 c0 c1 c2 c3 f1 k0 k1 k2 k3 l0;have hla0:0≤la:=(by assumption);have hla1:la<256:=(by assumption);refine wT ?_;go_wp2_with (at_builtin;refine wpList_append_lies _ rfl _ _ 72 rfl 0 3 j0 _ 1 8 Tryz.underlying72 hj0 hj1 hj2 hj3 rfl (by decide) (.slice la' ns.length lc') ns.length ((A8 s ns).map (Value.int .i64)) rfl ?e2 _ 1 1 [.int .i64 (la+1)] rfl rfl ?e3 ?e4 (by decide) ?e5 ?e6 (Nat.zero_le _) _ rfl ?_);case e2=>exact oOB HVl.o fun x hx=>hAE _ _ _ (oLT HVl.o hx)
   case e3 =>
    intro j u hj;have hsz':(V.alloc (.cells #[.int .i64 (la+1)] 3)).heap[V.heap.size]?=some (.cells #[.int .i64 (la+1)] 3):=by rw [hAC,if_pos rfl]
    have:=J4 hsz' j;rw [show (World.drew (V.alloc (.cells #[.int .i64 (la+1)] 3))).cell? _=_ from this];simpa using hj
   case e4=>intro u hu;simp at hu;subst hu;rfl
   case e5=>unfold maxLen;omega
   case e6=>omega
   intro g2 cap2 w2 hown2 hgrow2 hloc2 hg2;have hbV:b<V.heap.size:=lBk HVb.o;have hW2:∀ x,x<V.heap.size→(Value.slice la' ns.length lc').ownBlock≠some x→w2.heap[x]?=V.heap[x]?:=fun x hx hn=>(hgrow2.block x (by rw [hDR,hAz];omega) (fun e=>hn e.symm)).trans (hAE _ _ _ hx);have hb2:=(hW2 b hbV HB.o.ne4).trans HVb.o;obtain⟨c0,c1,c2,c3⟩:=e4_ hb2;have f2:=hEF hb2 2;have Hown2:=q_ hown2;have Hgrow2:=q_ hgrow2;have Hloc2:=q_ hloc2;have HW2:=q_ hW2;clear hown2 hgrow2 hloc2 hW2 hb2;go_wp2;refine sT_ rfl ?_;go_wp2;refine aBW (fun U=>(∀ x,x≠b→U.heap[x]?=w2.heap[x]?) ∧
    U.heap[b]?=some (.cells #[.int .i64 s,.slice (some ⟨g,0,none⟩) (ns.length+1) cap,.slice (some ⟨g2,0,none⟩) (ns.length+1) cap2,.map (some mb)] 131 (0,0)) ∧
    Fr (D6 b (.slice na ns.length nc) (.slice la' ns.length lc') mb) W U) ?_ ?_
   ·refine⟨fun x hx=>?_,?_,?_⟩;·simp only [hSC,if_neg hx]
    ·simp only [hSC,if_true,(HW2.o b hbV HB.o.ne4).trans HVb.o,Option.map_some,uPC,List.set_cons_zero,List.set_cons_succ]
    ·refine HVf.o.trans (((((Fr.refl (D6 b (.slice na ns.length nc) (.slice la' ns.length lc') mb) V).alloc _).drew).grown Hgrow2.o fun x hx=>.inl ?_).setCell (.inl ?_) _) fun x hx=>.inl hx;·simp [D6,hx]
     ·simp [D6]
   rintro U ⟨hUo,hUb,hUf⟩;have hU:∀ x,x<W.heap.size→x≠b→(Value.slice na ns.length nc).ownBlock≠some x→(Value.slice la' ns.length lc').ownBlock≠some x→U.heap[x]?=W.heap[x]?:=fun x hx h1 h2 h3 =>
    (hUo x h1).trans ((HW2.o x (by have:=HVs.o;omega) h3).trans (HV.o x hx h1 h2))
   have hmbW:mb<W.heap.size:=HB.o.known.lt;have hmap:MapIs U mb kv (Value.int .i64) (I1 s ns):=HB.o.known.of_block (hU mb hmbW (fun e=>HB.o.ne1 e.symm) HB.o.ne3 HB.o.ne5);have hkid:U.heap[w.heap.size]?=some (.cells #[.int .i64 k.a,.int .i64 k.b,.int .i64 k.c,.int .i64 k.d] 132 (0,0)):=by
    have hSx:=hS.lt;refine (hU _ o_ (fun e=>?_) (fun e=>?_) fun e=>?_).trans HK0.o;·have:=hSx b (by simp [D6]);omega
    ·have:=hSx w.heap.size (by simp [D6,e]);omega
    ·have:=hSx w.heap.size (by simp [D6,e]);omega
   obtain⟨k0,k1,k2,k3⟩:=e4_ hkid;obtain⟨d0,d1,d2,d3⟩:=e4_ hUb;have HUo:=q_ hUo;have HUb:=q_ hUb;have HUf:=q_ hUf;have Hmap:=q_ hmap;have Hkid:=q_ hkid;have HU:=q_ hU;clear hUo hUb hUf hmap hkid hU c0 c1 c2 c3 f2 v1 e2;refine wT ?_;go_wp2_with (at_mapUpdate;refine Br (f:=kv) (g:=Value.int .i64) (k:=k) (v:=s+ns.length) rfl rfl rfl rfl rfl (Hmap.o.of_block rfl) Tryz.underlying128 Pj ?_);intro q hq;go_wp2;refine sT_ rfl ?_;go_wp2;go_ret2;have hput:=put_miss (s:=s) hfind;rw [hput] at hq;have hjn:join s ns k=((s+ns.length,0),ns++[k]):=(by rw [Hj.o,Le hfind Hfull.o]);have hg1l:g<w1.heap.size:=hg1;have hgb:g≠b:=fun e=>by
    rcases Hloc1.o with h|h
    ·exact HB.o.ne2 (by rw [h,e])
    ·omega
   have hgm:g≠mb:=fun e=>by
    rcases Hloc1.o with h|h
    ·exact HB.o.ne3 (by rw [h,e])
    ·omega
   have hgl:(Value.slice la' ns.length lc').ownBlock≠some g:=fun e=>by
    rcases Hloc1.o with h|h
    ·exact HB.o.ne6 g h e
    ·have:=oLT HB.o.levels e;omega
   have hg2b:g2≠b:=fun e=>by
    rcases Hloc2.o with h|h
    ·exact HB.o.ne4 (by rw [h,e])
    ·omega
   have hg2m:g2≠mb:=fun e=>by
    rcases Hloc2.o with h|h
    ·exact HB.o.ne5 (by rw [h,e])
    ·have:=HVs.o;omega
   have hgg:g2≠g:=fun e=>by
    rcases Hloc2.o with h|h
    ·exact hgl (by rw [h,e])
    ·have:=HVs.o;omega
   unfold JoinPost;rw [hjn];have hset:∀ x,x≠mb→(U.heap.setIfInBounds mb q)[x]?=U.heap[x]?:=fun x hx=>(by rw [Array.getElem?_setIfInBounds_ne fun e=>hx e.symm]);refine⟨rfl,D6 b (.slice (some ⟨g,0,none⟩) (ns.length+1) cap) (.slice (some ⟨g2,0,none⟩) (ns.length+1) cap2) mb,?_,?_,?_⟩;·
    refine⟨hgood.snoc hfit (by simpa using hfind) Hfull.o,_,_,mb,⟨?_,?_,?_,hq,HB.o.ne1,?_,?_,?_,?_,?_⟩,rfl⟩;·exact (hset b HB.o.ne1).trans HUb.o
    ·rw [flat_snoc,List.length_append,List.length_singleton];refine oOB Hown1.o fun x hx=>?_;obtain rfl:g=x:=(by simpa [Value.ownBlock] using hx);exact (hset g hgm).trans ((HUo.o g hgb).trans ((HW2.o g (by have:=HVs.o;omega) hgl).trans (HVo.o g hgb)))
    ·rw [Fu,List.map_append,List.length_append,List.length_singleton,Hla.o];refine oOB Hown2.o fun x hx=>?_;obtain rfl:g2=x:=(by simpa [Value.ownBlock] using hx);exact (hset g2 hg2m).trans (HUo.o g2 hg2b)
    ·simpa [Value.ownBlock] using hgb
    ·simpa [Value.ownBlock] using hgm
    ·simpa [Value.ownBlock] using hg2b
    ·simpa [Value.ownBlock] using hg2m
    ·intro x hx;obtain rfl:g=x:=by simpa [Value.ownBlock] using hx
     simpa [Value.ownBlock] using hgg
   ·refine ((hW.mono i_).trans HUf.o fun x hx=>.inl hx).trans ((((Fr.refl [mb] U).drew).setBlock (.inl i_) q)) fun x hx=>.inl ?_;simp at hx;subst hx;simp [D6]
   ·intro x hx;have hwW:w.heap.size≤W.heap.size:=o_
    simp only [D6,List.mem_cons,List.mem_append,Option.mem_toList,Value.ownBlock,Option.some.injEq] at hx;rcases hx with rfl|rfl|rfl|rfl
    ·left;simp [D6]
    ·left;simp [D6]
    ·rcases Hloc1.o with h|h
     ·left;simp [D6,h]
     ·right;omega
    ·rcases Hloc2.o with h|h
     ·left;simp [D6,h]
     ·right;have:=HVs.o;omega
  ·have hd:decide ((100000:Int)≤↑ns.length)=true:=u_';have Hlen:=q_ hlen;have Hfull:=q_ hfull;clear hlen hfull;go_wp2_with (at_lookup;refine Ad (f:=kv) (g:=Value.int .i64) (k:=k) (z:=.int .i64 0) rfl rfl rfl rfl (HB.o.known.of_block rfl) Tryz.underlying128 Pj (Ds _) (Ki hfind) ?_);refine sT_ rfl ?_;go_wp2_with fail;go_ret2;refine JoinPost.same hS (hW.drew) ?_;rw [Hj.o,joinIn_full hfind (by have:=Hfull.o;omega)]
theorem New_ok (s:Int) (w:World) (h:2≤s) (h':s≤8) :
  Calls Tryz.prog 38 #[.int .i64 s] w fun e w'=>∃ b F,e=.returned (.tuple #[.pointer (some ⟨b,0,none⟩),.int .i64 0])∧StoreAt w' b s [] F∧Fr [] w w'∧∀ x∈F,w.heap.size≤x:=by
 have hmm:=@run_makeMap Tryz.prog;go_enter Tryz.func38,Tryz.ntmps38;go_wp2;go_ret2;have hb:((w.alloc (.map #[] 0)).alloc (.cells #[.int .i64 s,.slice none 0 0,.slice none 0 0,.map (some w.heap.size)] 131)).heap[w.heap.size+1]?=some (.cells #[.int .i64 s,.slice none 0 0,.slice none 0 0,.map (some w.heap.size)] 131 (0,0)):=by rw [hAC,hAz,if_pos rfl]
 refine⟨w.heap.size+1,D6 (w.heap.size+1) (.slice none 0 0) (.slice none 0 0) w.heap.size,rfl,⟨GoodQ.nil h h',_,_,w.heap.size,⟨hb,World.ownsRow_nil _ _ _ _,World.ownsRow_nil _ _ _ _,?_,o_,by simp [Value.ownBlock],by simp [Value.ownBlock],by simp [Value.ownBlock],by simp [Value.ownBlock],by simp [Value.ownBlock]⟩,rfl⟩,((Fr.refl _ _).alloc _).alloc _,?_⟩;·
  refine (MapIs.made w).of_block ?_;rw [hAC,hAz,if_neg o_];rfl
 ·intro x hx;simp [D6,Value.ownBlock] at hx;omega
def Ld (s:Int) (ns:List K4) (id:Int):K4×Bool:=if id<s then (⟨0,0,0,0⟩,false) else match ns[(id - s).toNat]? with
 | some k=>(k,true)
 | none=>(⟨0,0,0,0⟩,false)
theorem flat_get (h:ns[i]?=some k):(flat ns)[4*i]?=some (.int .i64 k.a)∧(flat ns)[4*i+1]?=some (.int .i64 k.b)∧(flat ns)[4*i+2]?=some (.int .i64 k.c)∧(flat ns)[4*i+3]?=some (.int .i64 k.d):=by
 induction ns generalizing i with
 | nil=>simp at h
 | cons x ns ih =>
  cases i with
  | zero=>simp at h;subst h;simp [flat]
  | succ i =>simp at h;have:=ih h;rw [show 4*(i+1)=4*i+4 by omega];simpa [flat] using this
theorem flat_length (ns:List K4):(flat ns).length=ns.length*4:=by
 induction ns with
 | nil=>rfl
 | cons x ns ih=>simp [flat] at ih ⊢;omega
theorem lvl_pos (h:GoodQ s ns) (hi:ns[i]?=some k):∃ l,(A8 s ns)[i]?=some l∧1≤l∧l≤256∧l=lvl s (A8 s (ns.take i)) k.a+1:=by
 have hlt:i<ns.length:=(List.getElem?_eq_some_iff.1 hi).1;have hf:=h.2.2.2.2 i k hi;have ht:ns.take (i+1)=ns.take i++[k]:=by rw [List.take_add_one,hi];rfl
 have h1:(A8 s ns).take (i+1)=A8 s (ns.take i)++[lvl s (A8 s (ns.take i)) k.a+1]:=by rw [Kf,ht,Fu]
 have h2:(A8 s ns)[i]?=some (lvl s (A8 s (ns.take i)) k.a+1):=by
  have:=congrArg (fun l:List Int=>l[i]?) h1;simp only [List.getElem?_take,Nat.lt_succ_self,if_true] at this;have hln:(A8 s (ns.take i)).length=i:=by rw [Bp,List.length_take];omega
  rw [this,List.getElem?_append_right o_,hln];simp
 exact⟨_,h2,by have:=hf.1;omega,by have:=hf.2.1;omega,rfl⟩
theorem X2 (b:Nat) (id l:Int) (w:World) (hl:l<1) (hL:∀ w1,Fr [] w w1→Calls Tryz.prog 98 #[.pointer (some ⟨b,0,none⟩),.int .i64 id] w1 fun e w'=>e=.returned (.int .i64 l)∧Drew w1 w') :
  Calls Tryz.prog 106 #[.pointer (some ⟨b,0,none⟩),.int .i64 id] w fun e w'=>e=.returned (.tuple #[.agg #[.int .i64 0,.int .i64 0,.int .i64 0,.int .i64 0],.bool false])∧Fr [] w w':=by
 go_enter Tryz.func106,Tryz.ntmps106;go_wp2_with fail;refine (hL _ ?_).mono ?_;·repeat (first|exact Fr.refl _ _|apply Fr.drewN|apply Fr.drew|apply Fr.alloc)
 rintro e w' ⟨rfl,n1,rfl⟩;go_wp2;exact bodyPost_ret (v:=.tuple #[.agg #[.int .i64 0,.int .i64 0,.int .i64 0,.int .i64 0],.bool false]) (by simp [results,Tryz.results106,go_sem]) rfl
  ⟨rfl,by repeat (first|exact Fr.refl _ _|apply Fr.drewN|apply Fr.drew|apply Fr.alloc|refine Fr.setCell ?_ (Or.inr i_) _)⟩
theorem Kids_yes (b:Nat) (s l:Int) (i:Nat) (n nc g:Nat) (k:K4) (w:World) (hl:1≤l) (hb:b<w.heap.size) (hg:g<w.heap.size) (h0:w.cell? ⟨b,0,none⟩=some (.int .i64 s)) (h1:w.cell? ⟨b,1,none⟩=some (.slice (some ⟨g,0,none⟩) n nc))
  (_:0≤s) (_:s≤8) (hn:n≤1048576) (hi:i<n)
  (e0:w.cell? ⟨g,i*4,none⟩=some (.int .i64 k.a)) (e1:w.cell? ⟨g,i*4+1,none⟩=some (.int .i64 k.b)) (e2:w.cell? ⟨g,i*4+2,none⟩=some (.int .i64 k.c)) (e3:w.cell? ⟨g,i*4+3,none⟩=some (.int .i64 k.d))
  (hL:∀ w1,Fr [] w w1→Calls Tryz.prog 98 #[.pointer (some ⟨b,0,none⟩),.int .i64 (s+i)] w1 fun e w'=>e=.returned (.int .i64 l)∧Drew w1 w') :
  Calls Tryz.prog 106 #[.pointer (some ⟨b,0,none⟩),.int .i64 (s+i)] w fun e w'=>e=.returned (.tuple #[kv k,.bool true])∧Fr [] w w':=by
 have hw1:IntKind.i64.wrap (s+↑i - s)=↑i:=IntWalk.i64_in _ o_ |>.trans o_;unfold kv;go_enter Tryz.func106,Tryz.ntmps106;go_wp2_with fail;refine (hL _ ?_).mono ?_;·repeat (first|exact Fr.refl _ _|apply Fr.drewN|apply Fr.drew|apply Fr.alloc)
 rintro e w' ⟨rfl,n1,rfl⟩;go_wp2;refine wT ?_;go_wp2;refine sT_ rfl ?_;go_wp2;exact bodyPost_ret (v:=.tuple #[.agg #[.int .i64 k.a,.int .i64 k.b,.int .i64 k.c,.int .i64 k.d],.bool true]) (by simp [results,Tryz.results106,go_sem]) rfl
  ⟨rfl,by repeat (first|exact Fr.refl _ _|apply Fr.drewN|apply Fr.drew|apply Fr.alloc|refine Fr.setCell ?_ (Or.inr i_) _)⟩
theorem lvl_far {id:Int} (hs:0≤s) (h:s+ns.length≤id):lvl s (A8 s ns) id=-1:=by unfold lvl;rw [if_neg o_,if_neg o_,List.getD_eq_getElem?_getD,List.getElem?_eq_none (by rw [Bp];omega)];rfl
theorem Qi (hS:StoreAt w b s ns F) (id:Int) :
  Calls Tryz.prog 106 #[.pointer (some ⟨b,0,none⟩),.int .i64 id] w fun e w'=>e=.returned (.tuple #[kv (Ld s ns id).1,.bool (Ld s ns id).2])∧Fr [] w w':=by
 have hL:∀ w1,Fr [] w w1→Calls Tryz.prog 98 #[.pointer (some ⟨b,0,none⟩),.int .i64 id] w1 fun e w'=>e=.returned (.int .i64 (lvl s (A8 s ns) id))∧Drew w1 w':=fun w1 hf=>K3 (hS.fr hf i_) id;obtain⟨hgood,nv,lv,mb,hI,rfl⟩:=hS;have hs:2≤s:=hgood.1;unfold Ld;by_cases hst:id<s;·
  rw [if_pos hst];refine X2 b id _ w ?_ hL;unfold lvl;by_cases h:id<0;·rw [if_pos h];omega
  ·rw [if_neg h,if_pos hst];omega
 ·rw [if_neg hst];by_cases hfar:s+ns.length≤id;·
   rw [List.getElem?_eq_none o_];exact X2 b id _ w (by rw [lvl_far o_ hfar];omega) hL
  ·obtain⟨i,rfl⟩:∃ i:Nat,id=s+i:=⟨(id - s).toNat,o_⟩;have hi:i<ns.length:=o_;rw [show (s+(i:Int) - s).toNat=i by omega,List.getElem?_eq_getElem hi];obtain⟨l,hl,hl1,_,_⟩:=lvl_pos hgood (List.getElem?_eq_getElem hi);have hlv:lvl s (A8 s ns) (s+i)=l:=by
    unfold lvl;rw [if_neg o_,if_neg o_,show (s+(i:Int) - s).toNat=i by omega,List.getD_eq_getElem?_getD,hl];rfl
   rw [hlv] at hL;obtain⟨na,nc,rfl,hna,_⟩:=oFM hI.nodes;obtain⟨g,rfl⟩:=hna o_;obtain⟨f0,f1,f2,f3⟩:=flat_get (List.getElem?_eq_getElem hi);rw [Nat.mul_comm] at f0 f1 f2 f3;exact Kids_yes b s l i ns.length nc g _ w hl1 (lBk hI.blk) (oLT hI.nodes rfl) (hEC hI.blk 0) (hEC hI.blk 1) o_ hgood.2.1 (by have:=hgood.2.2.1;omega) hi
    (An hI.nodes rfl f0) (An hI.nodes rfl f1) (An hI.nodes rfl f2) (An hI.nodes rfl f3) hL
theorem flat_one (ns:List K4):∀ u∈flat ns,u.oneCell'=true:=by intro u hu;simp only [flat,List.mem_flatMap] at hu;obtain⟨k,_,hk⟩:=hu;simp at hk;rcases hk with rfl|rfl|rfl|rfl<;>rfl
def four (id:Int):K4:=⟨id,id,id,id⟩
def Ca (s:Int) (ns:List K4):Nat→Int→Nat→Int×Nat
 | 0,id,n=>(id,n)
 | m+1,id,n=>match ns.idxOf? (four id) with
  | some i=>Ca s ns m (s+i) (n+1)
  | none=>(id,n)
def grow (s:Int):Nat→Int→List K4→Int×List K4
 | 0,id,ns=>(id,ns)
 | m+1,id,ns=>grow s m (join s ns (four id)).1.1 (join s ns (four id)).2
def Bf (s:Int) (ns:List K4) (level:Int):(Int×Int)×List K4 :=
 if level<0∨256<level then ((0,18),ns)
 else if 100000<ns.length+(level.toNat - (Ca s ns level.toNat 0 0).2) then ((0,6),ns)
 else (((grow s (level.toNat - (Ca s ns level.toNat 0 0).2) (Ca s ns level.toNat 0 0).1 ns).1,0),(grow s (level.toNat - (Ca s ns level.toNat 0 0).2) (Ca s ns level.toNat 0 0).1 ns).2)
theorem Ua {s:Int} {ns:List K4}:∀ (m:Nat) (id:Int) (n:Nat),(Ca s ns m id n).2≤n+m
 | 0,id,n=>by simp [Ca]
 | m+1,id,n=>by
  unfold Ca;split;·have:=Ua (s:=s) (ns:=ns) m (s+‹Nat›) (n+1);omega
  ·simp
def TwoPost (w:World) (b:Nat) (s:Int) (r:(Int×Int)×List K4) (F:List Nat) (e:Ending) (w':World):Prop :=
 e=.returned (.tuple #[.int .i64 r.1.1,.int .i64 r.1.2])∧∃ F',StoreAt w' b s r.2 F'∧Fr F w w'∧(∀ x∈F',x∈F∨w.heap.size≤x)
theorem TwoPost.same (hS:StoreAt w b s ns F) (hf:Fr [] w w'):TwoPost w b s ((r,e),ns) F (.returned (.tuple #[.int .i64 r,.int .i64 e])) w' :=
 ⟨rfl,F,hS.fr hf i_,hf.mono i_,fun x hx=>.inl hx⟩
theorem Empty_calls (hS:StoreAt w b s ns F) (level:Int) :
  Calls Tryz.prog 39 #[.pointer (some ⟨b,0,none⟩),.int .i64 level] w (TwoPost w b s (Bf s ns level) F):=by
 by_cases hneg:level<0;·
  have:Bf s ns level=((0,18),ns):=by unfold Bf;rw [if_pos (.inl hneg)]
  rw [this];have hd:decide (level<0)=true:=by simpa using hneg
  go_enter Tryz.func39,Tryz.ntmps39;go_wp2;go_ret2;exact TwoPost.same hS (Fr.refl _ _)
 ·by_cases hbig:256<level;·
   have:Bf s ns level=((0,18),ns):=(by unfold Bf;rw [if_pos (.inr hbig)]);rw [this];have hd:decide (level<0)=false:=(by simpa using hneg);go_enter Tryz.func39,Tryz.ntmps39;go_wp2;go_ret2;exact TwoPost.same hS (Fr.refl _ _)
  ·obtain⟨L,rfl⟩:∃ L:Nat,level=L:=⟨level.toNat,o_⟩;have hL:L≤256:=o_;have hSk:=hS;obtain⟨hgood,nv,lv,mb,hI,rfl⟩:=hS;obtain⟨na,nc,rfl,hx1⟩:=oFM hI.nodes;have hlen:ns.length≤100000:=hgood.2.2.1;have hs1:2≤s:=hgood.1;have hs2:s≤8:=hgood.2.1;have b0:=hEC hI.blk 0;have b1:=hEC hI.blk 1;have b3:=hEC hI.blk 3;have hE:Bf s ns L=if 100000<ns.length+(L - (Ca s ns L 0 0).2) then ((0,6),ns) else (((grow s (L - (Ca s ns L 0 0).2) (Ca s ns L 0 0).1 ns).1,0),(grow s (L - (Ca s ns L 0 0).2) (Ca s ns L 0 0).1 ns).2):=by
    unfold Bf;rw [if_neg o_];rfl
   have HE:=q_ hE;have HI:=q_ hI;have Hlen:=q_ hlen;clear hx1 hE hI hlen;have hlen2:ns.length≤1048576:=(by have:=Hlen.o;omega);go_enter Tryz.func39,Tryz.ntmps39;go_wp2;go_loop [6,7] (fun x y=>∃ (id:Int) (n:Nat),x=.int .i64 id∧y=.int .i64 n∧n≤L∧Ca s ns (L - n) id n=Ca s ns L 0 0) (fun _ y=>L - (intOf y).toNat);case atStart=>exact⟨0,0,rfl,rfl,o_,i_⟩
   case round =>
    obtain⟨id,n,rfl,rfl,hn,hc⟩:=hrel;have Hc:=q_ hc;clear hc;by_cases hlt:n<L;·
     cases hfind:ns.idxOf? (four id) with
     | some i =>
      go_wp2_with (at_lookup;refine Bc (f:=kv) (g:=Value.int .i64) (k:=four id) (z:=.int .i64 0) rfl rfl rfl rfl (HI.o.known) Tryz.underlying128 Pj (Ds _) (U5 hfind) ?_);go_round;case rel=>exact⟨s+i,n+1,rfl,by go_num,o_,by rw [← Hc.o,show L - n=(L - (n+1))+1 by omega,Ca,hfind]⟩
      case measure=>simp [intOf];omega
     | none =>
      have hp:Ca s ns L 0 0=(id,n):=(by rw [← Hc.o,show L - n=(L - (n+1))+1 by omega,Ca,hfind]);have HP:=q_ hp;clear hp;by_cases hfull:100000<ns.length+(L - n);·
       have hd2:(100000:Int) - (↑L - ↑n)<ns.length:=o_;have Hfull:=q_ hfull;clear hfull;go_wp2_with (at_lookup;refine Ad (f:=kv) (g:=Value.int .i64) (k:=four id) (z:=.int .i64 0) rfl rfl rfl rfl (HI.o.known) Tryz.underlying128 Pj (Ds _) (Ki hfind) ?_);go_ret2;have hQ:=HE.o;rw [HP.o] at hQ;rw [if_pos Hfull.o] at hQ;rw [hQ];exact TwoPost.same hSk (Fr.t)
      ·have hd2:(ns.length:Int)≤100000 - (↑L - ↑n):=o_;have Hfull:=q_ hfull;clear hfull;have hQ:=HE.o;rw [HP.o] at hQ;rw [if_neg Hfull.o] at hQ;have HQ:=q_ hQ;clear hQ;go_wp2_with (at_lookup;refine Ad (f:=kv) (g:=Value.int .i64) (k:=four id) (z:=.int .i64 0) rfl rfl rfl rfl (HI.o.known) Tryz.underlying128 Pj (Ds _) (Ki hfind) ?_);go_loopw [6,7] (fun x y wr=>∃ (id':Int) (n':Nat) (ns':List K4) (F':List Nat),x=.int .i64 id'∧y=.int .i64 n'∧n'≤L∧grow s (L - n') id' ns'=grow s (L - n) id ns∧StoreAt wr b s ns' F' ∧
        Fr (D6 b (.slice na ns.length nc) lv mb) w wr∧(∀ x∈F',x∈D6 b (.slice na ns.length nc) lv mb∨w.heap.size≤x)) (fun _ y _=>L - (intOf y).toNat)
       case atStart=>exact⟨id,n,ns,_,rfl,rfl,hn,rfl,hSk,Fr.refl _ _,fun x hx=>.inl hx⟩
       case round =>
        obtain⟨id',n',ns',F',rfl,rfl,hn',hg,hS',hf',hF'⟩:=hrel;have Hg:=q_ hg;have Hf:=q_ hf';have HF:=q_ hF';clear hg hf' hF';by_cases hlt':n'<L;·
         have hJ:Calls Tryz.prog 82 #[.pointer (some ⟨b,0,none⟩),.int .i64 id',.int .i64 id',.int .i64 id',.int .i64 id'] wr (JoinPost wr b s ns' F' (four id')):=Lm hS' (four id');have hgs:grow s (L - n') id' ns'=grow s (L - (n'+1)) (join s ns' (four id')).1.1 (join s ns' (four id')).2:=by rw [show L - n'=(L - (n'+1))+1 by omega];rfl
         have Hgs:=q_ hgs;clear hgs;go_wp2_with fail;refine hJ.mono ?_;rintro e w1 ⟨rfl,F2,hS2,hf2,hF2⟩;clear hJ;have Hf2:=q_ hf2;have HF2:=q_ hF2;clear hf2 hF2;go_wp2;go_roundw;case rel =>
          refine⟨_,n'+1,(join s ns' (four id')).2,F2,rfl,by go_num,o_,Hgs.o.symm.trans Hg.o,hS2,Hf.o.trans Hf2.o HF.o,fun x hx=>?_⟩;rcases HF2.o x hx with h|h
          ·exact HF.o x h
          ·right;have:=Hf.o.size;omega
         case measure=>simp [intOf];omega
        ·obtain rfl:n'=L:=o_;go_wp2;go_ret2;have hg0:=Hg.o;rw [show grow s (n' - n') id' ns'=(id',ns') from by rw [Nat.sub_self];rfl] at hg0;rw [HQ.o,← hg0];exact⟨rfl,F',hS',Hf.o,HF.o⟩
    ·obtain rfl:n=L:=o_;have hp:Ca s ns n 0 0=(id,n):=(by rw [← Hc.o,Nat.sub_self,Ca]);have HP:=q_ hp;clear hp;by_cases hfull:100000<ns.length+(n - n);·
      have hd2:(100000:Int) - (↑n - ↑n)<ns.length:=o_;have Hfull:=q_ hfull;clear hfull;go_wp2;go_ret2;have hQ:=HE.o;rw [HP.o] at hQ;rw [if_pos Hfull.o] at hQ;rw [hQ];exact TwoPost.same hSk (Fr.t)
     ·have hd2:(ns.length:Int)≤100000 - (↑n - ↑n):=o_;have Hfull:=q_ hfull;clear hfull;have hQ:=HE.o;rw [HP.o] at hQ;rw [if_neg Hfull.o] at hQ;have HQ:=q_ hQ;clear hQ;go_wp2;go_loopw [6,7] (fun x y wr=>∃ (id':Int) (n':Nat) (ns':List K4) (F':List Nat),x=.int .i64 id'∧y=.int .i64 n'∧n'≤n∧grow s (n - n') id' ns'=grow s (n - n) id ns∧StoreAt wr b s ns' F' ∧
       Fr (D6 b (.slice na ns.length nc) lv mb) w wr∧(∀ x∈F',x∈D6 b (.slice na ns.length nc) lv mb∨w.heap.size≤x)) (fun _ y _=>n - (intOf y).toNat)
      case atStart=>exact⟨id,n,ns,_,rfl,rfl,hn,rfl,hSk,Fr.refl _ _,fun x hx=>.inl hx⟩
      case round =>
       obtain⟨id',n',ns',F',rfl,rfl,hn',hg,hS',hf',hF'⟩:=hrel;have Hg:=q_ hg;have Hf:=q_ hf';have HF:=q_ hF';clear hg hf' hF';by_cases hlt':n'<n;·
        have hJ:Calls Tryz.prog 82 #[.pointer (some ⟨b,0,none⟩),.int .i64 id',.int .i64 id',.int .i64 id',.int .i64 id'] wr (JoinPost wr b s ns' F' (four id')):=Lm hS' (four id');have hgs:grow s (n - n') id' ns'=grow s (n - (n'+1)) (join s ns' (four id')).1.1 (join s ns' (four id')).2:=by rw [show n - n'=(n - (n'+1))+1 by omega];rfl
        have Hgs:=q_ hgs;clear hgs;go_wp2_with fail;refine hJ.mono ?_;rintro e w1 ⟨rfl,F2,hS2,hf2,hF2⟩;clear hJ;have Hf2:=q_ hf2;have HF2:=q_ hF2;clear hf2 hF2;go_wp2;go_roundw;case rel =>
         refine⟨_,n'+1,(join s ns' (four id')).2,F2,rfl,by go_num,o_,Hgs.o.symm.trans Hg.o,hS2,Hf.o.trans Hf2.o HF.o,fun x hx=>?_⟩;rcases HF2.o x hx with h|h
         ·exact HF.o x h
         ·right;have:=Hf.o.size;omega
        case measure=>simp [intOf];omega
       ·obtain rfl:n'=n:=o_;go_wp2;go_ret2;have hg0:=Hg.o;rw [show grow s (n' - n') id' ns'=(id',ns') from by rw [Nat.sub_self];rfl] at hg0;rw [HQ.o,← hg0];exact⟨rfl,F',hS',Hf.o,HF.o⟩
end Go.Proofs.YtebolidfbflkmaaGreat
namespace Go.Proofs.Qs
variable {s id:Int}
theorem Pf {ls:List Int} (_:0≤s) (h:0≤lvl s ls id):0≤id∧id<s+ls.length:=by
 unfold lvl at h;by_cases h1:id<0;·rw [if_pos h1] at h;omega
 ·rw [if_neg h1] at h;by_cases h2:id<s;·omega
  ·rw [if_neg h2] at h;by_cases h3:id<s+ls.length;·omega
   ·rw [List.getD_eq_getElem?_getD,List.getElem?_eq_none o_] at h;simp at h
variable {ns:List K4}{i:Nat}
theorem Pe (h:id<s+i):lvl s (A8 s (ns.take i)) id=lvl s (A8 s ns) id:=by
 unfold lvl;by_cases h1:id<0;·rw [if_pos h1,if_pos h1]
 ·rw [if_neg h1,if_neg h1];by_cases h2:id<s;·rw [if_pos h2,if_pos h2]
  ·rw [if_neg h2,if_neg h2,← Kf,List.getD_eq_getElem?_getD,List.getD_eq_getElem?_getD,List.getElem?_take,if_pos o_]
variable {k:K4}
theorem Dm (h:GoodQ s ns) (hk:ns[i]?=some k) :
  (0≤k.a∧k.a<s+i)∧(0≤k.b∧k.b<s+i)∧(0≤k.c∧k.c<s+i)∧(0≤k.d∧k.d<s+i):=by
 have hs:0≤s:=by have:=h.1;omega
 have hi:=(List.getElem?_eq_some_iff.1 hk).1;obtain⟨h0,h1,h2,h3,h4⟩:=h.2.2.2.2 i k hk;have hl:(A8 s (ns.take i)).length=i:=by rw [Bp,List.length_take];omega
 have ka:=Pf hs h0;have kb:=Pf hs (by rw [h2];exact h0);have kc:=Pf hs (by rw [h3];exact h0);have kd:=Pf hs (by rw [h4];exact h0);rw [hl] at ka kb kc kd;exact⟨ka,kb,kc,kd⟩
theorem Ju (h:GoodQ s ns) (hk:ns[i]?=some k) :
  lvl s (A8 s ns) (s+i)=lvl s (A8 s ns) k.a+1∧0≤lvl s (A8 s ns) k.a∧lvl s (A8 s ns) k.a<256∧lvl s (A8 s ns) k.b=lvl s (A8 s ns) k.a∧lvl s (A8 s ns) k.c=lvl s (A8 s ns) k.a∧lvl s (A8 s ns) k.d=lvl s (A8 s ns) k.a:=by
 have hs:=h.1;have hi:=(List.getElem?_eq_some_iff.1 hk).1;obtain⟨⟨_,ka⟩,⟨_,kb⟩,⟨_,kc⟩,⟨_,kd⟩⟩:=Dm h hk;obtain⟨h0,h1,h2,h3,h4⟩:=h.2.2.2.2 i k hk;rw [Pe ka] at h0 h1 h2 h3 h4;rw [Pe kb] at h2;rw [Pe kc] at h3;rw [Pe kd] at h4;refine⟨?_,h0,h1,h2,h3,h4⟩;have e:(A8 s ns)[i]?=some (lvl s (A8 s (ns.take i)) k.a+1):=by
  have h5:A8 s (ns.take (i+1))=A8 s (ns.take i)++[lvl s (A8 s (ns.take i)) k.a+1]:=by rw [List.take_add_one,hk];exact Fu s _ k
  have h6:=congrArg (fun l:List Int=>l[i]?) h5;rw [← Kf,List.getElem?_take,if_pos o_,List.getElem?_append_right (by rw [Bp,List.length_take];omega),Bp,List.length_take,Nat.min_eq_left o_,Nat.sub_self] at h6;exact h6
 rw [Pe ka] at e;show (if s+(i:Int)<0 then -1 else if s+(i:Int)<s then 0 else (A8 s ns).getD (s+(i:Int) - s).toNat (-1))=_;rw [if_neg o_,if_neg o_,show (s+(i:Int) - s).toNat=i by omega,List.getD_eq_getElem?_getD,e];rfl
inductive Tr where
 | leaf (n:Int)
 | node (a b c d:Tr)
 deriving DecidableEq
def Je (s:Int) (l:List Tr) (id:Int):Tr:=if id<s then .leaf id else l.getD (id - s).toNat (.leaf 0)
def trs (s:Int) (ns:List K4):List Tr:=ns.foldl (fun l k=>l++[.node (Je s l k.a) (Je s l k.b) (Je s l k.c) (Je s l k.d)]) []
theorem Jc (s:Int) (ns:List K4) (k:K4):trs s (ns++[k])=trs s ns++[.node (Je s (trs s ns) k.a) (Je s (trs s ns) k.b) (Je s (trs s ns) k.c) (Je s (trs s ns) k.d)]:=by simp [trs]
theorem Cb (s:Int) (ns:List K4):(trs s ns).length=ns.length:=by
 rcases List.eq_nil_or_concat ns with rfl|⟨l,x,rfl⟩
 ·rfl
 ·rw [List.concat_eq_append,Jc];simp [Cb s l]
termination_by ns.length
decreasing_by simp_all
theorem Lr (s:Int) (ns:List K4):∀ i,(trs s ns).take i=trs s (ns.take i):=by
 intro i;rcases List.eq_nil_or_concat ns with rfl|⟨l,x,rfl⟩
 ·simp [trs]
 ·rw [List.concat_eq_append,Jc];rcases Nat.lt_or_ge l.length i with h|h
  ·rw [List.take_of_length_le (by simp [Cb];omega),List.take_of_length_le u_',Jc]
  ·rw [List.take_append_of_le_length (by simp [Cb];omega),List.take_append_of_le_length h,Lr s l i]
termination_by ns.length
decreasing_by simp_all
def tr (s:Int) (ns:List K4) (id:Int):Tr:=Je s (trs s ns) id
theorem Sv (h:id<s+i):tr s (ns.take i) id=tr s ns id:=by
 unfold tr Je;by_cases h2:id<s;·rw [if_pos h2,if_pos h2]
 ·rw [if_neg h2,if_neg h2,← Lr,List.getD_eq_getElem?_getD,List.getD_eq_getElem?_getD,List.getElem?_take,if_pos o_]
theorem tr_app {ms:List K4} (h:id<s+ns.length):tr s (ns++ms) id=tr s ns id:=by
 have:=Sv (s:=s) (ns:=ns++ms) (i:=ns.length) h;rw [List.take_left'] at this;·exact this.symm
 ·rfl
theorem Ep (h:id<s):tr s ns id=.leaf id:=by unfold tr Je;rw [if_pos h]
theorem Dc (h:GoodQ s ns) (hk:ns[i]?=some k):tr s ns (s+i)=.node (tr s ns k.a) (tr s ns k.b) (tr s ns k.c) (tr s ns k.d):=by
 have hi:=(List.getElem?_eq_some_iff.1 hk).1;obtain⟨⟨_,ka⟩,⟨_,kb⟩,⟨_,kc⟩,⟨_,kd⟩⟩:=Dm h hk;have e:(trs s ns)[i]?=some (.node (tr s (ns.take i) k.a) (tr s (ns.take i) k.b) (tr s (ns.take i) k.c) (tr s (ns.take i) k.d)):=by
  have h5:trs s (ns.take (i+1))=trs s (ns.take i)++[.node (tr s (ns.take i) k.a) (tr s (ns.take i) k.b) (tr s (ns.take i) k.c) (tr s (ns.take i) k.d)]:=by rw [List.take_add_one,hk];exact Jc s _ k
  have h6:=congrArg (fun l:List Tr=>l[i]?) h5;rw [← Lr,List.getElem?_take,if_pos o_,List.getElem?_append_right (by rw [Cb,List.length_take];omega),Cb,List.length_take,Nat.min_eq_left o_,Nat.sub_self] at h6;exact h6
 rw [Sv ka,Sv kb,Sv kc,Sv kd] at e;show (if s+(i:Int)<s then Tr.leaf _ else (trs s ns).getD (s+(i:Int) - s).toNat _)=_;rw [if_neg o_,show (s+(i:Int) - s).toNat=i by omega,List.getD_eq_getElem?_getD,e];rfl
def Kn (s:Int) (ns:List K4) (id:Int):Prop:=0≤id∧id<s+ns.length
instance (s:Int) (ns:List K4) (id:Int):Decidable (Kn s ns id):=by unfold Kn;exact inferInstance
theorem Kn.cases (h:Kn s ns id):(0≤id∧id<s)∨∃ i k,id=s+(i:Nat)∧ns[i]?=some k:=by
 by_cases h1:id<s;·exact .inl ⟨h.1,h1⟩
 ·right;have:=h.2;exact⟨(id - s).toNat,ns[(id - s).toNat]'o_,o_,List.getElem?_eq_getElem _⟩
theorem Gp {s:Int} {ns:List K4} (h:GoodQ s ns):∀ (n:Nat) {x y:Int},x<s+n→Kn s ns x→Kn s ns y→tr s ns x=tr s ns y→x=y
 | 0,x,y,hx,kx,ky,he=>by
  rw [Ep o_] at he;rcases ky.cases with ⟨_,hy⟩|⟨j,k,rfl,hk⟩
  ·rw [Ep hy] at he;cases he;rfl
  ·rw [Dc h hk] at he;cases he
 | n+1,x,y,hx,kx,ky,he=>by
  rcases kx.cases with ⟨_,hxs⟩|⟨i,k,rfl,hk⟩
  ·exact Gp h n o_ kx ky he
  ·rcases ky.cases with ⟨_,hy⟩|⟨j,l,rfl,hl⟩
   ·rw [Ep hy,Dc h hk] at he;cases he
   ·rw [Dc h hk,Dc h hl] at he;injection he with e1 e2 e3 e4
    obtain⟨a1,b1,c1,d1⟩:=Dm h hk;obtain⟨a2,b2,c2,d2⟩:=Dm h hl;have hi:=(List.getElem?_eq_some_iff.1 hk).1;have hj:=(List.getElem?_eq_some_iff.1 hl).1;have f1:=Gp h n o_ ⟨a1.1,o_⟩ ⟨a2.1,o_⟩ e1;have f2:=Gp h n o_ ⟨b1.1,o_⟩ ⟨b2.1,o_⟩ e2;have f3:=Gp h n o_ ⟨c1.1,o_⟩ ⟨c2.1,o_⟩ e3;have f4:=Gp h n o_ ⟨d1.1,o_⟩ ⟨d2.1,o_⟩ e4;have hkl:k=l:=by cases k;cases l;simp only at f1 f2 f3 f4;rw [f1,f2,f3,f4]
    subst hkl;have:=(List.getElem?_inj hi h.2.2.2.1).1 (hk.trans hl.symm);omega
def Tr.ht:Tr→Nat
 | .leaf _=>0
 | .node a _ _ _=>a.ht+1
theorem G8 {s:Int} {ns:List K4} (h:GoodQ s ns):∀ (n:Nat) {x:Int},x<s+n→Kn s ns x→lvl s (A8 s ns) x=(tr s ns x).ht
 | 0,x,hx,kx=>by rw [Ep o_];unfold lvl;rw [if_neg (by have:=kx.1;omega),if_pos o_];rfl
 | n+1,x,hx,kx=>by
  rcases kx.cases with ⟨h0,hxs⟩|⟨i,k,rfl,hk⟩
  ·rw [Ep hxs];unfold lvl;rw [if_neg o_,if_pos hxs];rfl
  ·obtain⟨a1,_⟩:=Dm h hk;have hi:=(List.getElem?_eq_some_iff.1 hk).1;rw [Dc h hk,(Ju h hk).1,G8 h n o_ ⟨a1.1,o_⟩];show _=(((tr s ns k.a).ht+1:Nat):Int);omega
theorem S6 (h:GoodQ s ns) (id:Int):0≤lvl s (A8 s ns) id↔Kn s ns id:=by
 constructor;·
  intro hl;have:=Pf (by have:=h.1;omega) hl;rwa [Bp] at this
 ·intro hk;rw [G8 h ns.length (by have:=hk.2;omega) hk];omega
end Go.Proofs.Qs
