/- Own texts of this claim, part 7: no condition. -/
import Derived.Laws.OwnMore
import Derived.Test.YtdanghnadbkhfaaGreatRows
import Derived.Lib.Hide
import Derived.LoopN
import Derived.Laws.Bits64b
import Derived.Laws.BitsAllLaws
import Derived.WalkSmall
import Derived.WalkMore
import Derived.Test.YtdanghnadbkhfaaGreatZR5
import Derived.Test.YtdanghnadbkhfaaGreatZR3
set_option linter.unusedVariables false
set_option linter.unusedSimpArgs false
section
namespace Go.Proofs.Bn
theorem val_lt_len {B:Nat} (hB:2≤B) {a b:List Nat} (ha:Dig B a) (hb:Dig B b) (cb:Canon b) (h:a.length<b.length):val B a<val B b:=by
 have h1:=val_lt ha
 have h2:=canon_le hB hb cb (fun e=>by rw [e] at h;cases h)
 exact Nat.lt_of_lt_of_le h1 (Nat.le_trans (Nat.pow_le_pow_right (by omega) (by omega)) h2)
theorem val_lt_top {B:Nat} (hB:0<B) {a b:List Nat} (ha:Dig B a) (hb:Dig B b) {i:Nat} (hi:i<a.length) (hl:a.length=b.length) (hd:a.drop (i+1)=b.drop (i+1)) (h:a.getD i 0<b.getD i 0):val B a<val B b:=by
 rw [val_take_drop B a i (by omega),val_take_drop B b i (by omega),val_drop B a i,val_drop B b i,hd]
 have h1:=val_lt (ha.take i)
 rw [List.length_take,Nat.min_eq_left (by omega)] at h1
 have h2:B ^ i*(a.getD i 0+B*val B (b.drop (i+1)))+B ^ i≤B ^ i*(b.getD i 0+B*val B (b.drop (i+1))):=by
  rw [← Nat.mul_succ]
  exact Nat.mul_le_mul_left _ (by omega)
 omega
theorem drop_eq_succ {a b:List Nat} {i:Nat} (hi:i<a.length) (hl:a.length=b.length) (hd:a.drop (i+1)=b.drop (i+1)) (h:a.getD i 0=b.getD i 0):a.drop i=b.drop i:=by
 rw [List.drop_eq_getElem_cons hi,List.drop_eq_getElem_cons (by omega:i<b.length),hd]
 congr 1
 rw [List.getD_eq_getElem?_getD,List.getD_eq_getElem?_getD,List.getElem?_eq_getElem hi,List.getElem?_eq_getElem (by omega)] at h
 exact h
theorem sum_step {B va vb vo c x y s P:Nat} (hB:0<B) (h:vo+P*c=va+vb) (hs:s=c+x+y):vo+P*(s % B)+P*B*(s / B)=va+P*x+(vb+P*y):=by
 have h1:=Nat.mod_add_div s B
 have h2:P*(s % B)+P*B*(s / B)=P*s:=by rw [Nat.mul_assoc,← Nat.mul_add,h1]
 have h3:P*s=P*c+P*x+P*y:=by rw [hs,Nat.mul_add,Nat.mul_add]
 omega
theorem diff_step {B va vb vo c x y d c' P:Nat} (h:vo+vb=va+P*c) (hd:d+y+c=x+B*c'):vo+P*d+(vb+P*y)=va+P*x+P*B*c':=by
 have h1:P*d+P*y+P*c=P*x+P*B*c':=by rw [← Nat.mul_add,← Nat.mul_add,hd,Nat.mul_add,Nat.mul_assoc]
 omega
theorem val_set {B:Nat}:∀ {l:List Nat} {i:Nat} (d:Nat),i<l.length→val B (l.set i d)+B ^ i*l.getD i 0=val B l+B ^ i*d
 | x::l,0,d,_=>by simp [val];omega
 | x::l,i+1,d,h=>by
  have ih:=val_set (B:=B) (l:=l) (i:=i) d (by simpa using h)
  rw [List.set_cons_succ,val,val,List.getD_cons_succ,Nat.pow_succ]
  have e1:B ^ i*B*l.getD i 0=B*(B ^ i*l.getD i 0):=by rw [Nat.mul_comm (B ^ i) B,Nat.mul_assoc]
  have e2:B ^ i*B*d=B*(B ^ i*d):=by rw [Nat.mul_comm (B ^ i) B,Nat.mul_assoc]
  rw [e1,e2,Nat.add_assoc,Nat.add_assoc,← Nat.mul_add,← Nat.mul_add,ih]
 | [],_,d,h=>by simp at h
theorem canon_of_ge {B:Nat} {l:List Nat} (hD:Dig B l) (h:B ^ (l.length - 1)≤val B l):Canon l:=by
 unfold Canon
 intro hz
 have hl:l≠[]:=fun e=>by rw [e] at hz;cases hz
 have h2:=List.dropLast_concat_getLast hl
 rw [List.getLast?_eq_some_getLast hl] at hz
 rw [Option.some.inj hz] at h2
 have h3:=val_lt (hD.take (l.length - 1))
 rw [← List.dropLast_eq_take,List.length_dropLast] at h3
 have h4:val B l=val B l.dropLast:=by conv=>lhs;rw [← h2,val_snoc];simp
 omega
end Go.Proofs.Bn
end
section
namespace Go.Proofs.Hp
open Go Go.RowKit
theorem wpList_make1 {P:Program} {ops:Array Oper} {rest:List Oper} {o:Oper} {a:Act} {W:World} {Q:Exit→Act→World→Prop} (hgd:o.guard=none) {l c:Operand} {t e:TypeId} (ho:o.op=.makeSlice t l c) {n:Nat}
  (hl:a.eval l=.int .i64 n) (hc:a.eval c=.int .i64 n) {z:Value} {bytes:Nat} (ht:P.underlying t=some (.slice e)) (hinfo:(P.info? e).map (fun i=>(i.zero,i.size,i.bytes))=some (some z,1,bytes)) (hz:z.cells=#[z])
  (hb:bytes*n≤281474976710656) (h63:n≤maxLen)
  (h:∀ w',w'.ownsRow W.heap.size e 1 (.slice (some ⟨W.heap.size,0,none⟩) n n) n (List.replicate n z)→Fr [] W w'→W.heap.size<w'.heap.size→wpList P ops Q rest (a.put o.dst (.slice (some ⟨W.heap.size,0,none⟩) n n)) w'):wpList P ops Q (o::rest) a W:=by
 obtain⟨i,hi,hz0,hz1,hz2⟩:=info_parts hinfo
 obtain⟨w',hr,ho',hg⟩:=run_make_full W W.heap.size t e i z 1 ht hi hz0 hz1 .i64 .i64 n (by rw [hz2];exact hb) h63 (Nat.le_refl _) (P:=P)
 have hcells:(madeCells z.cells (n*1)).toList=List.replicate n z:=by
  rw [hz,Nat.mul_one]
  unfold madeCells
  apply List.ext_getElem
  ·simp
  ·intro j h1 h2
   simp [Nat.mod_one]
 rw [hcells] at ho'
 refine Mp.wpList_run hgd (w':=w') (v:=.slice (some ⟨W.heap.size,0,none⟩) n n) ?_ (h w' ho' ((Fr.refl _ _).grown hg (by simp)) (oLT ho' rfl))
 unfold execOp
 simp only [ho,hl,hc,Sem.run_bind,hr,Result.andThen_ok]
 rfl
end Go.Proofs.Hp
end
section
namespace Go.Proofs.YtdanghnadbkhfaaGreat
open Go Go.RowKit Rg Hp Bn
def u32s (l:List Nat):List Value:=l.map fun (n:Nat)=>Value.int .u32 n
theorem u32s_length (l:List Nat):(u32s l).length=l.length:=by simp [u32s]
theorem u32s_get {l:List Nat} {i:Nat} (h:i<l.length):(u32s l)[i]?=some (.int .u32 (l.getD i 0:Nat)):=by
 rw [u32s,List.getElem?_map,List.getElem?_eq_getElem h,List.getD_eq_getElem?_getD,List.getElem?_eq_getElem h];rfl
theorem Reads.take {w:World} {a:Option Addr} {n c k:Nat} {xs:List Value} (h:Reads w (.slice a n c) n 1 xs) (hk:k≤n):Reads w (.slice a k c) k 1 (xs.take k):=by
 obtain⟨h1,a',c',he,h2⟩:=h
 cases he
 refine⟨by rw [List.length_take,h1];omega,_,_,rfl,fun hn=>?_⟩
 obtain⟨g,off,rfl,hg,hc⟩:=h2 (by omega)
 refine⟨g,off,rfl,hg,fun j u hj=>hc j u ?_⟩
 rw [List.getElem?_take] at hj
 split at hj
 ·exact hj
 ·cases hj
def RightB (neg:Bool) (ds:List Nat):Bool:=if ds.length=0 then !neg else decide (ds.length≤64∧ds.getD (ds.length - 1) 0≠0)
def mkN (neg:Bool) (V:Nat):Bool×List Nat×Int:=if V=0 then (false,[],0) else if V<4294967296 ^ 64 then (neg,dg 4294967296 V,0) else (false,[],6)
def BigPost (w:World) (A:Nat→Prop) (r:Bool×List Nat×Int) (e:Ending) (w':World):Prop :=
 ∃ a c,(r.2.1.length≤c∧∀ g,(Value.slice a r.2.1.length c).ownBlock=some g→A g)∧e=.returned (.tuple #[.agg #[.bool r.1,.slice a r.2.1.length c],.int .i64 r.2.2])∧Reads w' (.slice a r.2.1.length c) r.2.1.length 1 (u32s r.2.1)∧Fr [] w w'
theorem own_len (a:Option Addr) (n m c d:Nat):(Value.slice a n c).ownBlock=(Value.slice a m d).ownBlock:=by
 cases a with
 | none=>rfl
 | some ad=>rfl
theorem reads_nil (w:World):Reads w (.slice none 0 0) 0 1 []:=⟨rfl,none,0,rfl,fun h=>absurd h (by omega)⟩
theorem results_cell2 {fn:Func} {p u:Tmp} {ty:TypeId} (h:fn.results=#[.cell p ty,.tmp u]) (tmps:Array Value) (P:Program) (w:World) :
  (results fn tmps).run P w=((asAddr (tmps.getD p undef)).run P w).andThen fun a w₁=>((loadVar ty a).run P w₁).andThen fun x w₂=>.ok (.tuple #[x,tmps.getD u undef]) w₂:=by
 simp only [results,h]
 simp [Sem.run_bind,Result.andThen]
theorem results_cell1 {fn:Func} {p:Tmp} {ty:TypeId} (h:fn.results=#[.cell p ty]) (tmps:Array Value) (P:Program) (w:World) :
  (results fn tmps).run P w=((asAddr (tmps.getD p undef)).run P w).andThen fun a w₁=>(loadVar ty a).run P w₁:=by
 simp only [results,h]
 simp [Sem.run_bind,Result.andThen]
theorem mkN_len {neg:Bool} {V:Nat}:(mkN neg V).2.1.length≤64:=by
 unfold mkN
 split
 ·simp
 ·split
  ·rename_i h;exact (dg_length_le (by omega) 64).2 h
  ·simp
theorem mkN_dig {neg:Bool} {V:Nat}:Dig 4294967296 (mkN neg V).2.1:=by
 unfold mkN
 split
 ·exact Dig.nil
 ·split
  ·exact dg_dig (by omega) V
  ·exact Dig.nil
end Go.Proofs.YtdanghnadbkhfaaGreat
namespace Go.Proofs.Bn
open Go Go.RowKit Hp
theorem bit31 {z:Nat} (h:z<4294967296):z.testBit 31=decide (2147483648≤z):=by
 rw [Nat.testBit_eq_decide_div_mod_eq,decide_eq_decide];omega
theorem top31 {z:Nat} (h:z<4294967296):z / 2147483648=(z.testBit 31).toNat:=by
 rw [bit31 h]
 by_cases hz:2147483648≤z
 ·rw [decide_eq_true hz];show _=1;omega
 ·rw [decide_eq_false hz];show _=0;omega
def bor (x y b:Nat):Nat:=if x<y+b then 1 else 0
theorem bor_le (x y b:Nat):bor x y b≤1:=by unfold bor;split<;>omega
theorem sub32_bit {x y b:Nat} (hx:x<4294967296) (hy:y<4294967296) (hb:b≤1) :
  (((4294967295 ^^^ x) &&& y) ||| ((4294967295 ^^^ (x ^^^ y)) &&& ((x+4294967296 - y - b) % 4294967296))) / 2147483648=bor x y b:=by
 have hd:(x+4294967296 - y - b) % 4294967296<4294967296:=Nat.mod_lt _ (by omega)
 have hn1:4294967295 ^^^ x<4294967296:=Nat.xor_lt_two_pow (n:=32) (by omega) hx
 have hxy:x ^^^ y<4294967296:=Nat.xor_lt_two_pow (n:=32) hx hy
 have hn2:4294967295 ^^^ (x ^^^ y)<4294967296:=Nat.xor_lt_two_pow (n:=32) (by omega) hxy
 have ha1:(4294967295 ^^^ x) &&& y<4294967296:=Nat.lt_of_le_of_lt Nat.and_le_right hy
 have ha2:(4294967295 ^^^ (x ^^^ y)) &&& ((x+4294967296 - y - b) % 4294967296)<4294967296:=Nat.lt_of_le_of_lt Nat.and_le_right hd
 rw [top31 (Nat.or_lt_two_pow (n:=32) ha1 ha2)]
 rw [Nat.testBit_or,Nat.testBit_and,Nat.testBit_and,Nat.testBit_xor,Nat.testBit_xor,Nat.testBit_xor,bit31 hx,bit31 hy,bit31 hd,bit31 (show 4294967295<4294967296 by omega)]
 unfold bor
 by_cases h1:2147483648≤x<;>by_cases h2:2147483648≤y<;>by_cases h3:2147483648≤(x+4294967296 - y - b) % 4294967296<;>by_cases h4:x<y+b<;>simp [h1,h2,h3,h4]<;>omega
end Go.Proofs.Bn
namespace Go.Proofs.YtdanghnadbkhfaaGreat
open Go Go.RowKit Rg Hp Bn
theorem ret_u64 {a b:Int} (h:a=b):Ending.returned (.int .u64 a)=.returned (.int .u64 b):=by rw [h]
theorem wrap_u64 (n:Int):IntKind.u64.wrap n=n % 18446744073709551616:=by simp [IntKind.wrap,IntKind.bits,IntKind.signed]
def cmpN (a b:Nat):Int:=if a<b then -1 else if b<a then 1 else 0
end Go.Proofs.YtdanghnadbkhfaaGreat
namespace Go.Proofs.Bn
open Go Go.RowKit Hp
theorem val_set_take {B:Nat} {l:List Nat} {k v:Nat} (h:k<l.length):val B ((l.set k v).take (k+1))=val B (l.take k)+B ^ k*v:=by
 rw [val_take_succ,List.take_set_of_le (Nat.le_refl _),List.getD_eq_getElem?_getD,List.getElem?_set_self h];rfl
theorem plus_end {B vl va vb n c la lb:Nat} (hB:2≤B) (h:vl+B ^ n*c=va+vb) (ha:va<B ^ la) (hb:vb<B ^ lb) (hla:la+1≤n) (hlb:lb+1≤n):c=0:=by
 rcases Nat.eq_zero_or_pos c with h0|h0
 ·exact h0
 ·exfalso
  have h1:B ^ la≤B ^ (n - 1):=Nat.pow_le_pow_right (by omega) (by omega)
  have h2:B ^ lb≤B ^ (n - 1):=Nat.pow_le_pow_right (by omega) (by omega)
  have h3:B ^ n=B ^ (n - 1)*B:=by rw [← Nat.pow_succ];congr 1;omega
  have h4:B ^ (n - 1)*2≤B ^ n:=by rw [h3];exact Nat.mul_le_mul_left _ hB
  have h5:B ^ n*1≤B ^ n*c:=Nat.mul_le_mul_left _ h0
  omega
theorem minus_end {B vl va vb n b:Nat} (h:vl+vb=va+B ^ n*b) (hl:vl<B ^ n) (hba:vb≤va):b=0∧vl=va - vb:=by
 rcases Nat.eq_zero_or_pos b with h0|h0
 ·subst h0;simp at h;omega
 ·exfalso
  have h5:B ^ n*1≤B ^ n*b:=Nat.mul_le_mul_left _ h0
  omega
theorem sub_digit {x y b:Nat} (hx:x<4294967296) (hy:y<4294967296) (hb:b≤1):(x+4294967296 - y - b) % 4294967296+y+b=x+4294967296*bor x y b:=by
 unfold bor;split<;>omega
end Go.Proofs.Bn
namespace Go.Proofs.YtdanghnadbkhfaaGreat
open Go Go.RowKit Rg Hp Bn
theorem u32s_set (l:List Nat) (i d:Nat):u32s (l.set i d)=(u32s l).set i (.int .u32 (d:Nat)):=by unfold u32s;rw [List.map_set]
theorem u32s_zero (n:Nat):u32s (List.replicate n 0)=List.replicate n (.int .u32 0):=by simp [u32s]
theorem right_canon {neg:Bool} {ds:List Nat} (h:RightB neg ds=true):Canon ds∧ds.length≤64∧(ds=[]→neg=false):=by
 unfold RightB at h
 by_cases h0:ds.length=0
 ·rw [if_pos h0] at h
  obtain rfl:=List.eq_nil_of_length_eq_zero h0
  exact⟨by decide,by simp,fun _=>by simpa using h⟩
 ·rw [if_neg h0] at h
  simp only [decide_eq_true_eq] at h
  refine⟨?_,h.1,fun e=>absurd (by rw [e];rfl) h0⟩
  unfold Canon
  rw [List.getLast?_eq_getElem?,List.getElem?_eq_getElem (by omega)]
  intro e
  apply h.2
  rw [List.getD_eq_getElem?_getD,List.getElem?_eq_getElem (by omega)]
  exact Option.some.inj e
def addS (na:Bool) (da:List Nat) (nb:Bool) (db:List Nat):Bool×List Nat×Int :=
 if (RightB na da && RightB nb db)=false then (false,[],2) else if na=nb then mkN na (val 4294967296 da+val 4294967296 db)
 else if val 4294967296 da<val 4294967296 db then mkN nb (val 4294967296 db - val 4294967296 da) else mkN na (val 4294967296 da - val 4294967296 db)
theorem BigPost.mono {w w':World} {A A':Nat→Prop} {r:Bool×List Nat×Int} {e:Ending} (h:BigPost w A r e w') (hl:∀ g,A g→A' g):BigPost w A' r e w':=by
 obtain⟨a,c,h1,h2⟩:=h
 exact⟨a,c,⟨h1.1,fun g hg=>hl g (h1.2 g hg)⟩,h2⟩
def cmpS (na:Bool) (da:List Nat) (nb:Bool) (db:List Nat):Int :=
 if (RightB na da && RightB nb db)=false then 0 else if na=nb then (if na then cmpN (val 4294967296 db) (val 4294967296 da) else cmpN (val 4294967296 da) (val 4294967296 db)) else if na then -1 else 1
def BigPost1 (w:World) (A:Nat→Prop) (r:Bool×List Nat×Int) (e:Ending) (w':World):Prop :=
 ∃ a c,(r.2.1.length≤c∧∀ g,(Value.slice a r.2.1.length c).ownBlock=some g→A g)∧e=.returned (.agg #[.bool r.1,.slice a r.2.1.length c])∧Reads w' (.slice a r.2.1.length c) r.2.1.length 1 (u32s r.2.1)∧Fr [] w w'
theorem frcell {w w':World} (h:Fr [] w w'):(∀ b o,b<w.heap.size→w'.cell? ⟨b,o,none⟩=w.cell? ⟨b,o,none⟩)∧(∀ b o,b<w.heap.size→w'.frozen? ⟨b,o,none⟩=w.frozen? ⟨b,o,none⟩) :=
 ⟨fun b o hb=>h.cell (p:=⟨b,o,none⟩) hb (by simp),fun b o hb=>h.frozen (p:=⟨b,o,none⟩) hb (by simp)⟩
theorem owns_cap {w:World} {base e size n:Nat} {a:Option Addr} {c:Nat} {xs:List Value} (h:w.ownsRow base e size (.slice a n c) n xs):n≤c:=by
 rcases h.2 with ⟨h1,h0⟩|⟨g,cap,cur,h1,_,_,h2,_⟩
 ·omega
 ·cases h1;exact h2
def fromS (n:Int):Bool×List Nat×Int:=mkN (decide (n<0)) n.natAbs
theorem or_shift {x y:Nat} (hx:x<4294967296):x ||| y*4294967296=x+y*4294967296:=by
 have:=Nat.two_pow_add_eq_or_of_lt (i:=32) hx y
 rw [show 2 ^ 32=4294967296 from rfl] at this
 rw [Nat.mul_comm,Nat.or_comm]
 omega
theorem or_two {x y:Nat} (hx:x<4294967296) (hy:y<4294967296):bits BinOp.or IntKind.u64 (x:Int) (IntKind.u64.wrap (IntKind.u64.wrap (y:Int)*4294967296))=((val 4294967296 [x,y]:Nat):Int):=by
 rw [IntWalk.u64_in (y:Int) (by omega),show (y:Int)*4294967296=((y*4294967296:Nat):Int) by omega,IntWalk.u64_in _ (by omega),u64_or_nat _ _ (by omega) (by omega),or_shift hx]
 simp [val];omega
theorem val_zero_iff {B:Nat} (hB:0<B) {l:List Nat}:∀ i,val B (l.take (i+1))=0↔val B (l.take i)=0∧l.getD i 0=0:=by
 intro i
 rw [val_take_succ]
 have:=Nat.pow_pos (n:=i) hB
 constructor
 ·intro h
  refine⟨by omega,?_⟩
  have h2:B ^ i*l.getD i 0=0:=by omega
  rcases Nat.mul_eq_zero.1 h2 with h|h
  ·omega
  ·exact h
 ·rintro⟨h1,h2⟩
  rw [h1,h2,Nat.mul_zero]
theorem val_take_ne {B:Nat} {l:List Nat} (i:Nat) (hB:0<B) (h:val B (l.take (i+1))≠0) (hi:i<l.length):val B l≠0:=by
 rw [val_take_drop B l (i+1) (by omega)]
 omega
def DownPost (w:World) (V:Nat) (lost:Bool) (n:Nat) (e:Ending) (w':World):Prop :=
 ∃ a c os,e=.returned (.tuple #[.slice a os.length c,.bool lost])∧Reads w' (.slice a os.length c) os.length 1 (u32s os)∧(∀ g,(Value.slice a os.length c).ownBlock=some g→w.heap.size≤g)∧Dig 4294967296 os∧val 4294967296 os=V∧os.length≤n∧os.length≤c∧Fr [] w w'
theorem two_split {ds:List Nat} {k wd rs:Nat} (hwd:k / 32=wd) (hrs:k % 32=rs):2 ^ k=4294967296 ^ wd*2 ^ rs∧4294967296=2 ^ rs*2 ^ (32 - rs):=by
 constructor
 ·rw [show 4294967296=2 ^ 32 from rfl,← Nat.pow_mul,← Nat.pow_add]
  congr 1
  omega
 ·rw [← Nat.pow_add,show rs+(32 - rs)=32 by omega]
theorem lost_iff {ds:List Nat} {k wd rs:Nat} (hD:Dig 4294967296 ds) (hwd:k / 32=wd) (hrs:k % 32=rs) (hi:wd<ds.length):val 4294967296 ds % 2 ^ k=0↔val 4294967296 (ds.take wd)=0∧ds.getD wd 0 % 2 ^ rs=0:=by
 obtain⟨h1,h2⟩:=two_split (ds:=ds) hwd hrs
 have hp:=Nat.pow_pos (n:=wd) (show 0<4294967296 by omega)
 have hlt:=val_lt (hD.take wd)
 rw [List.length_take,Nat.min_eq_left (by omega)] at hlt
 rw [h1,val_take_drop _ ds wd (by omega),Nat.mod_mul,Nat.add_mul_mod_self_left,Nat.mod_eq_of_lt hlt,Nat.add_mul_div_left _ _ hp,Nat.div_eq_of_lt hlt,Nat.zero_add,val_drop]
 have h3:(ds.getD wd 0+4294967296*val 4294967296 (ds.drop (wd+1))) % 2 ^ rs=ds.getD wd 0 % 2 ^ rs:=by
  conv=>lhs;rw [h2,Nat.mul_assoc,Nat.add_mul_mod_self_left]
 rw [h3]
 constructor
 ·intro h
  refine⟨by omega,?_⟩
  have:4294967296 ^ wd*(ds.getD wd 0 % 2 ^ rs)=0:=by omega
  rcases Nat.mul_eq_zero.1 this with h|h
  ·omega
  ·exact h
 ·rintro⟨e1,e2⟩
  rw [e1,e2,Nat.mul_zero]
theorem down_digit {ds:List Nat} {k wd rs:Nat} (hD:Dig 4294967296 ds) (hwd:k / 32=wd) (hrs:k % 32=rs) {i:Nat} (hi:wd+i<ds.length):val 4294967296 ds / 2 ^ k / 4294967296 ^ i % 4294967296=val 4294967296 [ds.getD (wd+i) 0,ds.getD (wd+i+1) 0] / 2 ^ rs % 4294967296:=by
 obtain⟨h1,h2⟩:=two_split (ds:=ds) hwd hrs
 rw [h1,Nat.div_div_eq_div_mul,show 4294967296 ^ wd*2 ^ rs*4294967296 ^ i=4294967296 ^ (wd+i)*2 ^ rs by rw [Nat.pow_add];simp only [Nat.mul_assoc,Nat.mul_comm,Nat.mul_left_comm],← Nat.div_div_eq_div_mul,val_div hD (by omega),val_drop,val_drop]
 have e:val 4294967296 [ds.getD (wd+i) 0,ds.getD (wd+i+1) 0]=ds.getD (wd+i) 0+4294967296*ds.getD (wd+i+1) 0:=by simp [val]
 rw [e]
 generalize ds.getD (wd+i) 0=x
 generalize ds.getD (wd+i+1) 0=y
 generalize val 4294967296 (ds.drop (wd+i+1+1))=R
 have hp:=Nat.pow_pos (n:=rs) (show 0<2 by omega)
 have e2:x+4294967296*(y+4294967296*R)=x+4294967296*y+2 ^ rs*(4294967296*(2 ^ (32 - rs)*R)):=by
  rw [Nat.mul_add,← Nat.add_assoc]
  congr 1
  conv=>lhs;arg 1;rw [h2]
  simp only [Nat.mul_assoc,Nat.mul_left_comm]
 rw [e2,Nat.add_mul_div_left _ _ hp,Nat.add_mul_mod_self_left]
theorem and_mask {x rs:Nat} (hx:x<4294967296) (hr:rs<32):(bits BinOp.and IntKind.u32 (x:Int) (((2:Int) ^ rs - 1) % 4294967296) != 0)=decide (x % 2 ^ rs≠0):=by
 have h1:2 ^ rs≤2 ^ 31:=Nat.pow_le_pow_right (by omega) (by omega)
 have h2:=Nat.pow_pos (n:=rs) (show 0<2 by omega)
 have e1:(((2:Int) ^ rs - 1) % 4294967296)=((2 ^ rs - 1:Nat):Int):=by
  rw [show ((2:Int) ^ rs)=((2 ^ rs:Nat):Int) by simp]
  generalize 2 ^ rs=p at *
  omega
 rw [e1,u32_and_nat x (2 ^ rs - 1) hx (by omega),Nat.and_two_pow_sub_one_eq_mod]
 generalize x % 2 ^ rs=z
 by_cases h:z=0<;>simp [h]
def downN (neg:Bool) (V m:Nat):Nat:=V / 2 ^ m+if neg && decide (V % 2 ^ m≠0) then 1 else 0
def shiftS (neg:Bool) (ds:List Nat) (k:Int):Bool×List Nat×Int :=
 if RightB neg ds=false then (false,[],2) else if ds.length=0 then (false,[],0)
 else if k<0 then mkN neg (downN neg (val 4294967296 ds) (if k < -4096 then 4096 else (-k).toNat))
 else if 2048<k then (false,[],6) else mkN neg (val 4294967296 ds*2 ^ k.toNat)
theorem shl_facts {x o rs:Nat} (hx:x<4294967296) (hr:rs<32) (ho:o<2 ^ rs) :
  ∃ v:Nat,IntKind.u64.wrap ((x:Int)*2 ^ rs)=v∧v / 4294967296<2 ^ rs∧bits BinOp.or IntKind.u32 (o:Int) ((v:Int) % 4294967296)=((o+v % 4294967296:Nat):Int)∧v=x*2 ^ rs∧o+v % 4294967296<4294967296:=by
 have h1:2 ^ rs≤2 ^ 31:=Nat.pow_le_pow_right (by omega) (by omega)
 have h2:x*2 ^ rs≤4294967295*2 ^ rs:=Nat.mul_le_mul_right _ (by omega)
 have h3:x*2 ^ rs % 4294967296=2 ^ rs*(x % 2 ^ (32 - rs)):=by
  rw [show 4294967296=2 ^ (32 - rs)*2 ^ rs by rw [← Nat.pow_add,show 32 - rs+rs=32 by omega],Nat.mul_mod_mul_right,Nat.mul_comm]
 have h4:2 ^ rs*2 ^ (32 - rs)=4294967296:=by rw [← Nat.pow_add,show rs+(32 - rs)=32 by omega]
 have h5:x % 2 ^ (32 - rs)<2 ^ (32 - rs):=Nat.mod_lt _ (Nat.pow_pos (by omega))
 have h6:2 ^ rs*(x % 2 ^ (32 - rs))+2 ^ rs≤2 ^ rs*2 ^ (32 - rs):=by
  rw [← Nat.mul_succ];exact Nat.mul_le_mul_left _ h5
 have hor:=Nat.two_pow_add_eq_or_of_lt (i:=rs) ho (x % 2 ^ (32 - rs))
 refine⟨x*2 ^ rs,?_,?_,?_,rfl,?_⟩
 ·rw [show ((x:Int)*2 ^ rs)=((x*2 ^ rs:Nat):Int) by simp]
  exact IntWalk.u64_in _ (by omega)
 ·omega
 ·rw [show (((x*2 ^ rs:Nat):Int) % 4294967296)=((x*2 ^ rs % 4294967296:Nat):Int) by simp,h3,u32_or_nat _ _ (by omega) (by omega),Nat.or_comm,← hor,Nat.add_comm]
 ·rw [h3];omega
def bitS (neg:Bool) (ds:List Nat) (k:Int):Nat :=
 if RightB neg ds=false∨k<0 then 0 else if 2048≤k then (if neg then 1 else 0) else (shiftS neg ds (-k)).2.1.getD 0 0 % 2
theorem and_one {x:Nat} (h:x<4294967296):bits BinOp.and IntKind.u32 (x:Int) 1=((x % 2:Nat):Int):=by
 have e:=u32_and_nat x 1 h (by omega)
 rw [Nat.and_one_is_mod] at e
 exact e
theorem shiftS_dig {neg:Bool} {ds:List Nat} {k:Int}:Dig 4294967296 (shiftS neg ds k).2.1∧(shiftS neg ds k).2.1.length≤64:=by
 unfold shiftS
 split
 ·exact⟨Dig.nil,by simp⟩
 ·split
  ·exact⟨Dig.nil,by simp⟩
  ·split
   ·exact⟨mkN_dig,mkN_len⟩
   ·split
    ·exact⟨Dig.nil,by simp⟩
    ·exact⟨mkN_dig,mkN_len⟩
end Go.Proofs.YtdanghnadbkhfaaGreat
namespace Go.Proofs.Bn
open Go Go.RowKit Hp
theorem low_high (P d:Nat):P*(d % 256)+P*256*(d / 256)=P*d:=by
 have h1:=Nat.mod_add_div d 256
 rw [Nat.mul_assoc,← Nat.mul_add,h1]
end Go.Proofs.Bn
namespace Go.Proofs.YtdanghnadbkhfaaGreat
open Go Go.RowKit Rg Hp Bn
def i64s (l:List Nat):List Value:=l.map fun (n:Nat)=>Value.int .i64 n
theorem i64s_get {l:List Nat} {i:Nat} (h:i<l.length):(i64s l)[i]?=some (.int .i64 (l.getD i 0:Nat)):=by
 rw [i64s,List.getElem?_map,List.getElem?_eq_getElem h,List.getD_eq_getElem?_getD,List.getElem?_eq_getElem h];rfl
theorem i64s_snoc (l:List Nat) (d:Nat):i64s l++[.int .i64 d]=i64s (l++[d]):=by simp [i64s]
def ListPost (w:World) (A:Nat→Prop) (ds:List Nat) (e:Ending) (w':World):Prop :=
 ∃ a c,(ds.length≤c∧∀ g,(Value.slice a ds.length c).ownBlock=some g→A g)∧e=.returned (.slice a ds.length c)∧Reads w' (.slice a ds.length c) ds.length 1 (i64s ds)∧Fr [] w w'
theorem reads_trim' {w:World} {ds:List Nat} {a:Option Addr} {c:Nat} (hv:Reads w (.slice a ds.length c) ds.length 1 (i64s ds)) (hD:Dig 256 ds) (c':Nat) :
  Reads w (.slice a (dg 256 (val 256 ds)).length c') (dg 256 (val 256 ds)).length 1 (i64s (dg 256 (val 256 ds)))∧(dg 256 (val 256 ds)).length≤ds.length:=by
 obtain⟨k,hk,hkt⟩:=trimL_prefix (by omega:2≤256) ds.length rfl hD
 have hkl:(trimL 256 ds).length=k:=by rw [hkt,List.length_take,Nat.min_eq_left hk]
 have hr:=Reads.take hv hk
 have hu:(i64s ds).take k=i64s (dg 256 (val 256 ds)):=by rw [i64s,i64s,← List.map_take,← hkt];rfl
 rw [hu] at hr
 have e:(dg 256 (val 256 ds)).length=k:=hkl
 rw [e]
 obtain⟨h1,a',c2,he,h2⟩:=hr
 cases he
 exact⟨⟨h1,_,_,rfl,h2⟩,hk⟩
theorem bytes_step {B P vo x0 d2 V:Nat} (h:vo+P*d2=V+B*x0):vo+P*(d2 % 256)+P*256*(d2 / 256)=V+B*x0:=by
 have:=low_high P d2
 omega
theorem pow256 (i:Nat):256 ^ (4*i)=4294967296 ^ i:=by rw [Nat.pow_mul]
theorem two_mono {n m:Nat} (h:n≤m):2 ^ n≤2 ^ m:=Nat.pow_le_pow_right (by omega) h
theorem pow_two_le {n m:Nat} (h:32*n≤m):4294967296 ^ n≤2 ^ m:=by
 rw [show (4294967296:Nat)=2 ^ 32 from rfl,← Nat.pow_mul]
 exact two_mono h
theorem pow_bits (i:Nat):4294967296 ^ i=2 ^ (32*i):=by rw [Nat.pow_mul]
theorem pow_bits' {n m:Nat} (h:32*n=m):4294967296 ^ n=2 ^ m:=by subst h;exact pow_bits n
theorem div_lt_two {V a b:Nat} (h:V<2 ^ (a+b)):V / 2 ^ b<2 ^ a:=by
 rw [Nat.div_lt_iff_lt_mul (Nat.pow_pos (by omega)),← Nat.pow_add];exact h
end Go.Proofs.YtdanghnadbkhfaaGreat
namespace Go.Proofs.Bn
open Go Go.RowKit Hp
theorem val_quad (T:List Nat) (i k:Nat) (hk:k<4):val 256 ((T.drop (i+k)).take (4 - k))=T.getD (i+k) 0+256*val 256 ((T.drop (i+(k+1))).take (4 - (k+1))):=by
 have e:4 - k=(4 - (k+1))+1:=by omega
 by_cases h:i+k<T.length
 ·rw [List.drop_eq_getElem_cons h,e,List.take_succ_cons,val,List.getD_eq_getElem?_getD,List.getElem?_eq_getElem h];rfl
 ·rw [List.drop_eq_nil_of_le (by omega),List.drop_eq_nil_of_le (by omega),List.getD_eq_getElem?_getD,List.getElem?_eq_none (by omega)]
  simp [val]
theorem val_take4 (T:List Nat) (i:Nat) (h:i≤T.length):val 256 (T.take (i+4))=val 256 (T.take i)+256 ^ i*val 256 ((T.drop i).take 4):=by
 rw [List.take_add,val_append,List.length_take,Nat.min_eq_left h]
end Go.Proofs.Bn
namespace Go.Proofs.YtdanghnadbkhfaaGreat
open Go Go.RowKit Rg Hp Bn
def ListVal (w:World) (A:Nat→Prop) (V n:Nat) (e:Ending) (w':World):Prop:=∃ L,Dig 256 L∧val 256 L=V∧L.length≤n∧ListPost w A L e w'
end Go.Proofs.YtdanghnadbkhfaaGreat
namespace Go.Proofs.Bn
open Go Go.RowKit Hp
theorem val_chunk (B m:Nat) (T:List Nat) (i k:Nat) (hk:k<m):val B ((T.drop (i+k)).take (m - k))=T.getD (i+k) 0+B*val B ((T.drop (i+(k+1))).take (m - (k+1))):=by
 have e:m - k=(m - (k+1))+1:=by omega
 by_cases h:i+k<T.length
 ·rw [List.drop_eq_getElem_cons h,e,List.take_succ_cons,val,List.getD_eq_getElem?_getD,List.getElem?_eq_getElem h];rfl
 ·rw [List.drop_eq_nil_of_le (by omega),List.drop_eq_nil_of_le (by omega),List.getD_eq_getElem?_getD,List.getElem?_eq_none (by omega)]
  simp [val]
theorem val_takeN (B m:Nat) (T:List Nat) (i:Nat) (h:i≤T.length):val B (T.take (i+m))=val B (T.take i)+B ^ i*val B ((T.drop i).take m):=by
 rw [List.take_add,val_append,List.length_take,Nat.min_eq_left h]
theorem bit_val {ds:List Nat} (hD:Dig 256 ds) (k:Nat):ds.getD (k / 8) 0 / 2 ^ (k % 8) % 2=val 256 ds / 2 ^ k % 2:=by
 have h1:=val_digit hD (by omega) (k / 8)
 have h2:2 ^ k=256 ^ (k / 8)*2 ^ (k % 8):=by
  rw [show 256=2 ^ 8 from rfl,← Nat.pow_mul,← Nat.pow_add];congr 1;omega
 rw [h2,← Nat.div_div_eq_div_mul,← h1]
 generalize val 256 ds / 256 ^ (k / 8)=N
 have hr:k % 8<8:=Nat.mod_lt _ (by omega)
 generalize k % 8=r at *
 have h3:N=N % 256+256*(N / 256):=(Nat.mod_add_div N 256).symm
 have h4:256*(N / 256)=2 ^ r*(2*(2 ^ (7 - r)*(N / 256))):=by
  rw [← Nat.mul_assoc 2,← Nat.mul_assoc (2 ^ r)]
  congr 1
  rw [← Nat.pow_succ',← Nat.pow_add,show r+(7 - r).succ=8 by omega]
 conv=>rhs;rw [h3,h4,Nat.add_mul_div_left _ _ (Nat.pow_pos (by omega)),Nat.add_mul_mod_self_left]
end Go.Proofs.Bn
namespace Go.Proofs.YtdanghnadbkhfaaGreat
open Go Go.RowKit Rg Hp Bn
theorem i64s_snoc0 (l:List Nat):i64s l++[.int .i64 0]=i64s (l++[0]):=i64s_snoc l 0
end Go.Proofs.YtdanghnadbkhfaaGreat
namespace Go.Proofs.Bn
open Go Go.RowKit Hp
theorem mod_step (V i:Nat):V % 2 ^ (i+1)=V % 2 ^ i+2 ^ i*(V / 2 ^ i % 2):=by
 rw [Nat.pow_succ,Nat.mod_mul]
theorem drop_step {V i m:Nat} (h:m≤i):V % 2 ^ (i+1) / 2 ^ m=V % 2 ^ i / 2 ^ m+2 ^ (i - m)*(V / 2 ^ i % 2):=by
 rw [mod_step]
 have e:2 ^ i*(V / 2 ^ i % 2)=2 ^ m*(2 ^ (i - m)*(V / 2 ^ i % 2)):=by
  rw [← Nat.mul_assoc,← Nat.pow_add,show m+(i - m)=i by omega]
 rw [e,Nat.add_mul_div_left _ _ (Nat.pow_pos (by omega))]
theorem lost_step {V i:Nat}:(V % 2 ^ (i+1)≠0)↔(V % 2 ^ i≠0∨V / 2 ^ i % 2=1):=by
 rw [mod_step]
 have hp:=Nat.pow_pos (n:=i) (show 0<2 by omega)
 have hb:V / 2 ^ i % 2<2:=Nat.mod_lt _ (by omega)
 generalize V / 2 ^ i % 2=b at *
 rcases (show b=0∨b=1 by omega) with rfl|rfl
 ·simp
 ·first|(simp;done)|(simp;omega)
end Go.Proofs.Bn
namespace Go.Proofs.YtdanghnadbkhfaaGreat
open Go Go.RowKit Rg Hp Bn
def shV (neg:Bool) (V p m:Nat):Nat:=2 ^ p*(V / 2 ^ m)+if neg && decide (V % 2 ^ m≠0) then 1 else 0
theorem down_big {neg:Bool} {V m M:Nat} (hV:V<2 ^ M) (hm:M≤m):downN neg V m=downN neg V M:=by
 unfold downN
 have h2:V<2 ^ m:=Nat.lt_of_lt_of_le hV (Nat.pow_le_pow_right (by omega) hm)
 rw [Nat.div_eq_of_lt hV,Nat.div_eq_of_lt h2,Nat.mod_eq_of_lt hV,Nat.mod_eq_of_lt h2]
theorem big_256 {i k x a b c:Nat} (h1:i≤a) (h2:k≤b) (h3:x<2 ^ k) (h4:a+b≤8*c:=by decide):2 ^ i*x<256 ^ c:=by
 have h5:2 ^ i*x<2 ^ a*2 ^ b:=Nat.lt_of_le_of_lt (Nat.mul_le_mul (two_mono h1) (Nat.le_refl _)) (Nat.mul_lt_mul_of_pos_left (Nat.lt_of_lt_of_le h3 (two_mono h2)) (Nat.pow_pos (by omega)))
 rw [← Nat.pow_add] at h5
 refine Nat.lt_of_lt_of_le h5 ?_
 rw [show 256=2 ^ 8 from rfl,← Nat.pow_mul]
 exact two_mono h4
theorem mkN_low {neg:Bool} {W:Nat} (h:W<4294967296 ^ 64):(mkN neg W).2.1.getD 0 0 % 2=W % 2:=by
 unfold mkN
 by_cases h0:W=0
 ·rw [if_pos h0,h0];rfl
 ·rw [if_neg h0,if_pos h]
  show (dg 4294967296 W).getD 0 0 % 2=W % 2
  rw [dg_succ (by omega) h0,List.getD_cons_zero]
  omega
theorem ceil_bit {V m:Nat} (h:1≤V):downN true V m % 2=1 - (V - 1) / 2 ^ m % 2:=by
 unfold downN
 have hp:=Nat.pow_pos (n:=m) (show 0<2 by omega)
 have h1:=Nat.mod_add_div V (2 ^ m)
 have h2:=Nat.mod_lt V hp
 generalize 2 ^ m=P at *
 by_cases hr:V % P=0
 ·obtain⟨q,hq⟩:∃ q,V / P=q+1:=by
   refine⟨V / P - 1,?_⟩
   rcases Nat.eq_zero_or_pos (V / P) with h3|h3
   ·rw [h3,hr] at h1;simp at h1;omega
   ·omega
  have e:(V - 1) / P=q:=by
   rw [hr,hq,Nat.mul_succ] at h1
   rw [show V - 1=(P - 1)+P*q by omega,Nat.add_mul_div_left _ _ hp,Nat.div_eq_of_lt (by omega)]
   omega
  rw [e,hq,decide_eq_false (by simpa using hr)]
  simp
  omega
 ·have e:(V - 1) / P=V / P:=by
   rw [show V - 1=(V % P - 1)+P*(V / P) by omega,Nat.add_mul_div_left _ _ hp,Nat.div_eq_of_lt (by omega)]
   omega
  rw [e,decide_eq_true hr]
  simp
  omega
theorem down_two {neg:Bool} {V m a b:Nat} (hb:b=a+1) (h:V / 2 ^ m<2 ^ a):downN neg V m<2 ^ b:=by
 subst hb
 rw [Nat.pow_succ]
 unfold downN
 have:1≤2 ^ a:=Nat.pow_pos (by omega)
 generalize 2 ^ a=Z at *
 split<;>omega
theorem bitS_eq {neg:Bool} {ds:List Nat} {m:Nat} (hR:RightB neg ds=true) (hD:Dig 4294967296 ds):bitS neg ds m=if neg then 1 - (val 4294967296 ds - 1) / 2 ^ m % 2 else val 4294967296 ds / 2 ^ m % 2:=by
 obtain⟨cA,lA,nA⟩:=right_canon hR
 obtain⟨V,hV⟩:∃ V,val 4294967296 ds=V:=⟨_,rfl⟩
 have e48:4294967296 ^ 64=2 ^ 2048:=pow_bits' (n:=64) (m:=2048) (by omega)
 have hVb:V<2 ^ 2048:=by
  rw [← hV,← e48]
  exact Nat.lt_of_lt_of_le (val_lt hD) (Nat.pow_le_pow_right (by omega) lA)
 have hVp:neg=true→1≤V:=fun h=>by
  rw [← hV]
  have hne:ds≠[]:=fun e=>by have:=nA e;rw [this] at h;cases h
  exact canon_pos (by omega) cA hne
 have hV0:ds.length=0→V=0∧neg=false:=fun h=>by
  have h2:=List.eq_nil_of_length_eq_zero h
  exact⟨by rw [← hV,h2];rfl,nA h2⟩
 unfold bitS
 rw [hR,hV,if_neg (by simp)]
 by_cases h48:(2048:Int)≤m
 ·rw [if_pos h48]
  have h2:V<2 ^ m:=Nat.lt_of_lt_of_le hVb (two_mono (n:=2048) (m:=m) (by omega))
  rw [Nat.div_eq_of_lt h2,Nat.div_eq_of_lt (by omega)]
  try (cases neg<;>rfl)
 ·rw [if_neg h48]
  unfold shiftS
  rw [hR,if_neg (by simp),hV]
  by_cases h0:ds.length=0
  ·rw [if_pos h0,(hV0 h0).1,(hV0 h0).2];simp
  ·rw [if_neg h0]
   by_cases hm:m=0
   ·subst hm
    rw [if_neg (by omega),if_neg (by omega),show (-((0:Nat):Int)).toNat=0 from rfl,Nat.pow_zero,Nat.mul_one,mkN_low (by rw [e48];exact hVb),Nat.div_one,Nat.div_one]
    cases neg
    ·rfl
    ·have:=hVp rfl
     simp;omega
   ·rw [if_pos (by omega),if_neg (by omega),show (-(-(m:Int))).toNat=m by omega]
    have hle:V / 2 ^ m<2 ^ 2047:=div_lt_two (a:=2047) (b:=m) (Nat.lt_of_lt_of_le hVb (two_mono (n:=2048) (m:=2047+m) (by omega)))
    have hdl:downN neg V m<4294967296 ^ 64:=by
     rw [e48]
     exact down_two (a:=2047) (b:=2048) rfl hle
    rw [mkN_low hdl]
    cases neg
    ·unfold downN;simp
    ·rw [ceil_bit (hVp rfl)];rfl
theorem getD_set_ne {l:List Nat} {i j d:Nat} (h:j≠i):(l.set i d).getD j 0=l.getD j 0:=by
 simp only [List.getD_eq_getElem?_getD]
 rw [List.getElem?_set_ne (fun e=>h e.symm)]
theorem u32s_snoc (l:List Nat) (d:Nat):u32s l++[.int .u32 d]=u32s (l++[d]):=by simp [u32s]
end Go.Proofs.YtdanghnadbkhfaaGreat
end
section
namespace Go.Proofs.YtdanghnadbkhfaaGreat
open Go Go.RowKit Rg Hp Bn
theorem dg_of {B:Nat} (hB:2≤B) {V:Nat} (l:List Nat) (hV:val B l=V) (hD:Dig B l) (hC:Canon l):dg B V=l:=by rw [← hV];exact dg_val hB hD hC
theorem mkN_of {neg:Bool} {V:Nat} (l:List Nat) (hV:val 4294967296 l=V) (hD:Dig 4294967296 l) (hC:Canon l) (h0:V≠0) (hl:l.length≤64):mkN neg V=(neg,l,0):=by
 unfold mkN
 rw [if_neg h0,if_pos,dg_of (by omega) l hV hD hC]
 rw [← hV]
 exact Nat.lt_of_lt_of_le (val_lt hD) (Nat.pow_le_pow_right (by omega) hl)
theorem right_of_canon {neg:Bool} {ds:List Nat} (hC:Canon ds) (hl:ds.length≤64) (hn:ds=[]→neg=false):RightB neg ds=true:=by
 unfold RightB
 by_cases h0:ds.length=0
 ·rw [if_pos h0,hn (List.eq_nil_of_length_eq_zero h0)];rfl
 ·rw [if_neg h0,decide_eq_true_eq]
  refine⟨hl,fun e=>hC ?_⟩
  rw [List.getLast?_eq_getElem?,List.getElem?_eq_getElem (by omega)]
  rw [List.getD_eq_getElem?_getD,List.getElem?_eq_getElem (by omega)] at e
  exact congrArg some e
theorem mkN_right {neg:Bool} {ds:List Nat} (hR:RightB neg ds=true) (hD:Dig 4294967296 ds):mkN neg (val 4294967296 ds)=(neg,ds,0):=by
 obtain⟨hC,hl,hn⟩:=right_canon hR
 by_cases h0:val 4294967296 ds=0
 ·have:ds=[]:=by
   rcases Nat.eq_zero_or_pos ds.length with h|h
   ·exact List.eq_nil_of_length_eq_zero h
   ·have:=canon_pos (B:=4294967296) (by omega) hC (by intro e;rw [e] at h;simp at h);omega
  subst this
  unfold mkN
  rw [if_pos h0,hn rfl]
 ·exact mkN_of ds rfl hD hC h0 hl
theorem mkN_zero (neg:Bool):mkN neg 0=(false,[],0):=by unfold mkN;rw [if_pos rfl]
theorem val_right_lt {neg:Bool} {ds:List Nat} (hR:RightB neg ds=true) (hD:Dig 4294967296 ds):val 4294967296 ds<4294967296 ^ 64 :=
 Nat.lt_of_lt_of_le (val_lt hD) (Nat.pow_le_pow_right (by omega) (right_canon hR).2.1)
def sgn (neg:Bool) (V:Nat):Int:=if neg then -(V:Int) else V
def mkI (z:Int):Bool×List Nat×Int:=mkN (decide (z<0)) z.natAbs
theorem sgn_abs (neg:Bool) (V:Nat):(sgn neg V).natAbs=V:=by unfold sgn;cases neg<;>simp
theorem sgn_neg {neg:Bool} {V:Nat} (h:V≠0):decide (sgn neg V<0)=neg:=by
 unfold sgn
 cases neg
 ·simp
 ·simp;omega
theorem mkN_mkI (neg:Bool) (V:Nat):mkN neg V=mkI (sgn neg V):=by
 by_cases h:V=0
 ·subst h
  unfold mkI
  rw [sgn_abs,mkN_zero,mkN_zero]
 ·unfold mkI
  rw [sgn_abs,sgn_neg h]
def sv (neg:Bool) (ds:List Nat):Int:=sgn neg (val 4294967296 ds)
theorem mkI_sv {neg:Bool} {ds:List Nat} (hR:RightB neg ds=true) (hD:Dig 4294967296 ds):mkI (sv neg ds)=(neg,ds,0):=by
 unfold sv
 rw [← mkN_mkI]
 exact mkN_right hR hD
theorem addS_sv {na nb:Bool} {da db:List Nat} (ha:RightB na da=true) (hb:RightB nb db=true):addS na da nb db=mkI (sv na da+sv nb db):=by
 unfold addS sv
 rw [ha,hb,if_neg (by decide)]
 generalize val 4294967296 da=Va
 generalize val 4294967296 db=Vb
 by_cases h:na=nb
 ·subst h
  rw [if_pos rfl,mkN_mkI]
  congr 1
  unfold sgn
  cases na<;>simp<;>omega
 ·rw [if_neg h]
  split
  ·rename_i hl
   rw [mkN_mkI]
   congr 1
   unfold sgn
   cases na<;>cases nb<;>simp at h ⊢<;>omega
  ·rename_i hl
   rw [mkN_mkI]
   congr 1
   unfold sgn
   cases na<;>cases nb<;>simp at h ⊢<;>omega
theorem val_head (l:List Nat):val 4294967296 l % 2=l.getD 0 0 % 2:=by
 cases l with
 | nil=>rfl
 | cons d l=>show (d+4294967296*val 4294967296 l) % 2=d % 2;omega
end Go.Proofs.YtdanghnadbkhfaaGreat
end
section
namespace Go.Proofs.YtdanghnadbkhfaaGreat
open Go Go.RowKit Rg Hp Bn
def zd (z:Int):List Nat:=dg 4294967296 z.natAbs
def BigZ (w:World) (A:Nat→Prop) (v:Value) (z:Int):Prop :=
 ∃ a c,v=.agg #[.bool (decide (z<0)),.slice a (zd z).length c]∧(zd z).length≤c∧(∀ g,(Value.slice a (zd z).length c).ownBlock=some g→A g)∧Reads w (.slice a (zd z).length c) (zd z).length 1 (u32s (zd z))
def Zok (z:Int):Prop:=z.natAbs<4294967296 ^ 64
theorem zd_dig (z:Int):Dig 4294967296 (zd z):=dg_dig (by omega) _
theorem zd_val (z:Int):val 4294967296 (zd z)=z.natAbs:=val_dg (by omega) _
theorem zd_len {z:Int} (h:Zok z):(zd z).length≤64:=(dg_length_le (by omega) 64).2 h
theorem zd_right {z:Int} (h:Zok z):RightB (decide (z<0)) (zd z)=true :=
 right_of_canon (dg_canon (by omega) _) (zd_len h) fun e=>by
  have:=(dg_eq_nil (by omega)).1 e
  simp;omega
theorem zd_sv (z:Int):sv (decide (z<0)) (zd z)=z:=by
 unfold sv sgn
 rw [zd_val]
 by_cases h:z<0
 ·simp only [h,decide_true,if_true];omega
 ·simp only [h,decide_false];simp;omega
theorem mkI_z {z:Int} (h:Zok z):mkI z=(decide (z<0),zd z,0):=by
 unfold mkI mkN zd
 by_cases h0:z.natAbs=0
 ·have:z=0:=by omega
  subst this
  simp [dg_zero]
 ·rw [if_neg h0,if_pos (show z.natAbs<4294967296 ^ 64 from h)]
theorem addS_z {x y:Int} (hx:Zok x) (hy:Zok y) (h:Zok (x+y)):addS (decide (x<0)) (zd x) (decide (y<0)) (zd y)=(decide (x+y<0),zd (x+y),0):=by
 rw [addS_sv (zd_right hx) (zd_right hy),zd_sv,zd_sv,mkI_z h]
theorem fromS_z {z:Int} (h:Zok z):fromS z=(decide (z<0),zd z,0):=mkI_z h
theorem zok_int {z:Int} (h1:-9223372036854775808≤z) (h2:z<9223372036854775808):Zok z:=by
 unfold Zok
 have:(9223372036854775808:Nat)<4294967296 ^ 64:=by
  rw [show (64:Nat)=2+62 from rfl,Nat.pow_add]
  have h1:=Nat.one_le_pow 62 4294967296 (by omega)
  have:=Nat.mul_le_mul_left (4294967296 ^ 2) h1
  omega
 omega
def cmpI (x y:Int):Int:=if x<y then -1 else if x=y then 0 else 1
theorem cmpS_z {x y:Int} (hx:Zok x) (hy:Zok y):cmpS (decide (x<0)) (zd x) (decide (y<0)) (zd y)=cmpI x y:=by
 unfold cmpS
 rw [if_neg (by rw [zd_right hx,zd_right hy];simp),zd_val,zd_val]
 unfold cmpN cmpI
 by_cases h1:x<0<;>by_cases h2:y<0<;>simp only [h1,h2,decide_true,decide_false,if_true,reduceCtorEq,if_false,Bool.false_eq_true]<;>(repeat' split)<;>omega
theorem two_pow_lt {a k n:Nat} (h:n<a*k):2 ^ n<(2 ^ a) ^ k:=by rw [← Nat.pow_mul];exact Nat.pow_lt_pow_right (by omega) h
theorem shift_one {n:Nat} (h:n≤2047):shiftS false (zd 1) n=(false,zd ((2 ^ n:Nat):Int),0):=by
 have h1:zd 1=[1]:=by
  unfold zd
  rw [show (1:Int).natAbs=1 from rfl,dg_succ (by omega) (by omega),show 1 / 4294967296=0 from rfl,dg_zero]
 unfold shiftS
 rw [h1,if_neg (by simp [RightB]),if_neg (by simp),if_neg (by omega),if_neg (by omega)]
 have hv:val 4294967296 [1]=1:=by simp [val]
 rw [hv,Nat.one_mul,Int.toNat_natCast]
 unfold mkN zd
 have hp:2 ^ n<4294967296 ^ 64:=two_pow_lt (a:=32) (k:=64) (by omega)
 rw [if_neg (by have:=Nat.pow_pos (n:=n) (show 0<2 by omega);omega),if_pos hp,Int.natAbs_natCast]
theorem zok_pow {n:Nat} (h:n≤2047):Zok ((2 ^ n:Nat):Int):=by
 unfold Zok
 rw [Int.natAbs_natCast]
 exact two_pow_lt (a:=32) (k:=64) (by omega)
theorem zok_le {x y:Int} (hy:Zok y) (h:x.natAbs≤y.natAbs):Zok x:=Nat.lt_of_le_of_lt h hy
theorem right_z {neg:Bool} {ds:List Nat} (hR:RightB neg ds=true) (hD:Dig 4294967296 ds):∃ z,Zok z∧neg=decide (z<0)∧ds=zd z:=by
 refine⟨sv neg ds,?_,?_,?_⟩
 ·unfold Zok sv;rw [sgn_abs];exact val_right_lt hR hD
 ·have:=mkI_sv hR hD
  have h2:Zok (sv neg ds):=by unfold Zok sv;rw [sgn_abs];exact val_right_lt hR hD
  rw [mkI_z h2] at this
  exact (congrArg (·.1) this).symm
 ·have:=mkI_sv hR hD
  have h2:Zok (sv neg ds):=by unfold Zok sv;rw [sgn_abs];exact val_right_lt hR hD
  rw [mkI_z h2] at this
  exact (congrArg (·.2.1) this).symm
theorem bitS_z {z:Int} (h:Zok z) (hz:0≤z) {k:Nat} (hk:k<2048):bitS (decide (z<0)) (zd z) k=z.toNat / 2 ^ k % 2:=by
 have hn:decide (z<0)=false:=by simp;omega
 unfold bitS
 rw [if_neg (by rw [zd_right h];simp),if_neg (by omega),hn]
 unfold shiftS
 have hR:=zd_right h
 rw [hn] at hR
 rw [if_neg (by rw [hR];simp)]
 by_cases h0:(zd z).length=0
 ·rw [if_pos h0]
  have:z.natAbs=0:=by
   rw [← zd_val z,List.length_eq_zero_iff.1 h0];rfl
  rw [show z.toNat=0 by omega]
  simp
 ·rw [if_neg h0]
  by_cases hk0:k=0
  ·subst hk0
   simp only [Int.natCast_zero,Int.neg_zero,show ¬ (0:Int)<0 by omega,if_false,show ¬ (2048:Int)<0 by omega,Int.toNat_zero,Nat.pow_zero,Nat.mul_one,Nat.div_one]
   rw [mkN_right hR (zd_dig z),← val_head,zd_val]
   congr 1;omega
  ·rw [if_pos (by omega),if_neg (by omega)]
   have e1:(- -(k:Int)).toNat=k:=by omega
   rw [e1]
   unfold downN
   simp only [Bool.false_and,Bool.false_eq_true,if_false,Nat.add_zero]
   rw [zd_val,show z.natAbs=z.toNat by omega,← val_head (mkN false (z.toNat / 2 ^ k)).2.1]
   unfold mkN
   by_cases hq:z.toNat / 2 ^ k=0
   ·rw [if_pos hq,hq];rfl
   ·have hlt:z.toNat / 2 ^ k<4294967296 ^ 64:=Nat.lt_of_le_of_lt (Nat.div_le_self _ _) (by have:z.natAbs<4294967296 ^ 64:=h;omega)
    rw [if_neg hq,if_pos hlt,val_dg (by omega)]
theorem BigZ.fr {w w':World} {A:Nat→Prop} {v:Value} {z:Int} (h:BigZ w A v z) {F:List Nat} (hf:Fr F w w') (hA:∀ g,A g→g∉F):BigZ w' A v z:=by
 obtain⟨a,c,rfl,h1,h2,h3⟩:=h
 exact⟨a,c,rfl,h1,h2,h3.keep fun x hx hl=>hf.block x hl (hA x (h2 x hx))⟩
theorem BigZ.fr0 {w w':World} {A:Nat→Prop} {v:Value} {z:Int} (h:BigZ w A v z) (hf:Fr [] w w'):BigZ w' A v z:=h.fr hf fun _ _=>by simp
theorem BigZ.mono {w:World} {A B:Nat→Prop} {v:Value} {z:Int} (h:BigZ w A v z) (hA:∀ g,A g→B g):BigZ w B v z:=by
 obtain⟨a,c,rfl,h1,h2,h3⟩:=h
 exact⟨a,c,rfl,h1,fun g hg=>hA g (h2 g hg),h3⟩
theorem BigZ.zero (w:World) (A:Nat→Prop):BigZ w A (.agg #[.bool false,.slice none 0 0]) 0:=by
 refine⟨none,0,?_,?_,?_,?_⟩
 ·simp [zd,dg_zero]
 ·simp [zd,dg_zero]
 ·intro g hg;cases hg
 ·simp only [zd,Int.natAbs_zero,dg_zero];exact⟨rfl,none,0,rfl,fun h=>by simp at h⟩
end Go.Proofs.YtdanghnadbkhfaaGreat
end
section
namespace Go.Proofs.YtdanghnadbkhfaaGreat
open Go Go.RowKit Rg Hp Bn
theorem bRS {fn:Func} {p u:Tmp} (h:fn.results=#[.cell p 27,.tmp u]) {tmps:Array Value} {b:Nat} {w':World} {x y v:Value} (h4:tmps.getD p undef=.pointer (some ⟨b,0,none⟩)) (hb:w'.heap[b]?=some (.cells #[x,y] 27 (0,0))) (h5:tmps.getD u undef=v) :
  (results fn tmps).run Tryz.prog w'=.ok (.tuple #[.agg #[x,y],v]) w':=by
 rw [results_cell2 h,h4]
 simp only [asAddr,Sem.run_pure,Result.andThen]
 rw [run_loadVar_row w' b _ _ _ _ _ hb Tryz.underlying27 rfl (by kernel_rfl)]
 simp only [h5]
theorem big_result1 {fn:Func} {p:Tmp} (h:fn.results=#[.cell p 27]) {tmps:Array Value} {b:Nat} {w':World} {x y:Value} (h4:tmps.getD p undef=.pointer (some ⟨b,0,none⟩)) (hb:w'.heap[b]?=some (.cells #[x,y] 27 (0,0))) :
  (results fn tmps).run Tryz.prog w'=.ok (.agg #[x,y]) w':=by
 rw [results_cell1 h,h4]
 simp only [asAddr,Sem.run_pure,Result.andThen]
 rw [run_loadVar_row w' b _ _ _ _ _ hb Tryz.underlying27 rfl (by kernel_rfl)]
theorem info_u32':(Tryz.prog.info? 106).map (fun i=>(i.zero,i.size,i.bytes))=some (some (.int .u32 0),1,4):=by kernel_rfl
theorem append_u32 {ops:Array Oper} {rest:List Oper} {o:Oper} {a:Act} {W:World} {Q:Exit→Act→World→Prop} (hgd:o.guard=none) {s x:Operand} (ho:o.op=.call { callee:=.builtin .append,args:=#[s,x],argTypes:=#[25,25] })
  {base:Nat} {v:Value} {n:Nat} {xs:List Value} (hs:a.eval s=v) (hown:W.ownsRow base 106 1 v n xs) {nb c:Nat} {y:Int} (hx:a.eval x=.slice (some ⟨nb,0,none⟩) 1 c)
  (hnb:W.heap[nb]?=some (.cells #[.int .u32 y] 106 (0,0))) (hn:n≤4000000000000) (hbase:base≤W.heap.size)
  (h:∀ g cap w',w'.ownsRow base 106 1 (.slice (some ⟨g,0,none⟩) (n+1) cap) (n+1) (xs++[.int .u32 y])→(∀ b,b<W.heap.size→v.ownBlock≠some b→w'.heap[b]?=W.heap[b]?)→Fr v.ownBlock.toList W w'→(v.ownBlock=some g∨g=W.heap.size)→g<w'.heap.size →
   wpList Tryz.prog ops Q rest (a.put o.dst (.slice (some ⟨g,0,none⟩) (n+1) cap)) w'):wpList Tryz.prog ops Q (o::rest) a W :=
 append_new hgd ho Tryz.underlying25 info_u32' rfl (by decide) hs hown hx (news:=[.int .u32 y]) hnb rfl (by intro u hu;simp at hu;subst hu;rfl) (by unfold maxLen;omega) (by omega) hbase h
end Go.Proofs.YtdanghnadbkhfaaGreat
end
