/- Own texts of this claim, part 13: no condition. -/
import Derived.Lib.SliceRun
import Derived.Maps.AppendAt
import Derived.Test.YtppmnmheodimoaaZD11
set_option linter.unusedVariables false
set_option linter.unusedSimpArgs false
section
namespace Go.Proofs.Ytppmnmheodimoaa
open Go Go.RowKit Rg Hp Bn
def zd (z:Int):List Nat:=dg 4294967296 z.natAbs
def BigZ (w:World) (A:Nat→Prop) (v:Value) (z:Int):Prop :=
 ∃ a c,v=.agg #[.bool (decide (z<0)),.slice a (zd z).length c]∧(zd z).length≤c∧(∀ g,(Value.slice a (zd z).length c).ownBlock=some g→A g)∧Reads w (.slice a (zd z).length c) (zd z).length 1 (u32s (zd z))
def Zok (z:Int):Prop:=z.natAbs<4294967296 ^ 64
theorem zd_dig (z:Int):Dig 4294967296 (zd z):=dg_dig (by omega) _
theorem zd_val (z:Int):val 4294967296 (zd z)=z.natAbs:=val_dg (by omega) _
theorem zd_len {z:Int} (h:Zok z):(zd z).length≤64:=(dg_length_le (by omega) 64).2 h
theorem zd_right {z:Int} (h:Zok z):RightB (decide (z<0)) (zd z)=true :=
 right_of_canon (dg_canon (by omega) _) (zd_len h) fun e=>by
  have:=(dg_eq_nil (by omega)).1 e
  simp;omega
theorem zd_sv (z:Int):sv (decide (z<0)) (zd z)=z:=by
 unfold sv sgn
 rw [zd_val]
 by_cases h:z<0
 ·simp only [h,decide_true,if_true];omega
 ·simp only [h,decide_false];simp;omega
theorem mkI_z {z:Int} (h:Zok z):mkI z=(decide (z<0),zd z,0):=by
 unfold mkI mkN zd
 by_cases h0:z.natAbs=0
 ·have:z=0:=by omega
  subst this
  simp [dg_zero]
 ·rw [if_neg h0,if_pos (show z.natAbs<4294967296 ^ 64 from h)]
theorem addS_z {x y:Int} (hx:Zok x) (hy:Zok y) (h:Zok (x+y)):addS (decide (x<0)) (zd x) (decide (y<0)) (zd y)=(decide (x+y<0),zd (x+y),0):=by
 rw [addS_sv (zd_right hx) (zd_right hy),zd_sv,zd_sv,mkI_z h]
theorem fromS_z {z:Int} (h:Zok z):fromS z=(decide (z<0),zd z,0):=mkI_z h
theorem zok_int {z:Int} (h1:-9223372036854775808≤z) (h2:z<9223372036854775808):Zok z:=by
 unfold Zok
 have:(9223372036854775808:Nat)<4294967296 ^ 64:=by
  rw [show (64:Nat)=2+62 from rfl,Nat.pow_add]
  have h1:=Nat.one_le_pow 62 4294967296 (by omega)
  have:=Nat.mul_le_mul_left (4294967296 ^ 2) h1
  omega
 omega
theorem negS_z {z:Int} (h:Zok z):negS (decide (z<0)) (zd z)=(decide (-z<0),zd (-z),0):=by
 unfold negS
 rw [if_neg (by rw [zd_right h];simp),zd_val]
 unfold mkN zd
 by_cases h0:z.natAbs=0
 ·have:z=0:=by omega
  subst this
  simp [dg_zero]
 ·rw [if_neg h0,if_pos (show z.natAbs<4294967296 ^ 64 from h),Int.natAbs_neg]
  have:(!decide (z<0))=decide (-z<0):=by
   by_cases hz:z<0
   ·simp [hz];omega
   ·simp [hz];omega
  rw [this]
def cmpIY (x y:Int):Int:=if x<y then -1 else if x=y then 0 else 1
theorem cmpS_z {x y:Int} (hx:Zok x) (hy:Zok y):cmpS (decide (x<0)) (zd x) (decide (y<0)) (zd y)=cmpIY x y:=by
 unfold cmpS
 rw [if_neg (by rw [zd_right hx,zd_right hy];simp),zd_val,zd_val]
 unfold cmpN cmpIY
 by_cases h1:x<0<;>by_cases h2:y<0<;>simp only [h1,h2,decide_true,decide_false,if_true,reduceCtorEq,if_false,Bool.false_eq_true]<;>(repeat' split)<;>omega
theorem two_pow_lt {a k n:Nat} (h:n<a*k):2 ^ n<(2 ^ a) ^ k:=by rw [← Nat.pow_mul];exact Nat.pow_lt_pow_right (by omega) h
theorem shift_one {n:Nat} (h:n≤2047):shiftS false (zd 1) n=(false,zd ((2 ^ n:Nat):Int),0):=by
 have h1:zd 1=[1]:=by
  unfold zd
  rw [show (1:Int).natAbs=1 from rfl,dg_succ (by omega) (by omega),show 1 / 4294967296=0 from rfl,dg_zero]
 unfold shiftS
 rw [h1,if_neg (by simp [RightB]),if_neg (by simp),if_neg (by omega),if_neg (by omega)]
 have hv:val 4294967296 [1]=1:=by simp [val]
 rw [hv,Nat.one_mul,Int.toNat_natCast]
 unfold mkN zd
 have hp:2 ^ n<4294967296 ^ 64:=two_pow_lt (a:=32) (k:=64) (by omega)
 rw [if_neg (by have:=Nat.pow_pos (n:=n) (show 0<2 by omega);omega),if_pos hp,Int.natAbs_natCast]
theorem zok_pow {n:Nat} (h:n≤2047):Zok ((2 ^ n:Nat):Int):=by
 unfold Zok
 rw [Int.natAbs_natCast]
 exact two_pow_lt (a:=32) (k:=64) (by omega)
theorem zok_le {x y:Int} (hy:Zok y) (h:x.natAbs≤y.natAbs):Zok x:=Nat.lt_of_le_of_lt h hy
theorem right_z {neg:Bool} {ds:List Nat} (hR:RightB neg ds=true) (hD:Dig 4294967296 ds):∃ z,Zok z∧neg=decide (z<0)∧ds=zd z:=by
 refine⟨sv neg ds,?_,?_,?_⟩
 ·unfold Zok sv;rw [sgn_abs];exact val_right_lt hR hD
 ·have:=mkI_sv hR hD
  have h2:Zok (sv neg ds):=by unfold Zok sv;rw [sgn_abs];exact val_right_lt hR hD
  rw [mkI_z h2] at this
  exact (congrArg (·.1) this).symm
 ·have:=mkI_sv hR hD
  have h2:Zok (sv neg ds):=by unfold Zok sv;rw [sgn_abs];exact val_right_lt hR hD
  rw [mkI_z h2] at this
  exact (congrArg (·.2.1) this).symm
theorem BigZ.fr {w w':World} {A:Nat→Prop} {v:Value} {z:Int} (h:BigZ w A v z) {F:List Nat} (hf:Fr F w w') (hA:∀ g,A g→g∉F):BigZ w' A v z:=by
 obtain⟨a,c,rfl,h1,h2,h3⟩:=h
 exact⟨a,c,rfl,h1,h2,h3.keep fun x hx hl=>hf.block x hl (hA x (h2 x hx))⟩
theorem BigZ.fr0 {w w':World} {A:Nat→Prop} {v:Value} {z:Int} (h:BigZ w A v z) (hf:Fr [] w w'):BigZ w' A v z:=h.fr hf fun _ _=>by simp
theorem BigZ.mono {w:World} {A B:Nat→Prop} {v:Value} {z:Int} (h:BigZ w A v z) (hA:∀ g,A g→B g):BigZ w B v z:=by
 obtain⟨a,c,rfl,h1,h2,h3⟩:=h
 exact⟨a,c,rfl,h1,fun g hg=>hA g (h2 g hg),h3⟩
theorem BigZ.zero (w:World) (A:Nat→Prop):BigZ w A (.agg #[.bool false,.slice none 0 0]) 0:=by
 refine⟨none,0,?_,?_,?_,?_⟩
 ·simp [zd,dg_zero]
 ·simp [zd,dg_zero]
 ·intro g hg;cases hg
 ·simp only [zd,Int.natAbs_zero,dg_zero];exact⟨rfl,none,0,rfl,fun h=>by simp at h⟩
end Go.Proofs.Ytppmnmheodimoaa
end
section
namespace Go.Proofs.Ytppmnmheodimoaa
open Go Go.RowKit Rg Hp Bn
theorem bRS {fn:Func} {p u:Tmp} (h:fn.results=#[.cell p 114,.tmp u]) {tmps:Array Value} {b:Nat} {w':World} {x y v:Value} (h4:tmps.getD p undef=.pointer (some ⟨b,0,none⟩)) (hb:w'.heap[b]?=some (.cells #[x,y] 114 (0,0))) (h5:tmps.getD u undef=v) :
  (results fn tmps).run Try.prog w'=.ok (.tuple #[.agg #[x,y],v]) w':=by
 rw [results_cell2 h,h4]
 simp only [asAddr,Sem.run_pure,Result.andThen]
 rw [run_loadVar_row w' b _ _ _ _ _ hb Try.underlying114 rfl (by kernel_rfl)]
 simp only [h5]
theorem big_result1 {fn:Func} {p:Tmp} (h:fn.results=#[.cell p 114]) {tmps:Array Value} {b:Nat} {w':World} {x y:Value} (h4:tmps.getD p undef=.pointer (some ⟨b,0,none⟩)) (hb:w'.heap[b]?=some (.cells #[x,y] 114 (0,0))) :
  (results fn tmps).run Try.prog w'=.ok (.agg #[x,y]) w':=by
 rw [results_cell1 h,h4]
 simp only [asAddr,Sem.run_pure,Result.andThen]
 rw [run_loadVar_row w' b _ _ _ _ _ hb Try.underlying114 rfl (by kernel_rfl)]
theorem info_u32':(Try.prog.info? 168).map (fun i=>(i.zero,i.size,i.bytes))=some (some (.int .u32 0),1,4):=by kernel_rfl
theorem append_u32 {ops:Array Oper} {rest:List Oper} {o:Oper} {a:Act} {W:World} {Q:Exit→Act→World→Prop} (hgd:o.guard=none) {s x:Operand} (ho:o.op=.call { callee:=.builtin .append,args:=#[s,x],argTypes:=#[112,112] })
  {base:Nat} {v:Value} {n:Nat} {xs:List Value} (hs:a.eval s=v) (hown:W.ownsRow base 168 1 v n xs) {nb c:Nat} {y:Int} (hx:a.eval x=.slice (some ⟨nb,0,none⟩) 1 c)
  (hnb:W.heap[nb]?=some (.cells #[.int .u32 y] 168 (0,0))) (hn:n≤4000000000000) (hbase:base≤W.heap.size)
  (h:∀ g cap w',w'.ownsRow base 168 1 (.slice (some ⟨g,0,none⟩) (n+1) cap) (n+1) (xs++[.int .u32 y])→(∀ b,b<W.heap.size→v.ownBlock≠some b→w'.heap[b]?=W.heap[b]?)→Fr v.ownBlock.toList W w'→(v.ownBlock=some g∨g=W.heap.size)→g<w'.heap.size →
   wpList Try.prog ops Q rest (a.put o.dst (.slice (some ⟨g,0,none⟩) (n+1) cap)) w'):wpList Try.prog ops Q (o::rest) a W :=
 append_new hgd ho Try.underlying112 info_u32' rfl (by decide) hs hown hx (news:=[.int .u32 y]) hnb rfl (by intro u hu;simp at hu;subst hu;rfl) (by unfold maxLen;omega) (by omega) hbase h
end Go.Proofs.Ytppmnmheodimoaa
end
section
namespace Go.Proofs.Ytppmnmheodimoaa
open Go Go.RowKit Rg Hp Bn
theorem info_i64:(Try.prog.info? 3).map (fun i=>(i.zero,i.size,i.bytes))=some (some (.int .i64 0),1,8):=by kernel_rfl
theorem append_i64 {ops:Array Oper} {rest:List Oper} {o:Oper} {a:Act} {W:World} {Q:Exit→Act→World→Prop} (hgd:o.guard=none) {s x:Operand} (ho:o.op=.call { callee:=.builtin .append,args:=#[s,x],argTypes:=#[71,71] })
  {base:Nat} {v:Value} {n:Nat} {xs:List Value} (hs:a.eval s=v) (hown:W.ownsRow base 3 1 v n xs) {nb c:Nat} {y:Int} (hx:a.eval x=.slice (some ⟨nb,0,none⟩) 1 c)
  (hnb:W.heap[nb]?=some (.cells #[.int .i64 y] 3 (0,0))) (hn:n≤4000000000000) (hbase:base≤W.heap.size)
  (h:∀ g cap w',w'.ownsRow base 3 1 (.slice (some ⟨g,0,none⟩) (n+1) cap) (n+1) (xs++[.int .i64 y])→(∀ b,b<W.heap.size→v.ownBlock≠some b→w'.heap[b]?=W.heap[b]?)→Fr v.ownBlock.toList W w'→(v.ownBlock=some g∨g=W.heap.size)→g<w'.heap.size →
   wpList Try.prog ops Q rest (a.put o.dst (.slice (some ⟨g,0,none⟩) (n+1) cap)) w'):wpList Try.prog ops Q (o::rest) a W :=
 append_new hgd ho Try.underlying71 info_i64 rfl (by decide) hs hown hx (news:=[.int .i64 y]) hnb rfl (by intro u hu;simp at hu;subst hu;rfl) (by unfold maxLen;omega) (by omega) hbase h
set_option maxHeartbeats 2000000 in
theorem RRight_calls {w:World} {neg:Bool} {ds:List Nat} {v:Value} (hv:Reads w v ds.length 1 (u32s ds)) (hl:ds.length≤9223372036854775807) :
  Calls Try.prog 87 #[.agg #[.bool neg,v]] w fun e w'=>e=.returned (.bool (RightB neg ds))∧Fr [] w w':=by
 obtain⟨_,a,c,rfl,hav⟩:=hv
 have Hav:=Lib.hid hav
 clear hav
 by_cases h0:ds.length=0
 ·have hd:decide ((ds.length:Int)=0)=true:=by simp [h0]
  have hR:RightB neg ds=!neg:=by unfold RightB;rw [if_pos h0]
  have HR:=Lib.hid hR
  obtain rfl:=List.eq_nil_of_length_eq_zero h0
  clear h0 hR hd
  go_enter Try.func87,Try.ntmps87
  go_wp2
  go_ret
  exact⟨by rw [HR.out];rfl,by (repeat first|exact Fr.refl _ _|assumption|apply Fr.n|apply Fr.d|apply Fr.a|refine Fr.s ?_ (.inr (by simp;try omega)) _)⟩
 ·obtain⟨g,off,rfl,hg,hc⟩:=Hav.out (by omega)
  have hcz:=hc (ds.length - 1) _ (u32s_get (by omega))
  have hd:((ds.length:Int) == 0)=false:=by rw [beq_eq_false_iff_ne];omega
  have hp1:(1:Int)≤ds.length:=by omega
  have hp2:(ds.length:Int) - 1<ds.length:=by omega
  by_cases h64:ds.length≤64
  ·have hd2:decide ((ds.length:Int)≤64)=true:=by simp;omega
   have hR:RightB neg ds=(((ds.getD (ds.length - 1) 0:Nat):Int) != 0):=by
    unfold RightB;rw [if_neg h0,Bool.eq_iff_iff];simp;omega
   have HR:=Lib.hid hR
   have H0:=Lib.hid h0
   generalize ds.getD (ds.length - 1) 0=y at *
   clear h0 hR hc
   go_enter Try.func87,Try.ntmps87
   go_wp2
   go_ret
   exact⟨by rw [HR.out];rfl,by (repeat first|exact Fr.refl _ _|assumption|apply Fr.n|apply Fr.d|apply Fr.a|refine Fr.s ?_ (.inr (by simp;try omega)) _)⟩
  ·have hd2:decide ((ds.length:Int)≤64)=false:=by simp;omega
   have hR:RightB neg ds=false:=by
    unfold RightB;rw [if_neg h0,Bool.eq_iff_iff];simp;omega
   have HR:=Lib.hid hR
   have H0:=Lib.hid h0
   clear h0 hcz hR hc
   go_enter Try.func87,Try.ntmps87
   go_wp2
   go_ret
   exact⟨by rw [HR.out];rfl,by (repeat first|exact Fr.refl _ _|assumption|apply Fr.n|apply Fr.d|apply Fr.a|refine Fr.s ?_ (.inr (by simp;try omega)) _)⟩
theorem rdigit_calls {w:World} {ds:List Nat} {v:Value} (hv:Reads w v ds.length 1 (i64s ds)) (hl:ds.length≤1000000) (i:Nat) :
  Calls Try.prog 103 #[v,.int .i64 i] w fun e w'=>e=.returned (.int .i64 (ds.getD i 0:Nat))∧w=w':=by
 obtain⟨_,a,c,rfl,hav⟩:=hv
 by_cases h:i<ds.length
 ·obtain⟨g,off,rfl,hg,hc⟩:=hav (by omega)
  have hcz:=hc i _ (i64s_get h)
  clear hc hav
  generalize ds.getD i 0=y at *
  go_enter Try.func103,Try.ntmps103
  go_wp2
  go_ret
  exact⟨rfl,rfl⟩
 ·have h0:ds.getD i 0=0:=by rw [List.getD_eq_getElem?_getD,List.getElem?_eq_none (by omega)];rfl
  rw [h0]
  clear h0 hav
  go_enter Try.func103,Try.ntmps103
  go_wp2
  go_ret
  exact⟨rfl,rfl⟩
set_option maxHeartbeats 2000000 in
theorem trim_calls0 {w:World} {ds:List Nat} {a:Option Addr} {c:Nat} (hv:Reads w (.slice a ds.length c) ds.length 1 (i64s ds)) (hD:Dig 256 ds) (hl:ds.length≤1000000) (hc:ds.length≤c) :
  Calls Try.prog 102 #[.slice a ds.length c] w fun e w'=>e=.returned (.slice a (trimL 256 ds).length (trimL 256 ds).length)∧w=w':=by
 obtain⟨_,a',c',he,hav⟩:=hv
 cases he
 have Hav:=Lib.hid hav
 have HD:=Lib.hid hD
 clear hav hD
 obtain⟨n,hn⟩:∃ n,ds.length=n:=⟨_,rfl⟩
 rw [hn] at hl hc ⊢
 rw [hn] at Hav
 have Hn:=Lib.hid hn
 clear hn
 go_enter Try.func102,Try.ntmps102
 go_wp2
 go_loop [3] (fun x=>∃ k:Nat,k≤n∧x=.int .i64 k∧trimL 256 (ds.take k)=trimL 256 ds) (fun x=>(intOf x).toNat)
 case atStart=>exact⟨n,Nat.le_refl _,rfl,by rw [← Hn.out,List.take_length]⟩
 case round =>
  obtain⟨k,hk,rfl,hT⟩:=hrel
  have HT:=Lib.hid hT
  clear hT
  cases k with
  | zero =>
   have e:(trimL 256 ds).length=0:=by rw [← HT.out,List.take_zero,trimL_nil];rfl
   go_wp2
   go_ret
   exact⟨rfl,rfl⟩
  | succ k =>
   obtain⟨g,off,rfl,hg,hcc⟩:=Hav.out (by omega)
   have hkn:k<ds.length:=by have:=Hn.out;omega
   have hcz:=hcc k _ (i64s_get hkn)
   have htk:ds.take (k+1)=ds.take k++[ds.getD k 0]:=by
    rw [List.take_add_one,List.getElem?_eq_getElem (by omega),List.getD_eq_getElem?_getD,List.getElem?_eq_getElem (by omega)];rfl
   have Htk:=Lib.hid htk
   clear hcc htk hkn
   obtain⟨y,hy⟩:∃ y,y=ds.getD k 0:=⟨_,rfl⟩
   rw [← hy] at hcz Htk
   have Hy:=Lib.hid hy
   clear hy
   by_cases hz:y=0
   ·subst hz
    go_wp2
    go_round
    case rel=>exact⟨k,by omega,by go_num,by have:=HT.out;rwa [Htk.out,trimL_zero] at this⟩
    case measure=>simp [intOf]
   ·have hb:((y:Int) == 0)=false:=by rw [beq_eq_false_iff_ne];omega
    have Hz:=Lib.hid hz
    clear hz
    have e:(trimL 256 ds).length=k+1:=by
     have hT:=HT.out
     have hD:=HD.out.take (k+1)
     rw [Htk.out] at hT hD
     rw [trimL_canon (by omega) hD (canon_snoc Hz.out)] at hT
     rw [← hT,List.length_append,List.length_take,Nat.min_eq_left (by have:=Hn.out;omega)]
     rfl
    have E:=Lib.hid e
    clear e
    go_wp2
    go_ret
    exact⟨by rw [E.out];rfl,rfl⟩
end Go.Proofs.Ytppmnmheodimoaa
end
section
namespace Go.Proofs.Ytppmnmheodimoaa
open Go Go.RowKit Rg Hp Bn
theorem trim_calls {w:World} {ds:List Nat} {a:Option Addr} {c:Nat} (hv:Reads w (.slice a ds.length c) ds.length 1 (i64s ds)) (hD:Dig 256 ds) (hl:ds.length≤1000000) (hc:ds.length≤c) {A:Nat→Prop} (hlo:∀ g,(Value.slice a ds.length c).ownBlock=some g→A g) :
  Calls Try.prog 102 #[.slice a ds.length c] w (ListPost w A (dg 256 (val 256 ds))):=by
 refine (trim_calls0 hv hD hl hc).mono ?_
 rintro e w1 ⟨rfl,rfl⟩
 exact⟨a,_,⟨Nat.le_refl _,fun g hg=>hlo g (own_len a _ _ _ c▸hg)⟩,rfl,(reads_trim' hv hD _).1,Fr.refl _ _⟩
set_option maxHeartbeats 4000000 in
set_option maxRecDepth 100000 in
theorem bytes_calls {w:World} {neg:Bool} {ds:List Nat} {v:Value} (hv:Reads w v ds.length 1 (u32s ds)) (hD:Dig 4294967296 ds) (hl:ds.length≤100000) :
  Calls Try.prog 88 #[.agg #[.bool neg,v]] w (ListPost w (w.heap.size<·) (dg 256 (val 4294967296 ds))):=by
 obtain⟨_,a,c,rfl,hav⟩:=hv
 have Hav:=Lib.hid hav
 have HD:=Lib.hid hD
 clear hav hD
 obtain⟨n,hn⟩:∃ n,ds.length=n:=⟨_,rfl⟩
 rw [hn] at hl ⊢
 rw [hn] at Hav
 have Hn:=Lib.hid hn
 clear hn
 go_enter Try.func88,Try.ntmps88
 go_wp2_with fail
 go_loopw [3,4] (fun x3 x4 wl=>∃ (i:Nat) (L:List Nat),x4=.int .i64 i∧i≤n∧Dig 256 L∧L.length=4*i∧val 256 L=val 4294967296 (ds.take i)∧wl.ownsRow (w.heap.size+1) 3 1 x3 L.length (i64s L)∧Fr [] w wl ∧
  wl.heap[w.heap.size]?=some (.cells #[.bool neg,.slice a n c] 114 (0,0))) (fun _ x4 _=>n - (intOf x4).toNat)
 case atStart=>exact⟨0,[],rfl,by omega,Dig.nil,rfl,rfl,World.ownsRow_nil _ _ _ _,by (repeat first|exact Fr.refl _ _|assumption|apply Fr.n|apply Fr.d|apply Fr.a|refine Fr.s ?_ (.inr (by simp;try omega)) _),by (repeat first|rw [if_pos (by omega)]|rw [if_neg (by omega)]|rw [hDR]|rw [hDN]|rw [hAz]|rw [hSz]|rw [hAC]|rw [hSC]|rw [oMS]|rw [uPC]|rw [lSZ]|rw [lSS]|rfl)⟩
 case round =>
  obtain⟨i,L,rfl,hi,hD,hL,hv,ho,hf,hb⟩:=hrel
  obtain⟨oa,oc,rfl,hoa,hon⟩:=oFM ho
  have b0:=hEC hb 0
  have b1:=hEC hb 1
  have bl:=lBk hb
  have HDL:=Lib.hid hD
  have HL:=Lib.hid hL
  have Hv:=Lib.hid hv
  have Ho:=Lib.hid ho
  have Hf:=Lib.hid hf
  have Hb:=Lib.hid hb
  clear hoa hon hD hL hv ho hb
  by_cases hin:i<n
  ·obtain⟨g,off,rfl,hg,hc⟩:=Hav.out (by have:=Hn.out;omega)
   have e1:=(hf.cell (p:=⟨g,off+i,none⟩) hg (by simp)).trans (hc i _ (u32s_get (by have:=Hn.out;omega)))
   have hx:ds.getD i 0<4294967296:=HD.out.getD (by omega) i
   have Hvt:=Lib.hid (val_take_succ 4294967296 ds i)
   clear hc hf
   generalize ds.getD i 0=x at *
   go_wp2_with fail
   clear e1 b0 b1 bl
   go_loopw [3,5,6] (fun x3 x5 x6 wl=>∃ (k d2:Nat) (L2:List Nat),x5=.int .u32 d2∧x6=.int .i64 k∧k≤4∧d2<256 ^ (4 - k)∧Dig 256 L2∧L2.length=4*i+k∧val 256 L2+256 ^ (4*i+k)*d2=val 4294967296 (ds.take i)+4294967296 ^ i*x ∧
    wl.ownsRow (w.heap.size+1) 3 1 x3 L2.length (i64s L2)∧Fr [] w wl∧wl.heap[w.heap.size]?=some (.cells #[.bool neg,.slice (some ⟨g,off,none⟩) n c] 114 (0,0))) (fun _ _ x6 _=>4 - (intOf x6).toNat)
   case atStart=>exact⟨0,x,L,rfl,rfl,by omega,hx,HDL.out,HL.out,by rw [Hv.out,Nat.add_zero,pow256],Ho.out,Hf.out,Hb.out⟩
   case round =>
    obtain⟨k,d2,L2,rfl,rfl,hk,hd2,hD2,hL2,hv2,ho2,hf2,hb2⟩:=hrel
    obtain⟨oa2,oc2,rfl,hoa2,hon2⟩:=oFM ho2
    have HD2:=Lib.hid hD2
    have HL2:=Lib.hid hL2
    have Hv2:=Lib.hid hv2
    have Ho2:=Lib.hid ho2
    have Hf2:=Lib.hid hf2
    have Hb2:=Lib.hid hb2
    have Hd2:=Lib.hid hd2
    have hd2b:d2<4294967296:=Nat.lt_of_lt_of_le hd2 (Nat.pow_le_pow_right (show 0<256 by omega) (show 4 - k≤4 by omega))
    clear hoa2 hon2 hD2 hL2 hv2 ho2 hf2 hb2 hd2
    by_cases hk4:k<4
    ·obtain⟨r,hr⟩:∃ r,r=d2 % 256:=⟨_,rfl⟩
     have Er:((d2:Int) % 256)=(r:Nat):=by omega
     have hr256:r<256:=by omega
     have Hr:=Lib.hid hr
     clear hr
     go_wp2_with (at_builtin;refine append_i64 (n:=L2.length) (base:=w.heap.size+1) (xs:=i64s L2) (y:=(r:Int)) rfl rfl rfl ?e1 rfl ?e2 ?e3 ?e4 ?_)
     case e1=>exact oOB Ho2.out fun y hy=>hAE _ _ _ (oLT Ho2.out hy)
     case e2=>(repeat first|rw [if_pos (by omega)]|rw [if_neg (by omega)]|rw [hDR]|rw [hDN]|rw [hAz]|rw [hSz]|rw [hAC]|rw [hSC]|rw [oMS]|rw [uPC]|rw [lSZ]|rw [lSS]|rfl)
     case e3=>have:=HL2.out;omega
     case e4=>have:=Hf2.out.size;have:=lBk Hb2.out;(first|omega|(simp only [hDR,hDN,hAz];omega)|(simp;omega))
     intro g2 cap w9 hown1 hW1 hF1 hloc1 hg1
     rw [i64s_snoc] at hown1
     have Hb9:=Lib.hid ((hW1 w.heap.size (by have:=lBk Hb2.out;(first|omega|(simp only [hDR,hDN,hAz];omega)|(simp;omega))) (fun e=>by have h:=owns_ge Ho2.out e;omega)).trans ((hAE _ _ _ (lBk Hb2.out)).trans Hb2.out))
     have Hown1:=Lib.hid hown1
     have Hf9:=Lib.hid (fr_append Hf2.out (owns_base Ho2.out (Nat.le_succ _)) hF1)
     clear hown1 hW1 hF1 hloc1
     go_wp2
     go_roundw
     case rel =>
      refine⟨k+1,d2 / 256,L2++[r],by go_num,by go_num,by omega,?_,HD2.out.append (fun z hz=>by rw [List.mem_singleton] at hz;omega),by rw [List.length_append];have:=HL2.out;simp;omega,?_,by rw [List.length_append];exact Hown1.out,Hf9.out,Hb9.out⟩
      ·have h:=Hd2.out
       rw [show 4 - k=(4 - (k+1))+1 by omega,Nat.pow_succ] at h
       rw [Nat.div_lt_iff_lt_mul (by omega)]
       exact h
      ·rw [val_snoc,HL2.out,Hr.out,show 4*i+(k+1)=4*i+k+1 by omega,Nat.pow_succ]
       exact bytes_step Hv2.out
     case measure=>simp [intOf];omega
    ·obtain rfl:k=4:=by omega
     have hd0:d2=0:=by have:=Hd2.out;omega
     have hv9:val 256 L2=val 4294967296 (ds.take (i+1)):=by have h:=Hv2.out;rw [hd0,Nat.mul_zero,Nat.add_zero] at h;rw [Hvt.out];exact h
     have Hv9:=Lib.hid hv9
     clear hv9 hd0 hd2b
     go_wp2
     go_roundw
     case rel=>exact⟨i+1,L2,by go_num,by omega,HD2.out,by have:=HL2.out;omega,Hv9.out,Ho2.out,Hf2.out,Hb2.out⟩
     case measure=>simp [intOf];omega
  ·obtain rfl:i=n:=by omega
   have hv:=Hv.out
   rw [List.take_of_length_le (by have:=Hn.out;omega)] at hv
   have ht:=trim_calls (Reads.of_owns Ho.out) HDL.out (by have:=HL.out;omega) (owns_cap Ho.out) (A:=fun g=>w.heap.size<g) (fun g hg=>owns_ge Ho.out hg)
   rw [hv] at ht
   have Ht:=Lib.hid ht
   clear ht hv hf
   go_wp2_with fail
   refine Ht.out.mono ?_
   rintro e w4 ⟨ra,rc,hlo,rfl,hr,hf⟩
   have Hf5:=Lib.hid (Hf.out.trans0 hf)
   have Hr:=Lib.hid hr
   have Hlo:=Lib.hid hlo
   clear hf hr hlo b0 b1 bl
   go_wp2
   go_ret
   exact⟨ra,rc,Hlo.out,rfl,Hr.out,Hf5.out⟩
end Go.Proofs.Ytppmnmheodimoaa
end
section
namespace Go.Proofs.Ytppmnmheodimoaa
open Go Go.RowKit Rg Hp Bn
set_option maxHeartbeats 8000000 in
set_option maxRecDepth 100000 in
theorem big_calls {w:World} {neg:Bool} {ds:List Nat} {a:Option Addr} {c:Nat} (hv:Reads w (.slice a ds.length c) ds.length 1 (i64s ds)) (hD:Dig 256 ds) (hl:ds.length≤100000) (hc:ds.length≤c) :
  Calls Try.prog 89 #[.bool neg,.slice a ds.length c] w (BigPost w (w.heap.size≤·) (mkN neg (val 256 ds))):=by
 have htr:=fun w1 (hf:Fr [] w w1)=>trim_calls (hv.fr hf) hD (by omega) hc (A:=fun _=>True) (fun _ _=>trivial)
 obtain⟨V,hV⟩:∃ V,V=val 256 ds:=⟨_,rfl⟩
 have hTl:(dg 256 V).length≤ds.length:=by rw [hV];exact (reads_trim' hv hD 0).2
 rw [← hV] at htr ⊢
 obtain⟨T,hT⟩:∃ T,dg 256 V=T:=⟨_,rfl⟩
 have hTD:Dig 256 T:=by rw [← hT];exact dg_dig (by omega) V
 have hTC:Canon T:=by rw [← hT];exact dg_canon (by omega) V
 have hTV:val 256 T=V:=by rw [← hT];exact val_dg (by omega) V
 have h256:T.length≤256↔V<4294967296 ^ 64:=by rw [← hT,dg_length_le (by omega),show 256 ^ 256=4294967296 ^ 64 from pow256 64]
 have h0:T=[]↔V=0:=by rw [← hT];exact dg_eq_nil (by omega)
 rw [hT] at htr hTl
 obtain⟨r,hS⟩:∃ r,r=mkN neg V:=⟨_,rfl⟩
 rw [← hS]
 unfold mkN at hS
 have Htr:=Lib.hid htr
 have HTD:=Lib.hid hTD
 have HTC:=Lib.hid hTC
 have HTV:=Lib.hid hTV
 have H0:=Lib.hid h0
 clear htr hTD hTC hTV h0 hv hD hV hT
 by_cases hbig:T.length≤256
 rotate_left
 ·have hd:decide ((256:Int)<T.length)=true:=by rw [decide_eq_true_eq];omega
  rw [if_neg (fun h=>by have:=H0.out.2 h;rw [this] at hbig;simp at hbig),if_neg (fun h=>hbig (h256.2 h))] at hS
  subst hS
  clear hbig h256
  go_enter Try.func89,Try.ntmps89
  go_wp2_with fail
  refine (Htr.out _ (by (repeat first|exact Fr.refl _ _|assumption|apply Fr.n|apply Fr.d|apply Fr.a|refine Fr.s ?_ (.inr (by simp;try omega)) _))).mono ?_
  rintro e w1 ⟨ta,tc,hlo,rfl,hr,hf⟩
  have hc_:=(hf.block (w.heap.size) (by first|(simp;done)|(simp;omega)) (by simp)).trans (show _=some (.cells #[.bool false,.slice none 0 0] 114 (0,0)) by (repeat first|rw [if_pos (by omega)]|rw [if_neg (by omega)]|rw [hDR]|rw [hDN]|rw [hAz]|rw [hSz]|rw [hAC]|rw [hSC]|rw [oMS]|rw [uPC]|rw [lSZ]|rw [lSS]|rfl))
  have c0:=hEC hc_ 0
  have c0z:=hEF hc_ 0
  have c1:=hEC hc_ 1
  have c1z:=hEF hc_ 1
  have cl:=lBk hc_
  have Hc:=Lib.hid hc_
  clear hc_
  have Hf:=Lib.hid (Fr.trans0 (by (repeat first|exact Fr.refl _ _|assumption|apply Fr.n|apply Fr.d|apply Fr.a|refine Fr.s ?_ (.inr (by simp;try omega)) _):Fr [] w _) hf)
  clear hf hlo hr
  go_wp2
  (try simp only [Exit.inBlock,Exit.then])
  refine bodyPost_ret (bRS rfl (b:=w.heap.size) (x:=.bool false) (y:=.slice none 0 0) rfl ?_ rfl) rfl ⟨_,_,⟨Nat.le_refl _,fun g hg=>(by cases hg)⟩,rfl,reads_nil _,?_⟩
  ·have h:=Hc.out
   (repeat first|rw [if_pos (by omega)]|rw [if_neg (by omega)]|rw [hDR]|rw [hDN]|rw [hAz]|rw [hSz]|rw [hAC]|rw [hSC]|rw [oMS]|rw [uPC]|rw [lSZ]|rw [lSS]|rfl)
   rw [h]
   (repeat first|rw [if_pos (by omega)]|rw [if_neg (by omega)]|rw [hDR]|rw [hDN]|rw [hAz]|rw [hSz]|rw [hAC]|rw [hSC]|rw [oMS]|rw [uPC]|rw [lSZ]|rw [lSS]|rfl)
  ·exact (Hf.out.setCell (.inr (by simp)) _).setCell (.inr (by simp)) _
 ·have hd:decide ((256:Int)<T.length)=false:=by rw [decide_eq_false_iff_not];omega
  have hS2:r=(neg && decide (0<T.length),dg 4294967296 V,0):=by
   rw [hS]
   by_cases hV0:V=0
   ·rw [if_pos hV0,hV0,dg_zero,H0.out.2 hV0];simp
   ·rw [if_neg hV0,if_pos (h256.1 hbig)]
    have:0<T.length:=List.length_pos_iff.2 (fun h=>hV0 (H0.out.1 h))
    simp [this]
  have HS:=Lib.hid hS2
  obtain⟨n,hn⟩:∃ n,T.length=n:=⟨_,rfl⟩
  rw [hn] at hbig hTl hd
  have Hn:=Lib.hid hn
  clear hS hS2 h256 hn
  go_enter Try.func89,Try.ntmps89
  go_wp2_with fail
  refine (Htr.out _ (by (repeat first|exact Fr.refl _ _|assumption|apply Fr.n|apply Fr.d|apply Fr.a|refine Fr.s ?_ (.inr (by simp;try omega)) _))).mono ?_
  rintro e w1 ⟨ta,tc,hlo,rfl,hr,hf⟩
  rw [Hn.out] at hr ⊢
  have hc_:=(hf.block (w.heap.size) (by first|(simp;done)|(simp;omega)) (by simp)).trans (show _=some (.cells #[.bool false,.slice none 0 0] 114 (0,0)) by (repeat first|rw [if_pos (by omega)]|rw [if_neg (by omega)]|rw [hDR]|rw [hDN]|rw [hAz]|rw [hSz]|rw [hAC]|rw [hSC]|rw [oMS]|rw [uPC]|rw [lSZ]|rw [lSS]|rfl))
  have c0:=hEC hc_ 0
  have c0z:=hEF hc_ 0
  have c1:=hEC hc_ 1
  have c1z:=hEF hc_ 1
  have cl:=lBk hc_
  have Hc:=Lib.hid hc_
  clear hc_
  have Hf:=Lib.hid (Fr.trans0 (by (repeat first|exact Fr.refl _ _|assumption|apply Fr.n|apply Fr.d|apply Fr.a|refine Fr.s ?_ (.inr (by simp;try omega)) _):Fr [] w _) hf)
  have Hr:=Lib.hid hr
  have hrr:=hr
  obtain⟨_,_,_,he,hra⟩:=hrr
  cases he
  have Hra:=Lib.hid hra
  clear hf hlo hr hra c0 c1 c0z c1z
  go_wp2_with fail
  go_loopw [7] (fun x7 wl=>∃ (j:Nat) (l:List Nat) (oa:Option Addr) (oc:Nat),x7=.int .i64 (4*(j:Int))∧4*j<n+4∧l.length=j∧Dig 4294967296 l∧val 4294967296 l=val 256 (T.take (4*j))∧wl.ownsRow (w1.heap.size+1) 168 1 (.slice oa j oc) j (u32s l)∧Fr [] w1 wl ∧
   wl.heap[w1.heap.size]?=some (.cells #[.bool false,.slice oa j oc] 114 (0,0))) (fun x7 _=>n+4 - (intOf x7).toNat)
  case atStart=>exact⟨0,[],none,0,rfl,by omega,rfl,Dig.nil,rfl,World.ownsRow_nil _ _ _ _,by (repeat first|exact Fr.refl _ _|assumption|apply Fr.n|apply Fr.d|apply Fr.a|refine Fr.s ?_ (.inr (by simp;try omega)) _),by (repeat first|rw [if_pos (by omega)]|rw [if_neg (by omega)]|rw [hDR]|rw [hDN]|rw [hAz]|rw [hSz]|rw [hAC]|rw [hSC]|rw [oMS]|rw [uPC]|rw [lSZ]|rw [lSS]|rfl)⟩
  case round =>
   obtain⟨j,l,oa,oc,rfl,hj,hlj,hDl,hvl,ho,hf,hb⟩:=hrel
   have b0:=hEC hb 0
   have b1:=hEC hb 1
   have b0z:=hEF hb 0
   have b1z:=hEF hb 1
   have bl:=lBk hb
   have HDl:=Lib.hid hDl
   have Hlj:=Lib.hid hlj
   have Hvl:=Lib.hid hvl
   have Ho:=Lib.hid ho
   have Hf2:=Lib.hid hf
   have Hb:=Lib.hid hb
   have hf1:=hf.size
   clear hlj hDl hvl ho hf hb
   by_cases hjn:4*j<n
   ·have hjd:decide ((4:Int)*j<n)=true:=by rw [decide_eq_true_eq];omega
    obtain⟨g,off,rfl,hg,hc2⟩:=Hra.out (by omega)
    go_wp2_with fail
    go_loopw [8,9] (fun x8 x9 wl=>∃ (k d:Nat) (z:Int),x8=.int .u32 d∧x9=.int .i64 z∧z=(k:Int) - 1∧k≤4∧d<256 ^ (4 - k)∧d=val 256 ((T.drop (4*j+k)).take (4 - k))∧wl=wr) (fun _ x9 _=>(intOf x9+1).toNat)
    case atStart=>exact⟨4,0,3,rfl,rfl,rfl,by omega,by omega,by simp [val],rfl⟩
    case round =>
     obtain⟨k,d,z,rfl,rfl,hz,hk,hd2,hdv,rfl⟩:=hrel
     have Hd2:=Lib.hid hd2
     have Hdv:=Lib.hid hdv
     clear hd2 hdv
     cases k with
     | zero =>
      obtain rfl:z=-1:=by omega
      have hdv:=Hdv.out
      rw [Nat.add_zero,Nat.sub_zero] at hdv
      have hd9:d<4294967296:=Hd2.out
      have hv9:val 4294967296 (l++[d])=val 256 (T.take (4*(j+1))):=by
       rw [val_snoc,Hvl.out,Hlj.out,show 4*(j+1)=4*j+4 by omega,val_take4 T (4*j) (by have:=Hn.out;omega),pow256,← hdv]
      have Hv9:=Lib.hid hv9
      have hD9:Dig 4294967296 (l++[d]):=HDl.out.append (fun z hz=>by rw [List.mem_singleton] at hz;omega)
      have HD9:=Lib.hid hD9
      clear hz hdv hv9 hD9
      go_wp2_with (at_builtin;refine append_u32 (n:=j) (base:=w1.heap.size+1) (xs:=u32s l) (y:=(d:Int)) rfl rfl rfl ?e1 rfl ?e2 ?e3 ?e4 ?_)
      case e1=>exact oOB Ho.out fun y hy=>hAE _ _ _ (oLT Ho.out hy)
      case e2=>(first|(rw [hAC,if_pos rfl];done)|exact (Array.getElem?_eq_some_iff.1 ((hAC _ _ _).trans (if_pos rfl))).2|(simp only [hDR,hDN];rw [hAC,if_pos rfl];done))
      case e3=>omega
      case e4=>have:=lBk Hb.out;(first|omega|(simp only [hDR,hDN,hAz];omega)|(simp;omega))
      intro g2 cap w9 hown1 hW1 hF1 hloc1 hg1
      rw [u32s_snoc] at hown1
      have hb9:=(hW1 w1.heap.size (by have:=lBk Hb.out;(first|omega|(simp only [hDR,hDN,hAz];omega)|(simp;omega))) (fun e=>by have h:=owns_ge Ho.out e;omega)).trans ((hAE _ _ _ (lBk Hb.out)).trans Hb.out)
      have Hown1:=Lib.hid hown1
      have Hf9:=Lib.hid (fr_append Hf2.out (owns_base Ho.out (Nat.le_succ _)) hF1)
      have q0:=hEC hb9 0
      have q1:=hEC hb9 1
      have q0z:=hEF hb9 0
      have q1z:=hEF hb9 1
      have ql:=lBk hb9
      have Hb9:=Lib.hid hb9
      have Hg2:Hid (w1.heap.size+1≤g2):=Lib.hid (owns_ge hown1 rfl)
      clear hown1 hW1 hF1 hloc1 hb9 b0 b1 b0z b1z bl
      go_wp2
      go_roundw
      case rel =>
       refine⟨j+1,l++[d],some ⟨g2,0,none⟩,cap,by go_num,by omega,by rw [List.length_append,Hlj.out];rfl,HD9.out,Hv9.out,oOB Hown1.out (fun x hx=>?_),Hf9.out.setCell (.inr (by simp)) _,?_⟩
       ·have h2:g2=x:=by simpa [Value.ownBlock] using hx
        have:=Hg2.out
        exact sCE _ _ _ (by simp;omega)
       ·have h:=Hb9.out
        (repeat first|rw [if_pos (by omega)]|rw [if_neg (by omega)]|rw [hDR]|rw [hDN]|rw [hAz]|rw [hSz]|rw [hAC]|rw [hSC]|rw [oMS]|rw [uPC]|rw [lSZ]|rw [lSS]|rfl)
        rw [h]
        (repeat first|rw [if_pos (by omega)]|rw [if_neg (by omega)]|rw [hDR]|rw [hDN]|rw [hAz]|rw [hSz]|rw [hAC]|rw [hSC]|rw [oMS]|rw [uPC]|rw [lSZ]|rw [lSS]|rfl)
      case measure=>simp [intOf];omega
     | succ k =>
      obtain rfl:z=(k:Int):=by omega
      clear hz
      have hd3:d<16777216:=Nat.lt_of_lt_of_le Hd2.out (Nat.pow_le_pow_right (show 0<256 by omega) (show 4 - (k+1)≤3 by omega))
      have hq:=val_quad T (4*j) k (by omega)
      rw [← Hdv.out] at hq
      have Hq:=Lib.hid hq
      have hx:T.getD (4*j+k) 0<256:=HTD.out.getD (by omega) _
      have hp2:T.getD (4*j+k) 0+256*d<256 ^ (4 - k):=by
       have h:=Hd2.out
       rw [show 4 - k=(4 - (k+1))+1 by omega,Nat.pow_succ]
       omega
      have Hp2:=Lib.hid hp2
      clear hq hp2
      by_cases hin:4*j+k<n
      ·have hdi:decide ((4:Int)*j+k<n)=true:=by rw [decide_eq_true_eq];omega
       have e1:=(Hf2.out.cell (p:=⟨g,off+(4*j+k),none⟩) hg (by simp)).trans (hc2 (4*j+k) _ (i64s_get (by have:=Hn.out;omega)))
       generalize T.getD (4*j+k) 0=x at *
       go_wp2
       go_roundw
       case rel=>exact⟨k,x+256*d,(k:Int) - 1,by go_num,by go_num,rfl,by omega,Hp2.out,Hq.out.symm,trivial⟩
       case measure=>simp [intOf]
      ·have hdi:decide ((4:Int)*j+k<n)=false:=by rw [decide_eq_false_iff_not];omega
       have hx0:T.getD (4*j+k) 0=0:=by rw [List.getD_eq_getElem?_getD,List.getElem?_eq_none (by have:=Hn.out;omega)];rfl
       have hp2:=Hp2.out
       have hq:=Hq.out
       rw [hx0,Nat.zero_add] at hp2 hq
       have Hp2:=Lib.hid hp2
       have Hq:=Lib.hid hq
       clear hp2 hq hx hx0
       go_wp2
       go_roundw
       case rel=>exact⟨k,256*d,(k:Int) - 1,by go_num,by go_num,rfl,by omega,Hp2.out,Hq.out.symm,trivial⟩
       case measure=>simp [intOf]
   ·have hjd:decide ((4:Int)*j<n)=false:=by rw [decide_eq_false_iff_not];omega
    have hl:l=dg 4294967296 V:=by
     have hv:=Hvl.out
     rw [List.take_of_length_le (by have:=Hn.out;omega),HTV.out] at hv
     have hcan:Canon l:=by
      rcases Nat.eq_zero_or_pos j with h|h
      ·have h2:=Hlj.out
       rw [h] at h2
       rw [List.eq_nil_of_length_eq_zero h2];simp [Canon]
      ·refine canon_of_ge HDl.out ?_
       have hne:T≠[]:=fun e=>by have h2:=Hn.out;rw [e] at h2;simp at h2;omega
       have h2:=canon_le (B:=256) (by omega) HTD.out HTC.out hne
       rw [hv,Hlj.out]
       rw [HTV.out,Hn.out] at h2
       refine Nat.le_trans ?_ h2
       rw [← pow256]
       exact Nat.pow_le_pow_right (by omega) (by omega)
     rw [← hv,dg_val (by omega) HDl.out hcan]
    have hS:=HS.out
    rw [← hl,Hn.out] at hS
    have HS2:=Lib.hid hS
    obtain⟨ngn,hngn⟩:∃ ngn,(neg && decide (0<n))=ngn:=⟨_,rfl⟩
    rw [hngn] at HS2
    have hdn:decide ((0:Int)<n)=decide (0<n):=by rw [decide_eq_decide];omega
    have Hc1:=Lib.hid ((Hf2.out.block _ (lBk Hc.out) (by simp)).trans Hc.out)
    have c0:=hEC Hc1.out 0
    have c1:=hEC Hc1.out 1
    have c0z:=hEF Hc1.out 0
    have c1z:=hEF Hc1.out 1
    have cl2:=lBk Hc1.out
    have hcb:w.heap.size<w1.heap.size:=cl
    have Hf9:=Lib.hid (Hf.out.trans0 Hf2.out)
    clear hl hS cl hj
    cases neg
    ·have Hng:Hid (ngn=false):=Lib.hid (by rw [← hngn];rfl)
     clear hngn hdn hjd
     go_wp2
     (try simp only [Exit.inBlock,Exit.then])
     rw [HS2.out,Hng.out]
     have hlj:=Hlj.out
     refine bodyPost_ret (bRS rfl (b:=w.heap.size) (x:=.bool false) (y:=.slice oa j oc) rfl ?_ rfl) rfl ⟨oa,oc,⟨by show l.length≤oc;rw [hlj];exact owns_cap Ho.out,fun g hg=>?_⟩,by rw [← hlj];rfl,?_,?_⟩
     ·have h:=Hc1.out
      (repeat first|rw [if_pos (by omega)]|rw [if_neg (by omega)]|rw [hDR]|rw [hDN]|rw [hAz]|rw [hSz]|rw [hAC]|rw [hSC]|rw [oMS]|rw [uPC]|rw [lSZ]|rw [lSS]|rfl)
      rw [h]
      (repeat first|rw [if_pos (by omega)]|rw [if_neg (by omega)]|rw [hDR]|rw [hDN]|rw [hAz]|rw [hSz]|rw [hAC]|rw [hSC]|rw [oMS]|rw [uPC]|rw [lSZ]|rw [lSS]|rfl)
     ·have h:=owns_ge Ho.out (own_len oa _ _ _ oc▸hg)
      omega
     ·show Reads _ (.slice oa l.length oc) l.length 1 (u32s l)
      rw [hlj]
      refine (Reads.of_owns Ho.out).keep fun x hx hl=>?_
      have h:=owns_ge Ho.out hx
      rw [sCE _ _ _ (by simp;omega),sCE _ _ _ (by simp;omega),sCE _ _ _ (by simp;omega)]
     ·exact ((Hf9.out.setCell (.inr (by simp;try omega)) _).setCell (.inr (by simp;try omega)) _).setCell (.inr (by simp;try omega)) _
    ·have hdn2:decide (0<n)=ngn:=by rw [← hngn];rfl
     clear hngn
     go_wp2
     (try simp only [Exit.inBlock,Exit.then])
     rw [HS2.out]
     have hlj:=Hlj.out
     refine bodyPost_ret (bRS rfl (b:=w.heap.size) (x:=.bool ngn) (y:=.slice oa j oc) rfl ?_ rfl) rfl ⟨oa,oc,⟨by show l.length≤oc;rw [hlj];exact owns_cap Ho.out,fun g hg=>?_⟩,by rw [← hlj];rfl,?_,?_⟩
     ·have h:=Hc1.out
      (repeat first|rw [if_pos (by omega)]|rw [if_neg (by omega)]|rw [hDR]|rw [hDN]|rw [hAz]|rw [hSz]|rw [hAC]|rw [hSC]|rw [oMS]|rw [uPC]|rw [lSZ]|rw [lSS]|rfl)
      rw [h]
      (repeat first|rw [if_pos (by omega)]|rw [if_neg (by omega)]|rw [hDR]|rw [hDN]|rw [hAz]|rw [hSz]|rw [hAC]|rw [hSC]|rw [oMS]|rw [uPC]|rw [lSZ]|rw [lSS]|rfl)
     ·have h:=owns_ge Ho.out (own_len oa _ _ _ oc▸hg)
      omega
     ·show Reads _ (.slice oa l.length oc) l.length 1 (u32s l)
      rw [hlj]
      refine (Reads.of_owns Ho.out).keep fun x hx hl=>?_
      have h:=owns_ge Ho.out hx
      rw [sCE _ _ _ (by simp;omega),sCE _ _ _ (by simp;omega),sCE _ _ _ (by simp;omega)]
     ·exact ((Hf9.out.setCell (.inr (by simp;try omega)) _).setCell (.inr (by simp;try omega)) _).setCell (.inr (by simp;try omega)) _
end Go.Proofs.Ytppmnmheodimoaa
end
section
namespace Go.Proofs.Ytppmnmheodimoaa
open Go Go.RowKit Rg Hp Bn
set_option maxHeartbeats 4000000 in
set_option maxRecDepth 100000 in
theorem less_calls {w:World} {da db:List Nat} {va vb:Value} (ha:Reads w va da.length 1 (i64s da)) (hb:Reads w vb db.length 1 (i64s db)) (hDa:Dig 256 da) (hDb:Dig 256 db) (ca:Canon da) (cb:Canon db) (hla:da.length≤1000000) (hlb:db.length≤1000000) :
  Calls Try.prog 91 #[va,vb] w fun e w'=>e=.returned (.bool (decide (val 256 da<val 256 db)))∧Drew w w':=by
 obtain⟨_,a,ac,rfl,haa⟩:=ha
 obtain⟨_,b,bc,rfl,hbb⟩:=hb
 have Ha:=Lib.hid haa
 have Hb:=Lib.hid hbb
 clear haa hbb
 obtain⟨r,hr0⟩:∃ r,decide (val 256 da<val 256 db)=r:=⟨_,rfl⟩
 rw [hr0]
 have Hr0:=Lib.hid hr0
 clear hr0
 by_cases hne:da.length=db.length
 rotate_left
 ·have hd:((da.length:Int) != (db.length:Int))=true:=by simp;omega
  have hc:r=decide (da.length<db.length):=by
   rw [← Hr0.out]
   by_cases hlt:da.length<db.length
   ·rw [decide_eq_true hlt,decide_eq_true (val_lt_len (by omega) hDa hDb cb hlt)]
   ·have:=val_lt_len (by omega) hDb hDa ca (by omega)
    rw [decide_eq_false hlt,decide_eq_false (by omega)]
  obtain⟨q,hq⟩:∃ q,decide (da.length<db.length)=q:=⟨_,rfl⟩
  rw [hq] at hc
  have hq2:decide ((da.length:Int)<db.length)=q:=by rw [← hq,decide_eq_decide];omega
  subst hc
  clear hDa hDb ca cb hne
  go_enter Try.func91,Try.ntmps91
  go_wp2
  go_ret
  exact⟨rfl,Drew.refl _⟩
 ·have hd:((da.length:Int) != (db.length:Int))=false:=by simp;omega
  have HDa:=Lib.hid hDa
  have HDb:=Lib.hid hDb
  have Hne:=Lib.hid hne
  clear hDa hDb ca cb hne
  go_enter Try.func91,Try.ntmps91
  go_wp2
  go_loopw [5] (fun x wr=>∃ (k:Nat) (z:Int),x=.int .i64 z∧z=(k:Int) - 1∧k≤da.length∧da.drop k=db.drop k∧Drew w wr) (fun x _=>(intOf x+1).toNat)
  case atStart=>exact⟨da.length,_,rfl,rfl,Nat.le_refl _,by rw [List.drop_length,Hne.out,List.drop_length],Drew.refl _⟩
  case round =>
   obtain⟨k,z,rfl,hz,hk,hdr,m,rfl⟩:=hrel
   have Hdr:=Lib.hid hdr
   clear hdr
   cases k with
   | zero =>
    have hz':z=-1:=by omega
    subst hz'
    clear hz
    have heq:=Hdr.out
    rw [List.drop_zero,List.drop_zero] at heq
    have hc:r=false:=by rw [← Hr0.out,heq];simp
    have Hc:=Lib.hid hc
    clear hc heq
    go_wp2
    go_ret
    exact⟨by rw [Hc.out];rfl,m,rfl⟩
   | succ k =>
    obtain rfl:z=(k:Int):=by omega
    clear hz
    have hkb:k<db.length:=by have:=Hne.out;omega
    obtain⟨g1,off1,rfl,hg1,hc1⟩:=Ha.out (by omega)
    obtain⟨g2,off2,rfl,hg2,hc2⟩:=Hb.out (by omega)
    have e1:=hc1 k _ (i64s_get (by omega))
    have e2:=hc2 k _ (i64s_get hkb)
    have hxl:=HDa.out.getD (by omega) k
    have hyl:=HDb.out.getD (by omega) k
    have htop:=fun h=>val_lt_top (B:=256) (by omega) HDa.out HDb.out (i:=k) (by omega) Hne.out Hdr.out h
    have htop2:=fun h=>val_lt_top (B:=256) (by omega) HDb.out HDa.out (i:=k) (by omega) Hne.out.symm Hdr.out.symm h
    have hde:=drop_eq_succ (i:=k) (by omega) Hne.out Hdr.out
    have Htop:=Lib.hid htop
    have Htop2:=Lib.hid htop2
    have Hde:=Lib.hid hde
    clear hc1 hc2 htop htop2 hde hxl hyl
    generalize da.getD k 0=x at *
    generalize db.getD k 0=y at *
    by_cases hxy:x=y
    ·subst hxy
     have hn:((x:Int) != x)=false:=by simp
     go_wp2
     (refine wRT (by kernel_rfl) (by kernel_rfl) ?_)
     go_wp2
     refine Strict.intro rfl ?_
     go_wp2
     go_roundw
     case rel=>exact⟨k,_,rfl,rfl,by omega,Hde.out (by first|rfl|trivial),m+1,rfl⟩
     case measure=>first|(simp [intOf];done)|(simp [intOf];omega)
    ·have hn:((x:Int) != y)=true:=by rw [bne_iff_ne];omega
     have hc:r=decide ((x:Int)<y):=by
      rw [← Hr0.out]
      by_cases h:x<y
      ·rw [decide_eq_true (Htop.out h),decide_eq_true (by omega)]
      ·have:=Htop2.out (by omega)
       rw [decide_eq_false (by omega),decide_eq_false (by omega)]
     obtain⟨q,hq⟩:∃ q,decide ((x:Int)<y)=q:=⟨_,rfl⟩
     rw [hq] at hc
     have hq2:decide (x<y)=q:=by rw [← hq,decide_eq_decide];omega
     have Hc:=Lib.hid hc
     clear hc hxy
     go_wp2
     (refine wRT (by kernel_rfl) (by kernel_rfl) ?_)
     go_wp2
     refine Strict.intro rfl ?_
     go_wp2
     (refine wRT (by kernel_rfl) (by kernel_rfl) ?_)
     go_wp2
     refine Strict.intro rfl ?_
     go_wp2
     go_ret
     exact⟨by rw [Hc.out];rfl,m+1+1,rfl⟩
set_option maxHeartbeats 4000000 in
set_option maxRecDepth 100000 in
theorem rplus_calls {w:World} {da db:List Nat} {va vb:Value} (ha:Reads w va da.length 1 (i64s da)) (hb:Reads w vb db.length 1 (i64s db)) (hDa:Dig 256 da) (hDb:Dig 256 db) (hla:da.length≤100000) (hlb:db.length≤100000) :
  Calls Try.prog 90 #[va,vb] w (ListVal w (w.heap.size≤·) (val 256 da+val 256 db) (max da.length db.length+1)):=by
 have hda:=fun w1 (hf:Fr [] w w1) i=>rdigit_calls (ha.fr hf) (by omega) i
 have hdb:=fun w1 (hf:Fr [] w w1) i=>rdigit_calls (hb.fr hf) (by omega) i
 have Hda:=Lib.hid hda
 have Hdb:=Lib.hid hdb
 obtain⟨_,a,ac,rfl,haa⟩:=ha
 obtain⟨_,b,bc,rfl,hbb⟩:=hb
 have HDa:=Lib.hid hDa
 have HDb:=Lib.hid hDb
 obtain⟨M,hM⟩:∃ M,max da.length db.length=M:=⟨_,rfl⟩
 have hM1:da.length≤M:=by omega
 have hM3:M≤100000:=by omega
 have hM2:db.length≤M:=by omega
 have HM:=Lib.hid hM
 rw [hM]
 clear hda hdb haa hbb hDa hDb hM
 go_enter Try.func90,Try.ntmps90
 go_wp2_with fail
 go_loopw [5,6,7] (fun x5 x6 x7 wl=>∃ (i c:Nat) (L:List Nat),x6=.int .i64 c∧x7=.int .i64 i∧i≤M+1∧c≤1∧(i=M+1→c=0)∧Dig 256 L∧L.length=i∧val 256 L+256 ^ i*c=val 256 (da.take i)+val 256 (db.take i)∧wl.ownsRow w.heap.size 3 1 x5 L.length (i64s L)∧Fr [] w wl) (fun _ _ x7 _=>M+1 - (intOf x7).toNat)
 case atStart=>exact⟨0,0,[],rfl,rfl,by omega,by omega,by omega,Dig.nil,rfl,by simp [val],World.ownsRow_nil _ _ _ _,Fr.refl _ _⟩
 case round =>
  obtain⟨i,c,L,rfl,rfl,hi,hc,hcz,hD,hL,hv,ho,hf⟩:=hrel
  obtain⟨oa,oc,rfl,hoa,hon⟩:=oFM ho
  have HDL:=Lib.hid hD
  have HL:=Lib.hid hL
  have Hv:=Lib.hid hv
  have Ho:=Lib.hid ho
  have Hf:=Lib.hid hf
  have Hcz:=Lib.hid hcz
  clear hoa hon hD hL hv ho hf hcz
  by_cases hgo:i<da.length∨i<db.length∨0<c
  ·obtain⟨g1,hg1⟩:∃ g1,decide ((i:Int)<da.length)=g1:=⟨_,rfl⟩
   obtain⟨g2,hg2⟩:∃ g2,decide ((i:Int)<db.length)=g2:=⟨_,rfl⟩
   obtain⟨g3,hg3⟩:∃ g3,decide (0<c)=g3:=⟨_,rfl⟩
   have hg1':decide (i<da.length)=g1:=by rw [← hg1,decide_eq_decide];omega
   have hg2':decide (i<db.length)=g2:=by rw [← hg2,decide_eq_decide];omega
   have hb3:g1=true∨(g1=false∧g2=true)∨(g1=false∧g2=false∧g3=true):=by
    cases g1<;>cases g2<;>cases g3<;>simp_all<;>omega
   have him:i≤M:=by
    rcases Nat.lt_or_ge M i with h|h
    ·have:=Hcz.out (by omega);omega
    ·exact h
   have hx:da.getD i 0<256:=HDa.out.getD (by omega) i
   have hy:db.getD i 0<256:=HDb.out.getD (by omega) i
   have hxm:da.length≤i→da.getD i 0=0:=fun h=>by rw [List.getD_eq_getElem?_getD,List.getElem?_eq_none h];rfl
   have hym:db.length≤i→db.getD i 0=0:=fun h=>by rw [List.getD_eq_getElem?_getD,List.getElem?_eq_none h];rfl
   have Hxm:=Lib.hid (And.intro hxm hym)
   have hta:=val_take_succ 256 da i
   have htb:=val_take_succ 256 db i
   have Hta:=Lib.hid (And.intro hta htb)
   have Hda2:=Lib.hid (fun w1 hf=>Hda.out w1 hf i)
   have Hdb2:=Lib.hid (fun w1 hf=>Hdb.out w1 hf i)
   have Hgo:=Lib.hid hgo
   clear hxm hym hta htb hgo
   generalize da.getD i 0=x at *
   generalize db.getD i 0=y at *
   obtain⟨s,hs⟩:∃ s,s=c+x+y:=⟨_,rfl⟩
   have Es:((x:Int)+y+c)=(s:Nat):=by omega
   have hs9:s<1000:=by omega
   obtain⟨d,hd⟩:∃ d,s % 256=d:=⟨_,rfl⟩
   have Ed:((s:Int) % 256)=(d:Nat):=by omega
   have Hst:=Lib.hid (sum_step (B:=256) (by omega) Hv.out hs)
   have Hs:=Lib.hid (And.intro hs hd)
   clear hs hd
   rcases hb3 with rfl|⟨rfl,rfl⟩|⟨rfl,rfl,rfl⟩
   all_goals
    go_wp2_with fail
    refine (Hda2.out _ Hf.out).mono ?_
    rintro e w2 ⟨rfl,rfl⟩
    go_wp2_with fail
    refine (Hdb2.out _ Hf.out).mono ?_
    rintro e w2 ⟨rfl,rfl⟩
    go_wp2_with (at_builtin;refine append_i64 (n:=L.length) (base:=w.heap.size) (xs:=(i64s L)) (y:=(d:Int)) rfl rfl rfl ?e1 rfl ?e2 ?e3 ?e4 ?_)
    case e1=>exact oOB Ho.out fun y hy=>hAE _ _ _ (oLT Ho.out hy)
    case e2=>first|(first|(rw [hAC,if_pos rfl];done)|exact (Array.getElem?_eq_some_iff.1 ((hAC _ _ _).trans (if_pos rfl))).2|(simp only [hDR,hDN];rw [hAC,if_pos rfl];done))|(repeat first|rw [if_pos (by omega)]|rw [if_neg (by omega)]|rw [hDR]|rw [hDN]|rw [hAz]|rw [hSz]|rw [hAC]|rw [hSC]|rw [oMS]|rw [uPC]|rw [lSZ]|rw [lSS]|rfl)
    case e3=>(have:=HL.out;omega)
    case e4=>have:=Hf.out.size;(first|omega|(simp only [hDR,hDN,hAz];omega)|(simp;omega))
    intro g2 cap w9 hown1 hW1 hF1 hloc1 hg1
    rw [i64s_snoc] at hown1
    have Hown1:=Lib.hid hown1
    have Hf9:=Lib.hid (fr_append Hf.out Ho.out hF1)
    clear hown1 hW1 hF1 hloc1
    go_wp2
    go_roundw
    case rel =>
     have hst:=Hst.out
     rw [Hs.out.2] at hst
     refine⟨i+1,s / 256,L++[d],by go_num,by go_num,by omega,by omega,fun h=>?_,HDL.out.append (fun z hz=>by rw [List.mem_singleton] at hz;have:=Hs.out;omega),by rw [List.length_append,HL.out];rfl,?_,by rw [List.length_append];exact Hown1.out,Hf9.out⟩
     ·have h1:=Hxm.out.1 (by omega)
      have h2:=Hxm.out.2 (by omega)
      have:=Hs.out
      omega
     ·rw [val_snoc,HL.out,Hta.out.1,Hta.out.2,Nat.pow_succ]
      exact hst
    case measure=>simp [intOf];omega
  ·have hc0:c=0:=by omega
   have hg1:decide ((i:Int)<da.length)=false:=by rw [decide_eq_false_iff_not];omega
   have hg2:decide ((i:Int)<db.length)=false:=by rw [decide_eq_false_iff_not];omega
   have hg1':decide (i<da.length)=false:=by rw [decide_eq_false_iff_not];omega
   have hg2':decide (i<db.length)=false:=by rw [decide_eq_false_iff_not];omega
   have hv:=Hv.out
   rw [List.take_of_length_le (by omega),List.take_of_length_le (by omega),hc0,Nat.mul_zero,Nat.add_zero] at hv
   have Hv2:=Lib.hid hv
   subst hc0
   clear hv hgo
   go_wp2
   go_ret
   exact⟨L,HDL.out,Hv2.out,by rw [HL.out];exact hi,oa,oc,⟨owns_cap Ho.out,fun g hg=>owns_ge Ho.out hg⟩,rfl,Reads.of_owns Ho.out,Hf.out⟩
end Go.Proofs.Ytppmnmheodimoaa
end
