/- Own texts of this claim, part 32: no condition. -/
import Derived.Deep.RegionHeld3
import Derived.Deep.DeepCutAuto
import Derived.Test.YtdanghnadbkhfaaGreatZG29
import Derived.Test.YtdanghnadbkhfaaGreatZG30
set_option linter.unusedVariables false
set_option linter.unusedSimpArgs false
section
namespace Go.Proofs.YtdanghnadbkhfaaGreat
open Go Go.RowKit Rg Mp Hp Qs Ev Bn Pt
theorem cellsT_mov:∀ {n:Nat} {t:Tr} {x y:Nat},cellsT n t x y=(cellsT n t 0 0).map (movS x y)
 | 0,.leaf v,x,y=>by unfold cellsT;split<;>simp [movS]
 | 0,.node _ _ _ _,_,_=>rfl
 | n+1,.leaf _,_,_=>rfl
 | n+1,.node a b c d,x,y=>by
  have e:∀ (t:Tr) (p q:Nat),cellsT n t (x+p) (y+q)=(cellsT n t p q).map (movS x y):=fun t p q=>by
   rw [cellsT_mov (x:=x+p),cellsT_mov (x:=p),List.map_map]
   congr 1
   funext c
   simp [movS,Nat.add_assoc]
  unfold cellsT
  rw [List.map_append,List.map_append,List.map_append,← e,← e,← e,← e]
  simp
def cI (n:Nat) (t:Tr) (X Y:Int):List PC:=shC X Y (cellsT n t 0 0)
theorem cI_mov {n:Nat} {t:Tr} {X Y:Int} {p q:Nat}:shC X Y (cellsT n t p q)=cI n t (X+(p:Nat)) (Y+(q:Nat)):=by
 unfold cI shC
 rw [cellsT_mov,List.map_map]
 apply List.map_congr_left
 intro c _
 simp only [Function.comp_apply,movS,PC.mk.injEq,and_true]
 omega
def cpre (n:Nat) (t:Tr) (X Y:Int):Nat→List PC
 | 0=>[]
 | q+1=>cpre n t X Y q++cI n (Tr.q t q) (X+((if q % 2=1 then 2 ^ n else 0:Nat):Int)) (Y+((if 2≤q then 2 ^ n else 0:Nat):Int))
theorem cI_node {n:Nat} {t:Tr} (h:Full (n+1) t) (X Y:Int):cI (n+1) t X Y=cpre n t X Y 4:=by
 cases t with
 | leaf v=>exact h.elim
 | node a b c d =>
  unfold cI cellsT
  rw [shC_append,shC_append,shC_append,cI_mov,cI_mov,cI_mov,cI_mov]
  simp [cpre,Tr.q]
theorem cI_none {n:Nat} {t:Tr} {X Y:Int} (h:Full n t) (h0:popT t=0):cI n t X Y=[]:=by unfold cI;rw [cellsT_none h h0];rfl
theorem cI_leaf {v X Y:Int} (h:v≠0):cI 0 (.leaf v) X Y=[⟨X,Y,v⟩]:=by simp [cI,cellsT,h,shC]
theorem cI_len {n:Nat} {t:Tr} {X Y:Int} (h:Full n t):(cI n t X Y).length=popT t:=by unfold cI shC;rw [List.length_map,cellsT_len h]
theorem cpre_len {n:Nat} {t:Tr} {X Y:Int} (h:∀ q,q<4→Full n (Tr.q t q)):∀ {q:Nat},q≤4→(cpre n t X Y q).length=sumq t q
 | 0,_=>rfl
 | q+1,hq=>by
  unfold cpre sumq
  rw [List.length_append,cpre_len h (by omega),cI_len (h q (by omega))]
abbrev IV:=Int×Option Addr×Nat
def ivV (p:IV):Value:=.agg #[.bool (decide (p.1<0)),.slice p.2.1 (zd p.1).length p.2.2]
def ivF (p:IV):List Nat:=if (zd p.1).length=0 then [] else (Value.slice p.2.1 (zd p.1).length p.2.2).ownBlock.toList
def poolI (L:List IV):Res where
 holds w F:=(∀ e∈L,BigIn w (decide (e.1<0)) (zd e.1) e.2.1 e.2.2∧∀ x∈ivF e,x∈F)∧∀ x∈F,x<w.heap.size
 keep:=fun {w w' F} ⟨h1,h2⟩ hk=>⟨fun e he=>⟨big_keep (h1 e he).1 fun x hx=>hk x ((h1 e he).2 x hx),(h1 e he).2⟩,fun x hx=>by
  obtain⟨o,ho⟩:∃ o,w.heap[x]?=some o:=⟨_,Array.getElem?_eq_getElem (h2 x hx)⟩
  exact lBk ((hk x hx).trans ho)⟩
 lt:=fun ⟨_,h2⟩=>h2
theorem pooli_nil {W w:World} {Ps:List Res} (h:Has W w Ps):Has W w (poolI []::Ps):=h.new (Fr.refl [] w) (F:=[]) ⟨by simp,by simp⟩ (by simp)
theorem pooli_in {W w:World} {L:List IV} {Ps:List Res} (h:Has W w Ps) (hm:poolI L∈Ps) {e:IV} (he:e∈L):BigZ w (fun _=>True) (ivV e) e.1:=by
 obtain⟨F,h1,_⟩:=has_mem h hm
 exact in_zi (h1 e he).1
theorem pooli_add {W w:World} {L:List IV} {z:Int} {a:Option Addr} {c:Nat} {Ps:List Res} (h:Has W w (bigR (decide (z<0)) (zd z) a c::poolI L::Ps)):Has W w (poolI ((z,a,c)::L)::Ps) :=
 h.merge fun F G hF hG hd=>by
  obtain⟨f1,f2⟩:=hF
  obtain⟨g1,g2⟩:=hG
  refine⟨F++G,⟨fun e he=>?_,fun x hx=>?_⟩,Fr.refl _ _,fun x hx=>List.mem_append.1 hx⟩
  ·rw [List.mem_cons] at he
   rcases he with rfl|he
   ·refine⟨f1,fun x hx=>List.mem_append.2 (.inl ?_)⟩
    rw [f2];exact hx
   ·exact⟨(g1 e he).1,fun x hx=>List.mem_append.2 (.inr ((g1 e he).2 x hx))⟩
  ·rw [List.mem_append] at hx
   rcases hx with hx|hx
   ·exact big_lt f1 x (by rw [f2] at hx;exact hx)
   ·exact g2 x hx
structure SI where
 X:IV
 Y:IV
 st:Int
def SI.pc (e:SI):PC:=⟨e.X.1,e.Y.1,e.st⟩
def siE (e:SI):List Value:=[.bool (decide (e.X.1<0)),.slice e.X.2.1 (zd e.X.1).length e.X.2.2,.bool (decide (e.Y.1<0)),.slice e.Y.2.1 (zd e.Y.1).length e.Y.2.2,.int .i64 e.st]
def sis (l:List SI):List Value:=l.flatMap siE
theorem sis_get:∀ {l:List SI} {i:Nat} {c:SI},l[i]?=some c→∀ {j:Nat} {u:Value},(siE c)[j]?=some u→(sis l)[i*5+j]?=some u
 | [],i,c,h,_,_,_=>by simp at h
 | d::l,0,c,h,j,u,hu=>by
  simp only [List.getElem?_cons_zero,Option.some.injEq] at h
  subst h
  have e:sis (d::l)=siE d++sis l:=rfl
  rw [e,Nat.zero_mul,Nat.zero_add,List.getElem?_append_left (List.getElem?_eq_some_iff.1 hu).1]
  exact hu
 | d::l,i+1,c,h,j,u,hu=>by
  have:=sis_get (l:=l) (i:=i) (by simpa using h) hu
  have e:sis (d::l)=siE d++sis l:=rfl
  rw [e,List.getElem?_append_right (by simp [siE];omega),show (i+1)*5+j - (siE d).length=i*5+j by simp [siE];omega]
  exact this
theorem sis_snoc (l:List SI) (c:SI):sis l++[.bool (decide (c.X.1<0)),.slice c.X.2.1 (zd c.X.1).length c.X.2.2,.bool (decide (c.Y.1<0)),.slice c.Y.2.1 (zd c.Y.1).length c.Y.2.2,.int .i64 c.st]=sis (l++[c]):=by simp [sis,siE]
theorem sis_cell {w:World} {a:Option Addr} {n c:Nat} {l:List SI} (h:Reads w (.slice a n c) l.length 5 (sis l)) {i:Nat} {p:SI} (hi:l[i]?=some p) :
  ∃ g off,a=some ⟨g,off,none⟩∧g<w.heap.size∧w.cell? ⟨g,off+i*5,none⟩=some (.bool (decide (p.X.1<0)))∧w.cell? ⟨g,off+i*5+1,none⟩=some (.slice p.X.2.1 (zd p.X.1).length p.X.2.2)∧w.cell? ⟨g,off+i*5+2,none⟩=some (.bool (decide (p.Y.1<0)))∧w.cell? ⟨g,off+i*5+3,none⟩=some (.slice p.Y.2.1 (zd p.Y.1).length p.Y.2.2)∧w.cell? ⟨g,off+i*5+4,none⟩=some (.int .i64 p.st):=by
 obtain⟨_,a',c',he,h2⟩:=h
 cases he
 obtain⟨g,off,rfl,hg,hc⟩:=h2 (by have:=(List.getElem?_eq_some_iff.1 hi).1;omega)
 have q:∀ {j u},(siE p)[j]?=some u→w.cell? ⟨g,off+i*5+j,none⟩=some u:=fun hu=>by
  have:=hc _ _ (sis_get hi hu)
  rwa [← Nat.add_assoc] at this
 exact⟨g,off,rfl,hg,q (j:=0) rfl,q (j:=1) rfl,q (j:=2) rfl,q (j:=3) rfl,q (j:=4) rfl⟩
def rowI (v:Value) (E:List SI):Res:=Hp.row 117 5 v E.length (sis E)
theorem append_si {ops:Array Oper} {rest:List Oper} {o:Oper} {a:Act} {W:World} {Q:Exit→Act→World→Prop} (hgd:o.guard=none) {s x:Operand} (ho:o.op=.call { callee:=.builtin .append,args:=#[s,x],argTypes:=#[112,112] })
  {base:Nat} {v:Value} {n:Nat} {xs:List Value} (hs:a.eval s=v) (hown:W.ownsRow base 117 5 v n xs) {nb c:Nat} {y:SI} (hx:a.eval x=.slice (some ⟨nb,0,none⟩) 1 c)
  (hnb:W.heap[nb]?=some (.cells #[.bool (decide (y.X.1<0)),.slice y.X.2.1 (zd y.X.1).length y.X.2.2,.bool (decide (y.Y.1<0)),.slice y.Y.2.1 (zd y.Y.1).length y.Y.2.2,.int .i64 y.st] 117 (0,0))) (hn:n≤1000000000000) (hbase:base≤W.heap.size)
  (h:∀ g cap w',w'.ownsRow base 117 5 (.slice (some ⟨g,0,none⟩) (n+1) cap) (n+1) (xs++[.bool (decide (y.X.1<0)),.slice y.X.2.1 (zd y.X.1).length y.X.2.2,.bool (decide (y.Y.1<0)),.slice y.Y.2.1 (zd y.Y.1).length y.Y.2.2,.int .i64 y.st])→(∀ b,b<W.heap.size→v.ownBlock≠some b→w'.heap[b]?=W.heap[b]?)→Fr v.ownBlock.toList W w'→(v.ownBlock=some g∨g=W.heap.size)→g<w'.heap.size →
   wpList Tryz.prog ops Q rest (a.put o.dst (.slice (some ⟨g,0,none⟩) (n+1) cap)) w'):wpList Tryz.prog ops Q (o::rest) a W :=
 append_new hgd ho Tryz.underlying112 info_sv rfl (by decide) hs hown hx (news:=[.bool (decide (y.X.1<0)),.slice y.X.2.1 (zd y.X.1).length y.X.2.2,.bool (decide (y.Y.1<0)),.slice y.Y.2.1 (zd y.Y.1).length y.Y.2.2,.int .i64 y.st]) hnb rfl (by intro u hu;simp at hu;rcases hu with rfl|rfl|rfl|rfl|rfl<;>rfl) (by unfold maxLen;omega) (by omega) hbase h
theorem kids_nodeR {s:Int} {ns:List K4} {j:Nat} {k:K4} (hj:ns[j]?=some k):kidsOf s ns (s+j)=(k,true):=by
 unfold kidsOf
 rw [if_neg (by omega),show (s+(j:Int) - s).toNat=j by omega,hj]
theorem zok_abs {z:Int} {m:Nat} (h:z.natAbs≤2 ^ m) (hm:m≤2047):Zok z:=zok_le (zok_pow (n:=m) hm) (by rw [Int.natAbs_natCast];exact h)
end Go.Proofs.YtdanghnadbkhfaaGreat
end
section
namespace Go.Proofs.YtdanghnadbkhfaaGreat
open Go Go.RowKit Rg Mp Hp Qs Ev Bn Pt
def CellPost (W:World) (E:List SI) (PL:List IV) (Ps:List Res) (C:List PC) (e:Ending) (w':World):Prop :=
 ∃ (a':Option Addr) (c':Nat) (E':List SI) (PL':List IV),e=.returned (.slice a' E'.length c')∧(E'.map SI.pc=E.map SI.pc++C∧(∀ e∈E',e.X∈PL'∧e.Y∈PL')∧∀ z∈PL,z∈PL')∧Has W w' (rowI (.slice a' E'.length c') E'::poolI PL'::Ps)
structure CellHyp (s:Int) (ns:List K4) (B:List BV):Prop where
 good:GoodQ s ns
 len:(B.length:Int)=s+ns.length
 ok:BOk s ns B
def RCellAt (W:World) (b:Nat) (s:Int) (ns:List K4) (sa:Option Addr) (sc:Nat) (B:List BV) (m n:Nat):Prop :=
 ∀ (w:World) (Ps:List Res) (a:Option Addr) (c:Nat) (E:List SI) (PL:List IV) (id:Int) (t:Tr) (x y:IV),Has W w (rowI (.slice a E.length c) E::poolI PL::Ps)→refR b s ns∈Ps→rowB (.slice sa B.length sc) B∈Ps→poolR B∈Ps→Is s ns n id t→E.length+popT t≤100000→(∀ e∈E,e.X∈PL∧e.Y∈PL)→x∈PL→y∈PL →
  (x.1.natAbs+2 ^ n≤2 ^ m∧y.1.natAbs+2 ^ n≤2 ^ m) →
  Calls Tryz.prog 57 #[.pointer (some ⟨b,0,none⟩),.slice sa B.length sc,.int .i64 id,ivV x,ivV y,.slice a E.length c] w (CellPost W E PL Ps (cI n t x.1 y.1))
set_option maxHeartbeats 16000000 in
set_option maxRecDepth 100000 in
theorem Rcells_none {W:World} {b:Nat} {s:Int} {ns:List K4} {sa:Option Addr} {sc:Nat} {B:List BV} {m n:Nat} (HY:Hid (CellHyp s ns B)) (hn:n≤256) {w:World} {Ps:List Res} {a:Option Addr} {c:Nat} {E:List SI} {PL:List IV} {id:Int} {t:Tr} {x y:IV} (h:Has W w (rowI (.slice a E.length c) E::poolI PL::Ps)) (hR:refR b s ns∈Ps) (hS:rowB (.slice sa B.length sc) B∈Ps) (hP:poolR B∈Ps) (hi:Is s ns n id t) (hlen:E.length+popT t≤100000) (hel:∀ e∈E,e.X∈PL∧e.Y∈PL) (hx:x∈PL) (hy:y∈PL)
  (hz:x.1.natAbs+2 ^ n≤2 ^ m∧y.1.natAbs+2 ^ n≤2 ^ m) (h0:popT t=0) :
  Calls Tryz.prog 57 #[.pointer (some ⟨b,0,none⟩),.slice sa B.length sc,.int .i64 id,ivV x,ivV y,.slice a E.length c] w (CellPost W E PL Ps (cI n t x.1 y.1)):=by
 rw [cI_none hi.2.2.1 h0]
 have HCM:=Lib.hid (show cmpI ((popT t:Nat):Int) 0=0 from by rw [h0];rfl)
 clear h0
 obtain⟨X,ax,cx⟩:=x
 obtain⟨Y,ay,cy⟩:=y
 obtain⟨k,rfl⟩:=Int.eq_ofNat_of_zero_le hi.1.1
 obtain⟨⟨V,aV,cV⟩,hBk⟩:∃ e,B[k]?=some e:=⟨_,List.getElem?_eq_getElem (by have:=HY.out.len;have:=hi.1.2;omega)⟩
 have hVp:V=popT t:=by have:=HY.out.ok k _ hBk;rw [hi.2.1] at this;exact this
 have hkl:((k:Nat):Int)<(B.length:Nat):=by have:=HY.out.len;have:=hi.1.2;omega
 have HBK:=Lib.hid hBk
 have HVZ:=Lib.hid (show Zok (V:Int) from by rw [hVp];exact pop_zok hn hi.2.2.1)
 have HVP:=Lib.hid hVp
 have HI:=Lib.hid hi
 have HM:=Lib.hid (And.intro hR (And.intro hS hP))
 have HE:=Lib.hid (And.intro hel (And.intro hx hy))
 have HZ:=Lib.hid hz
 have HLN:=Lib.hid hlen
 obtain⟨nx,hnx⟩:∃ o,decide (X<0)=o:=⟨_,rfl⟩
 obtain⟨ny,hny⟩:∃ o,decide (Y<0)=o:=⟨_,rfl⟩
 obtain⟨Dx,hDx⟩:∃ o,zd X=o:=⟨_,rfl⟩
 obtain⟨Dy,hDy⟩:∃ o,zd Y=o:=⟨_,rfl⟩
 have HND:=Lib.hid (And.intro hnx (And.intro hDx (And.intro hny hDy)))
 have h1:=(hAL (hAL h #[.bool nx,.slice ax Dx.length cx] 27) #[.bool ny,.slice ay Dy.length cy] 27).swap
 rw [hAz] at h1
 obtain⟨x9,hx9⟩:∃ z,w.heap.size=z:=⟨_,rfl⟩
 rw [hx9] at h1
 have H1:=Lib.hid h1
 simp only [ivV,hnx,hny,hDx,hDy]
 clear h hi hR hS hP hel hx hy hz hlen hBk hVp hnx hny hDx hDy h1
 go_enter Tryz.func57,Tryz.ntmps57
 go_wp2
 clear hx9
 refine aBW (fun w'=>Has W w' (Hp.blk x9 (.cells #[.bool nx,.slice ax Dx.length cx] 27 (0,0))::Hp.blk (x9+1) (.cells #[.bool ny,.slice ay Dy.length cy] 27 (0,0))::rowI (.slice a E.length c) E::poolI PL::Ps)) ?hasw ?_
 case hasw=>exact H1.out.step (by (repeat first|exact Fr.refl _ _|assumption|apply Fr.n|apply Fr.d|apply Fr.a|refine Fr.s ?_ (.inr (by simp;try omega)) _))
 clear H1
 intro w2 h2
 obtain⟨G,hG,_⟩:=has_mem_new (P:=rowB (.slice sa B.length sc) B) h2 (by simp [HM.out.2.1])
 obtain⟨g,off,rfl,hg,b0,b1⟩:=bvs_cell (Reads.of_owns hG.1) HBK.out
 simp only at b0 b1
 have HVB:=Lib.hid (show ∀ w1,Fr [] w2 w1→BigZ w1 (fun _=>True) (bvV (V,aV,cV)) (V:Int) from fun w1 hf=>in_z' (pool_in (h2.step hf) (by simp [HM.out.2.2]) (List.mem_of_getElem? HBK.out)))
 simp only [bvV] at HVB
 have H2:=Lib.hid h2
 clear h2 hG
 refine wRS [([0,1,2,3,4],[3]),([5,6],[])] (by kernel_rfl) (by kernel_rfl) ?_
 (simp only [wpSegs,pick,Array.getD_eq_getD_getElem?,List.getElem?_toArray,List.getElem?_cons_succ,List.getElem?_cons_zero,Option.getD_some])
 go_wp2_with fail
 refine (RFrom_z (x:=0) (by omega) (by omega)).mono ?_
 rintro e w3 ⟨v3,rfl,hb3,hf3'⟩
 have hf3:Fr [] w2 w3:=Fr.trans0 (by (repeat first|exact Fr.refl _ _|assumption|apply Fr.n|apply Fr.d|apply Fr.a|refine Fr.s ?_ (.inr (by simp;try omega)) _)) hf3'
 have b0:=(hf3.cell (p:=⟨g,_,none⟩) hg (by simp)).trans b0
 have b1:=(hf3.cell (p:=⟨g,_,none⟩) hg (by simp)).trans b1
 have HF3:=Lib.hid hf3
 have HB3:=Lib.hid hb3
 have HCB:=Lib.hid (show w3.rangeAt g (off+k*2) [.bool false,.slice aV (zd (V:Int)).length cV] from fun j v hj=>by
  have:j=0∨j=1∨2≤j:=by omega
  rcases this with rfl|rfl|h2
  ·cases hj;exact b0
  ·cases hj;exact b1
  ·rw [List.getElem?_eq_none (by simpa using h2)] at hj;cases hj)
 clear hf3 hf3' hb3
 go_wp2
 refine Mid.intro ⟨⟨aGR (T:=27) (cs:=[.bool false,.slice aV (zd (V:Int)).length cV]) rfl rfl rfl Tryz.underlying27 rfl (by kernel_rfl) HCB.out rfl,trivial⟩,?_⟩
 go_wp2_with fail
 refine (RCompare_z (HVB.out _ (HF3.out.trans0 (by (repeat first|exact Fr.refl _ _|assumption|apply Fr.n|apply Fr.d|apply Fr.a|refine Fr.s ?_ (.inr (by simp;try omega)) _)))) (HB3.out.fr0 (by (repeat first|exact Fr.refl _ _|assumption|apply Fr.n|apply Fr.d|apply Fr.a|refine Fr.s ?_ (.inr (by simp;try omega)) _))) HVZ.out (zok_int (by omega) (by omega))).mono ?_
 rw [HVP.out,HCM.out]
 rintro e w4 ⟨rfl,hf4⟩
 have H4:=Lib.hid (H2.out.step (HF3.out.trans0 (Fr.trans0 (by (repeat first|exact Fr.refl _ _|assumption|apply Fr.n|apply Fr.d|apply Fr.a|refine Fr.s ?_ (.inr (by simp;try omega)) _)) hf4)))
 clear hf4 HF3 HB3 HCB b0 b1 hg HVB H2
 go_wp2
 refine Mid.intro ⟨trivial,Strict.intro rfl ?_⟩
 go_wp2
 go_ret
 exact⟨a,c,E,PL,rfl,⟨by simp,HE.out.1,fun z hz=>hz⟩,H4.out.drop.drop.step (by (repeat first|exact Fr.refl _ _|assumption|apply Fr.n|apply Fr.d|apply Fr.a|refine Fr.s ?_ (.inr (by simp;try omega)) _))⟩
set_option maxHeartbeats 16000000 in
set_option maxRecDepth 100000 in
theorem Rcells_leaf {W:World} {b:Nat} {s:Int} {ns:List K4} {sa:Option Addr} {sc:Nat} {B:List BV} {m:Nat} (HY:Hid (CellHyp s ns B)) {w:World} {Ps:List Res} {a:Option Addr} {c:Nat} {E:List SI} {PL:List IV} {id:Int} {t:Tr} {x y:IV} (h:Has W w (rowI (.slice a E.length c) E::poolI PL::Ps)) (hR:refR b s ns∈Ps) (hS:rowB (.slice sa B.length sc) B∈Ps) (hP:poolR B∈Ps) (hi:Is s ns 0 id t) (hlen:E.length+popT t≤100000) (hel:∀ e∈E,e.X∈PL∧e.Y∈PL) (hx:x∈PL) (hy:y∈PL)
  (hz:x.1.natAbs+2 ^ 0≤2 ^ m∧y.1.natAbs+2 ^ 0≤2 ^ m) (h0:popT t≠0) :
  Calls Tryz.prog 57 #[.pointer (some ⟨b,0,none⟩),.slice sa B.length sc,.int .i64 id,ivV x,ivV y,.slice a E.length c] w (CellPost W E PL Ps (cI 0 t x.1 y.1)):=by
 have hn:0≤256:=by omega
 have hids:id<s:=by
  have hg:=HY.out.good
  rcases hi.1.cases with ⟨_,h1⟩|⟨i,k,rfl,hk⟩
  ·exact h1
  ·exfalso
   have h3:=hi.2.2.1
   rw [← hi.2.1,tr_node hg hk] at h3
   exact h3
 have ht:t=.leaf id:=by rw [← hi.2.1,tr_leaf hids]
 have hidz:id≠0:=fun e=>h0 (by rw [ht,e];rfl)
 rw [ht,cI_leaf hidz]
 have hp1:popT t=1:=by rw [ht];unfold popT;rw [if_neg hidz]
 rw [← ht] at *
 have HCM:=Lib.hid (show cmpI ((popT t:Nat):Int) 0=1 from by rw [hp1];rfl)
 have HP1:=Lib.hid hp1
 have HKO:=Lib.hid (show kidsOf s ns id=(⟨0,0,0,0⟩,false) by unfold kidsOf;rw [if_pos hids])
 clear h0 ht hidz hp1 hids
 obtain⟨X,ax,cx⟩:=x
 obtain⟨Y,ay,cy⟩:=y
 obtain⟨k,rfl⟩:=Int.eq_ofNat_of_zero_le hi.1.1
 obtain⟨⟨V,aV,cV⟩,hBk⟩:∃ e,B[k]?=some e:=⟨_,List.getElem?_eq_getElem (by have:=HY.out.len;have:=hi.1.2;omega)⟩
 have hVp:V=popT t:=by have:=HY.out.ok k _ hBk;rw [hi.2.1] at this;exact this
 have hkl:((k:Nat):Int)<(B.length:Nat):=by have:=HY.out.len;have:=hi.1.2;omega
 have HBK:=Lib.hid hBk
 have HVZ:=Lib.hid (show Zok (V:Int) from by rw [hVp];exact pop_zok hn hi.2.2.1)
 have HVP:=Lib.hid hVp
 have HI:=Lib.hid hi
 have HM:=Lib.hid (And.intro hR (And.intro hS hP))
 have HE:=Lib.hid (And.intro hel (And.intro hx hy))
 have HZ:=Lib.hid hz
 have HLN:=Lib.hid hlen
 obtain⟨nx,hnx⟩:∃ o,decide (X<0)=o:=⟨_,rfl⟩
 obtain⟨ny,hny⟩:∃ o,decide (Y<0)=o:=⟨_,rfl⟩
 obtain⟨Dx,hDx⟩:∃ o,zd X=o:=⟨_,rfl⟩
 obtain⟨Dy,hDy⟩:∃ o,zd Y=o:=⟨_,rfl⟩
 have HND:=Lib.hid (And.intro hnx (And.intro hDx (And.intro hny hDy)))
 have h1:=(hAL (hAL h #[.bool nx,.slice ax Dx.length cx] 27) #[.bool ny,.slice ay Dy.length cy] 27).swap
 rw [hAz] at h1
 obtain⟨x9,hx9⟩:∃ z,w.heap.size=z:=⟨_,rfl⟩
 rw [hx9] at h1
 have H1:=Lib.hid h1
 simp only [ivV,hnx,hny,hDx,hDy]
 clear h hi hR hS hP hel hx hy hz hlen hBk hVp hnx hny hDx hDy h1
 go_enter Tryz.func57,Tryz.ntmps57
 go_wp2
 clear hx9
 refine aBW (fun w'=>Has W w' (Hp.blk x9 (.cells #[.bool nx,.slice ax Dx.length cx] 27 (0,0))::Hp.blk (x9+1) (.cells #[.bool ny,.slice ay Dy.length cy] 27 (0,0))::rowI (.slice a E.length c) E::poolI PL::Ps)) ?hasw ?_
 case hasw=>exact H1.out.step (by (repeat first|exact Fr.refl _ _|assumption|apply Fr.n|apply Fr.d|apply Fr.a|refine Fr.s ?_ (.inr (by simp;try omega)) _))
 clear H1
 intro w2 h2
 obtain⟨G,hG,_⟩:=has_mem_new (P:=rowB (.slice sa B.length sc) B) h2 (by simp [HM.out.2.1])
 obtain⟨g,off,rfl,hg,b0,b1⟩:=bvs_cell (Reads.of_owns hG.1) HBK.out
 simp only at b0 b1
 have HVB:=Lib.hid (show ∀ w1,Fr [] w2 w1→BigZ w1 (fun _=>True) (bvV (V,aV,cV)) (V:Int) from fun w1 hf=>in_z' (pool_in (h2.step hf) (by simp [HM.out.2.2]) (List.mem_of_getElem? HBK.out)))
 simp only [bvV] at HVB
 have H2:=Lib.hid h2
 clear h2 hG
 refine wRS [([0,1,2,3,4],[3]),([5,6],[])] (by kernel_rfl) (by kernel_rfl) ?_
 (simp only [wpSegs,pick,Array.getD_eq_getD_getElem?,List.getElem?_toArray,List.getElem?_cons_succ,List.getElem?_cons_zero,Option.getD_some])
 go_wp2_with fail
 refine (RFrom_z (x:=0) (by omega) (by omega)).mono ?_
 rintro e w3 ⟨v3,rfl,hb3,hf3'⟩
 have hf3:Fr [] w2 w3:=Fr.trans0 (by (repeat first|exact Fr.refl _ _|assumption|apply Fr.n|apply Fr.d|apply Fr.a|refine Fr.s ?_ (.inr (by simp;try omega)) _)) hf3'
 have b0:=(hf3.cell (p:=⟨g,_,none⟩) hg (by simp)).trans b0
 have b1:=(hf3.cell (p:=⟨g,_,none⟩) hg (by simp)).trans b1
 have HF3:=Lib.hid hf3
 have HB3:=Lib.hid hb3
 have HCB:=Lib.hid (show w3.rangeAt g (off+k*2) [.bool false,.slice aV (zd (V:Int)).length cV] from fun j v hj=>by
  have:j=0∨j=1∨2≤j:=by omega
  rcases this with rfl|rfl|h2
  ·cases hj;exact b0
  ·cases hj;exact b1
  ·rw [List.getElem?_eq_none (by simpa using h2)] at hj;cases hj)
 clear hf3 hf3' hb3
 go_wp2
 refine Mid.intro ⟨⟨aGR (T:=27) (cs:=[.bool false,.slice aV (zd (V:Int)).length cV]) rfl rfl rfl Tryz.underlying27 rfl (by kernel_rfl) HCB.out rfl,trivial⟩,?_⟩
 go_wp2_with fail
 refine (RCompare_z (HVB.out _ (HF3.out.trans0 (by (repeat first|exact Fr.refl _ _|assumption|apply Fr.n|apply Fr.d|apply Fr.a|refine Fr.s ?_ (.inr (by simp;try omega)) _)))) (HB3.out.fr0 (by (repeat first|exact Fr.refl _ _|assumption|apply Fr.n|apply Fr.d|apply Fr.a|refine Fr.s ?_ (.inr (by simp;try omega)) _))) HVZ.out (zok_int (by omega) (by omega))).mono ?_
 rw [HVP.out,HCM.out]
 rintro e w4 ⟨rfl,hf4⟩
 have H4:=Lib.hid (H2.out.step (HF3.out.trans0 (Fr.trans0 (by (repeat first|exact Fr.refl _ _|assumption|apply Fr.n|apply Fr.d|apply Fr.a|refine Fr.s ?_ (.inr (by simp;try omega)) _)) hf4)))
 clear hf4 HF3 HB3 HCB b0 b1 hg HVB H2
 go_wp2
 refine Mid.intro ⟨trivial,Strict.intro rfl ?_⟩
 obtain⟨G,hG,_⟩:=has_mem_new (P:=refR b s ns) H4.out (by simp [HM.out.1])
 have HK:=Lib.hid (fun w1 (hf:Fr [] w4 w1)=>RKids_calls (RefAt.fr hG hf (by simp)) ((k:Nat):Int))
 rw [HKO.out] at HK
 simp only [kv] at HK
 clear hG
 go_wp2_with fail
 refine (HK.out _ (by (repeat first|exact Fr.refl _ _|assumption|apply Fr.n|apply Fr.d|apply Fr.a|refine Fr.s ?_ (.inr (by simp;try omega)) _))).mono ?_
 rintro e w5 ⟨rfl,hf5⟩
 have h5:=H4.out.step (Fr.trans0 (by (repeat first|exact Fr.refl _ _|assumption|apply Fr.n|apply Fr.d|apply Fr.a|refine Fr.s ?_ (.inr (by simp;try omega)) _)) hf5)
 have H5:=Lib.hid h5
 clear hf5 h5 HK H4
 have hb:=H5.out.blk
 have a0:=hEC hb 0
 have a1:=hEC hb 1
 have az0:=hEF hb 0
 have az1:=hEF hb 1
 have al:=lBk hb
 have hb:=H5.out.swap.blk
 have d0:=hEC hb 0
 have d1:=hEC hb 1
 have dz0:=hEF hb 0
 have dz1:=hEF hb 1
 have dl:=lBk hb
 clear hb
 have h6:=H5.out.ord 4 [2,3,0,1]
 simp only [List.filterMap_cons,List.filterMap_nil,List.getElem?_cons_zero,List.getElem?_cons_succ,List.drop_succ_cons,List.drop_zero,List.cons_append,List.nil_append] at h6
 have HO:=Lib.hid (show World.ownsRow w5 0 117 5 (.slice a E.length c) E.length (sis E) from h6.row)
 have H6:=Lib.hid h6
 clear h6
 obtain⟨hn1,hn2,hn3,hn4⟩:=HND.out
 subst hn1 hn2 hn3 hn4
 clear HND
 go_wp2_with (at_builtin;refine append_si (n:=E.length) (base:=0) (xs:=sis E) (y:=⟨(X,ax,cx),(Y,ay,cy),((k:Nat):Int)⟩) rfl rfl rfl ?e1 rfl ?e2 ?e3 ?e4 ?_)
 case e1=>exact oOB HO.out fun g hg=>by have h:=oLT HO.out hg;(repeat first|rw [if_pos (by omega)]|rw [if_neg (by omega)]|rw [hDR]|rw [hDN]|rw [hAz]|rw [hSz]|rw [hAC]|rw [hSC]|rw [oMS]|rw [uPC]|rw [lSZ]|rw [lSS]|rfl)
 case e2=>first|(first|(rw [hAC,if_pos rfl];done)|exact (Array.getElem?_eq_some_iff.1 ((hAC _ _ _).trans (if_pos rfl))).2|(simp only [hDR,hDN];rw [hAC,if_pos rfl];done))|(refine (Array.getElem?_eq_some_iff.1 ?_).2;(repeat first|rw [if_pos (by omega)]|rw [if_neg (by omega)]|rw [hDR]|rw [hDN]|rw [hAz]|rw [hSz]|rw [hAC]|rw [hSC]|rw [oMS]|rw [uPC]|rw [lSZ]|rw [lSS]|rfl))
 case e3=>have:=HLN.out;omega
 case e4=>omega
 intro g2 cap w10 hown1 hW1 hF1 hloc1 hg1
 rw [sis_snoc _ ⟨(X,ax,cx),(Y,ay,cy),((k:Nat):Int)⟩] at hown1
 have h9:=hAP (n':=(E++([⟨(X,ax,cx),(Y,ay,cy),((k:Nat):Int)⟩]:List SI)).length) (H6.out.step (by (repeat first|exact Fr.refl _ _|assumption|apply Fr.n|apply Fr.d|apply Fr.a|refine Fr.s ?_ (.inr (by simp;try omega)) _))) (by rw [List.length_append];exact hown1) rfl hF1 (by rcases hloc1 with h|h;exact .inl h;exact .inr (by rw [h];simp))
 have h9:=h9.ord 4 [0,1]
 simp only [List.filterMap_cons,List.filterMap_nil,List.getElem?_cons_zero,List.getElem?_cons_succ,List.drop_succ_cons,List.drop_zero,List.cons_append,List.nil_append] at h9
 have H9:=Lib.hid h9
 clear a0 a1 az0 az1 al d0 d1 dz0 dz1 dl
 clear h9 hown1 hW1 hF1 hloc1 hg1 HO
 go_wp2
 go_ret
 refine⟨some ⟨g2,0,none⟩,cap,E++[⟨(X,ax,cx),(Y,ay,cy),((k:Nat):Int)⟩],PL,by rw [List.length_append];rfl,⟨by rw [List.map_append];rfl,fun e he=>?_,fun z hz=>hz⟩,?_⟩
 ·rw [List.mem_append] at he
  rcases he with he|he
  ·exact HE.out.1 e he
  ·rw [List.mem_singleton] at he;subst he;exact HE.out.2
 ·have:=H9.out.step (by (repeat first|exact Fr.refl _ _|assumption|apply Fr.n|apply Fr.d|apply Fr.a|refine Fr.s ?_ (.inr (by simp;try omega)) _))
  rw [List.length_append]
  exact this
end Go.Proofs.YtdanghnadbkhfaaGreat
end
