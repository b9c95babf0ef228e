/- Own texts of this claim, part 6: no condition. -/
import Derived.LoopN
import Derived.Lib.Hide
import Derived.Test.YtppmnmheodimoaaZD4
import Derived.Test.YtppmnmheodimoaaZD2
import Derived.Test.YtppmnmheodimoaaZD3
set_option linter.unusedVariables false
set_option linter.unusedSimpArgs false
section
namespace Go.Proofs.Ytppmnmheodimoaa
open Go Go.RowKit Rg Mp Hp Qs
def flat (ns:List K4):List Value:=ns.flatMap fun k=>[.int .i64 k.a,.int .i64 k.b,.int .i64 k.c,.int .i64 k.d]
structure StoreIn (w:World) (b:Nat) (s:Int) (ns:List K4) (nv lv:Value) (mb:Nat):Prop where
 blk:w.heap[b]?=some (.cells #[.int .i64 s,nv,lv,.map (some mb)] 107 (0,0))
 nodes:w.ownsRow 0 77 4 nv ns.length (flat ns)
 levels:w.ownsRow 0 3 1 lv ns.length ((levs s ns).map (Value.int .i64))
 known:MapIs w mb kv (Value.int .i64) (pairs s ns)
 ne1:b≠mb
 ne2:nv.ownBlock≠some b
 ne3:nv.ownBlock≠some mb
 ne4:lv.ownBlock≠some b
 ne5:lv.ownBlock≠some mb
 ne6:∀ g,nv.ownBlock=some g→lv.ownBlock≠some g
def foot (b:Nat) (nv lv:Value) (mb:Nat):List Nat:=b::mb::(nv.ownBlock.toList++lv.ownBlock.toList)
def StoreAt (w:World) (b:Nat) (s:Int) (ns:List K4) (F:List Nat):Prop:=GoodQ s ns∧∃ nv lv mb,StoreIn w b s ns nv lv mb∧F=foot b nv lv mb
theorem StoreIn.keep {w w':World} {b mb:Nat} {s:Int} {ns:List K4} {nv lv:Value} (h:StoreIn w b s ns nv lv mb) (hk:∀ x∈foot b nv lv mb,w'.heap[x]?=w.heap[x]?):StoreIn w' b s ns nv lv mb where
 blk:=(hk b (by simp [foot])).trans h.blk
 nodes:=oOB h.nodes fun g hg=>hk g (by simp [foot,hg])
 levels:=oOB h.levels fun g hg=>hk g (by simp [foot,hg])
 known:=h.known.of_block (hk mb (by simp [foot]))
 ne1:=h.ne1
 ne2:=h.ne2
 ne3:=h.ne3
 ne4:=h.ne4
 ne5:=h.ne5
 ne6:=h.ne6
theorem StoreIn.lt {w:World} {b mb:Nat} {s:Int} {ns:List K4} {nv lv:Value} (h:StoreIn w b s ns nv lv mb):∀ x∈foot b nv lv mb,x<w.heap.size:=by
 intro x hx
 simp only [foot,List.mem_cons,List.mem_append,Option.mem_toList] at hx
 rcases hx with rfl|rfl|hx|hx
 ·exact lBk h.blk
 ·exact h.known.lt
 ·exact oLT h.nodes hx
 ·exact oLT h.levels hx
theorem StoreAt.keep {w w':World} {b:Nat} {s:Int} {ns:List K4} {F:List Nat} (h:StoreAt w b s ns F) (hk:∀ x∈F,w'.heap[x]?=w.heap[x]?):StoreAt w' b s ns F:=by
 obtain⟨hg,nv,lv,mb,hS,rfl⟩:=h
 exact⟨hg,nv,lv,mb,hS.keep hk,rfl⟩
theorem StoreAt.lt {w:World} {b:Nat} {s:Int} {ns:List K4} {F:List Nat} (h:StoreAt w b s ns F):∀ x∈F,x<w.heap.size:=by
 obtain⟨hg,nv,lv,mb,hS,rfl⟩:=h
 exact hS.lt
theorem StoreAt.fr {w w':World} {b:Nat} {s:Int} {ns:List K4} {F G:List Nat} (h:StoreAt w b s ns F) (hf:Fr G w w') (hd:∀ x∈F,x∉G):StoreAt w' b s ns F :=
 h.keep fun x hx=>hf.block x (h.lt x hx) (hd x hx)
theorem StoreAt.drew {w w':World} {b:Nat} {s:Int} {ns:List K4} {F:List Nat} (h:StoreAt w b s ns F) (hd:Drew w w'):StoreAt w' b s ns F:=h.keep fun x _=>by rw [hd.heap]
set_option maxHeartbeats 400000 in
theorem Level_neg (b:Nat) (id:Int) (w:World) (h:id<0) :
  Calls Try.prog 25 #[.pointer (some ⟨b,0,none⟩),.int .i64 id] w fun e w'=>e=.returned (.int .i64 (-1))∧Drew w w':=by
 have hd:decide (id<0)=true:=by simpa using h
 go_enter Try.func25,Try.ntmps25
 go_wp2
 refine wRT (by kernel_rfl) (by kernel_rfl) ?_
 go_wp2
 refine Strict.intro rfl ?_
 go_wp2
 go_ret
 exact⟨rfl,(Drew.refl _).drew⟩
set_option maxHeartbeats 400000 in
theorem Level_state (b:Nat) (id s:Int) (na:Option Addr) (nl nc:Nat) (w:World) (h0:w.cell? ⟨b,0,none⟩=some (.int .i64 s)) (h1:w.cell? ⟨b,1,none⟩=some (.slice na nl nc))
  (hs:0≤s) (hs2:s≤8) (hnl:nl≤100000) (hid:0≤id) (hid2:id<s) :
  Calls Try.prog 25 #[.pointer (some ⟨b,0,none⟩),.int .i64 id] w fun e w'=>e=.returned (.int .i64 0)∧Drew w w':=by
 have hd:decide (id<0)=false:=by simp;omega
 go_enter Try.func25,Try.ntmps25
 go_wp2
 refine wRT (by kernel_rfl) (by kernel_rfl) ?_
 go_wp2
 refine Strict.intro rfl ?_
 go_wp2
 go_ret
 exact⟨rfl,(Drew.refl _).drew⟩
set_option maxHeartbeats 400000 in
theorem Level_far (b:Nat) (id s:Int) (na:Option Addr) (nl nc:Nat) (w:World) (h0:w.cell? ⟨b,0,none⟩=some (.int .i64 s)) (h1:w.cell? ⟨b,1,none⟩=some (.slice na nl nc))
  (hs:0≤s) (hs2:s≤8) (hnl:nl≤100000) (hid:s+nl≤id) :
  Calls Try.prog 25 #[.pointer (some ⟨b,0,none⟩),.int .i64 id] w fun e w'=>e=.returned (.int .i64 (-1))∧Drew w w':=by
 have hd:decide (id<0)=false:=by simp;omega
 go_enter Try.func25,Try.ntmps25
 go_wp2
 refine wRT (by kernel_rfl) (by kernel_rfl) ?_
 go_wp2
 refine Strict.intro rfl ?_
 go_wp2
 go_ret
 exact⟨rfl,(Drew.refl _).drew⟩
set_option maxHeartbeats 400000 in
theorem Level_node (b:Nat) (s:Int) (k:Nat) (na:Option Addr) (nl nc nl' nc' lb:Nat) (v:Int) (w:World) (h0:w.cell? ⟨b,0,none⟩=some (.int .i64 s)) (h1:w.cell? ⟨b,1,none⟩=some (.slice na nl nc))
  (h2:w.cell? ⟨b,2,none⟩=some (.slice (some ⟨lb,0,none⟩) nl' nc')) (hs:0≤s) (hs2:s≤8) (hnl:nl≤100000) (hid:k<nl) (hid':k<nl') (hc:w.cell? ⟨lb,k,none⟩=some (.int .i64 v)) :
  Calls Try.prog 25 #[.pointer (some ⟨b,0,none⟩),.int .i64 (s+k)] w fun e w'=>e=.returned (.int .i64 v)∧Drew w w':=by
 have hw1:IntKind.i64.wrap (s+↑k - s)=↑k:=IntWalk.i64_in _ (by omega) |>.trans (by omega)
 go_enter Try.func25,Try.ntmps25
 go_wp2
 refine wRT (by kernel_rfl) (by kernel_rfl) ?_
 go_wp2
 refine Strict.intro rfl ?_
 go_wp2
 refine wRT (by kernel_rfl) (by kernel_rfl) ?_
 go_wp2
 refine Strict.intro rfl ?_
 go_wp2
 go_ret
 exact⟨rfl,(Drew.refl _).drew.drew⟩
theorem Level_calls {w:World} {b:Nat} {s:Int} {ns:List K4} {F:List Nat} (hS:StoreAt w b s ns F) (id:Int) :
  Calls Try.prog 25 #[.pointer (some ⟨b,0,none⟩),.int .i64 id] w fun e w'=>e=.returned (.int .i64 (lvl s (levs s ns) id))∧Drew w w':=by
 obtain⟨⟨hs,hs2,hl,_⟩,nv,lv,mb,hI,rfl⟩:=hS
 obtain⟨na,nc,rfl,_⟩:=oFM hI.nodes
 obtain⟨la,lc,rfl,hla,_⟩:=oFM hI.levels
 have h0:w.cell? ⟨b,0,none⟩=some (.int .i64 s):=hEC hI.blk 0
 have h1:w.cell? ⟨b,1,none⟩=some (.slice na ns.length nc):=hEC hI.blk 1
 have h2:w.cell? ⟨b,2,none⟩=some (.slice la ns.length lc):=hEC hI.blk 2
 have hlen:=levs_length s ns
 unfold lvl
 by_cases hneg:id<0
 ·rw [if_pos hneg];exact Level_neg b id w hneg
 ·rw [if_neg hneg]
  by_cases hst:id<s
  ·rw [if_pos hst];exact Level_state b id s na _ nc w h0 h1 (by omega) hs2 hl (by omega) hst
  ·rw [if_neg hst]
   by_cases hfar:s+ns.length≤id
   ·rw [List.getD_eq_getElem?_getD,List.getElem?_eq_none (by omega)]
    exact Level_far b id s na _ nc w h0 h1 (by omega) hs2 hl hfar
   ·obtain⟨k,rfl⟩:∃ k:Nat,id=s+k:=⟨(id - s).toNat,by omega⟩
    obtain⟨g,rfl⟩:=hla (by omega)
    have hk:k<(levs s ns).length:=by omega
    have hk':(s+↑k - s).toNat=k:=by omega
    rw [hk',List.getD_eq_getElem?_getD,List.getElem?_eq_getElem hk]
    exact Level_node b s k na _ nc _ lc g _ w h0 h1 h2 (by omega) hs2 hl (by omega) (by omega) (owns_cell hI.levels rfl (by simp [hk]))
end Go.Proofs.Ytppmnmheodimoaa
end
section
namespace Go.Proofs.Ytppmnmheodimoaa
open Go Go.RowKit Rg Mp Hp Qs
theorem find_hit {s:Int} {ns:List K4} {k:K4} {i:Nat} (h:ns.idxOf? k=some i):get? (pairs s ns) k=some (s+i):=by
 unfold get?
 rw [pairs_keys,h]
 have hi:i<ns.length:=by rw [List.idxOf?_eq_some_iff] at h;exact h.1
 simp [pairs_get,hi]
theorem find_miss {s:Int} {ns:List K4} {k:K4} (h:ns.idxOf? k=none):get? (pairs s ns) k=none:=by
 unfold get?
 rw [pairs_keys,h];rfl
theorem put_miss {s:Int} {ns:List K4} {k:K4} (h:ns.idxOf? k=none):put (pairs s ns) k (s+ns.length)=pairs s (ns++[k]):=by
 unfold put
 rw [pairs_keys,h,pairs_snoc]
theorem flat_snoc (ns:List K4) (k:K4):flat (ns++[k])=flat ns++[.int .i64 k.a,.int .i64 k.b,.int .i64 k.c,.int .i64 k.d]:=by simp [flat]
theorem info_quad:(Try.prog.info? 77).map (fun i=>(i.zero,i.size,i.bytes))=some (some (.agg #[.int .i64 0,.int .i64 0,.int .i64 0,.int .i64 0]),4,32):=by kernel_rfl
theorem info_int:(Try.prog.info? 3).map (fun i=>(i.zero,i.size,i.bytes))=some (some (.int .i64 0),1,8):=by kernel_rfl
theorem zero_int (w:World):(zeroValue 3).run Try.prog w=.ok (.int .i64 0) w:=by kernel_rfl
def kcells (k:K4):List Value:=[.int .i64 k.a,.int .i64 k.b,.int .i64 k.c,.int .i64 k.d]
theorem append_quad {ops:Array Oper} {rest:List Oper} {o:Oper} {a:Act} {W:World} {Q:Exit→Act→World→Prop} (hgd:o.guard=none) {s x:Operand} (ho:o.op=.call { callee:=.builtin .append,args:=#[s,x],argTypes:=#[37,37] })
  {base:Nat} {v:Value} {n:Nat} {xs:List Value} (hs:a.eval s=v) (hown:W.ownsRow base 77 4 v n xs) {nb c:Nat} {k:K4} (hx:a.eval x=.slice (some ⟨nb,0,none⟩) 1 c)
  (hnb:W.heap[nb]?=some (.cells #[.int .i64 k.a,.int .i64 k.b,.int .i64 k.c,.int .i64 k.d] 77 (0,0))) (hn:n≤4000000000000) (hbase:base≤W.heap.size)
  (h:∀ g cap w',w'.ownsRow base 77 4 (.slice (some ⟨g,0,none⟩) (n+1) cap) (n+1) (xs++kcells k)→(∀ b,b<W.heap.size→v.ownBlock≠some b→w'.heap[b]?=W.heap[b]?)→Fr v.ownBlock.toList W w'→(v.ownBlock=some g∨g=W.heap.size)→g<w'.heap.size →
   wpList Try.prog ops Q rest (a.put o.dst (.slice (some ⟨g,0,none⟩) (n+1) cap)) w'):wpList Try.prog ops Q (o::rest) a W :=
 append_new hgd ho Try.underlying37 info_quad rfl (by decide) hs hown hx (news:=kcells k) hnb rfl (by intro u hu;simp [kcells] at hu;rcases hu with rfl|rfl|rfl|rfl<;>rfl) (by unfold maxLen;omega) (by omega) hbase h
def JoinPost (w:World) (b:Nat) (s:Int) (ns:List K4) (F:List Nat) (k:K4) (e:Ending) (w':World):Prop :=
 e=.returned (.tuple #[.int .i64 (join s ns k).1.1,.int .i64 (join s ns k).1.2])∧∃ F',StoreAt w' b s (join s ns k).2 F'∧Fr F w w'∧(∀ x∈F',x∈F∨w.heap.size≤x)
theorem JoinPost.same {w w':World} {b:Nat} {s:Int} {ns:List K4} {F:List Nat} {k:K4} {r e:Int} (hS:StoreAt w b s ns F) (hf:Fr [] w w') (hj:join s ns k=((r,e),ns)) :
  JoinPost w b s ns F k (.returned (.tuple #[.int .i64 r,.int .i64 e])) w':=by
 unfold JoinPost
 rw [hj]
 exact⟨rfl,F,hS.fr hf (by simp),hf.mono (by simp),fun x hx=>.inl hx⟩
set_option maxHeartbeats 8000000 in
set_option maxRecDepth 100000 in
theorem Join_calls {w:World} {b:Nat} {s:Int} {ns:List K4} {F:List Nat} (hS:StoreAt w b s ns F) (k:K4) :
  Calls Try.prog 40 #[.pointer (some ⟨b,0,none⟩),.int .i64 k.a,.int .i64 k.b,.int .i64 k.c,.int .i64 k.d] w (JoinPost w b s ns F k):=by
 have hL:∀ w1,Fr [] w w1→∀ id,Calls Try.prog 25 #[.pointer (some ⟨b,0,none⟩),.int .i64 id] w1 fun e w'=>e=.returned (.int .i64 (lvl s (levs s ns) id))∧Drew w1 w':=fun w1 hf id=>Level_calls (hS.fr hf (by simp)) id
 have ea:=(hL · · k.a)
 have eb:=(hL · · k.b)
 have ec:=(hL · · k.c)
 have ed:=(hL · · k.d)
 clear hL
 generalize hla:lvl s (levs s ns) k.a=la at *
 generalize hlb:lvl s (levs s ns) k.b=lb at *
 generalize hlc:lvl s (levs s ns) k.c=lc at *
 generalize hld:lvl s (levs s ns) k.d=ld at *
 have Hla:=Lib.hid hla
 have Hlb:=Lib.hid hlb
 have Hlc:=Lib.hid hlc
 have Hld:=Lib.hid hld
 clear hla hlb hlc hld
 go_enter Try.func40,Try.ntmps40
 go_wp2
 refine wp_loop_rounds 5 ?_
 rw [rounds_succ]
 go_wp2_with fail
 refine (ea _ ?_).mono ?_
 ·repeat (first|exact Fr.refl _ _|apply Fr.drewN|apply Fr.drew|apply Fr.alloc)
 rintro e w' ⟨rfl,n1,rfl⟩
 go_wp2
 ·go_ret2
  refine JoinPost.same hS (by repeat (first|exact Fr.refl _ _|apply Fr.drewN|apply Fr.drew|apply Fr.alloc|refine Fr.setCell ?_ (Or.inr (by simp)) _)) ?_
  have h:la<0:=by assumption
  simp [join,Hla.out,h]
 rw [rounds_succ]
 go_wp2_with fail
 refine (eb _ ?_).mono ?_
 ·repeat (first|exact Fr.refl _ _|apply Fr.drewN|apply Fr.drew|apply Fr.alloc|refine Fr.setCell ?_ (Or.inr (by simp)) _)
 rintro e w' ⟨rfl,n2,rfl⟩
 go_wp2
 ·go_ret2
  refine JoinPost.same hS (by repeat (first|exact Fr.refl _ _|apply Fr.drewN|apply Fr.drew|apply Fr.alloc|refine Fr.setCell ?_ (Or.inr (by simp)) _)) ?_
  have h:lb<0:=by assumption
  simp [join,Hlb.out,h]
 rw [rounds_succ]
 go_wp2_with fail
 refine (ec _ ?_).mono ?_
 ·repeat (first|exact Fr.refl _ _|apply Fr.drewN|apply Fr.drew|apply Fr.alloc|refine Fr.setCell ?_ (Or.inr (by simp)) _)
 rintro e w' ⟨rfl,n3,rfl⟩
 go_wp2
 ·go_ret2
  refine JoinPost.same hS (by repeat (first|exact Fr.refl _ _|apply Fr.drewN|apply Fr.drew|apply Fr.alloc|refine Fr.setCell ?_ (Or.inr (by simp)) _)) ?_
  have h:lc<0:=by assumption
  simp [join,Hlc.out,h]
 rw [rounds_succ]
 go_wp2_with fail
 refine (ed _ ?_).mono ?_
 ·repeat (first|exact Fr.refl _ _|apply Fr.drewN|apply Fr.drew|apply Fr.alloc|refine Fr.setCell ?_ (Or.inr (by simp)) _)
 rintro e w' ⟨rfl,n4,rfl⟩
 go_wp2
 ·go_ret2
  refine JoinPost.same hS (by repeat (first|exact Fr.refl _ _|apply Fr.drewN|apply Fr.drew|apply Fr.alloc|refine Fr.setCell ?_ (Or.inr (by simp)) _)) ?_
  have h:ld<0:=by assumption
  simp [join,Hld.out,h]
 rw [rounds_succ]
 go_wp2
 rotate_right
 ·go_ret2
  refine JoinPost.same hS (by repeat (first|exact Fr.refl _ _|apply Fr.drewN|apply Fr.drew|apply Fr.alloc|refine Fr.setCell ?_ (Or.inr (by simp)) _)) ?_
  have h:¬(lb=la∧lc=la∧ld=la):=by assumption
  unfold join
  rw [if_neg (by rw [Hla.out,Hlb.out,Hlc.out,Hld.out];omega),if_pos (by unfold Fits;rw [Hla.out,Hlb.out,Hlc.out,Hld.out];omega)]
 ·go_ret2
  refine JoinPost.same hS (by repeat (first|exact Fr.refl _ _|apply Fr.drewN|apply Fr.drew|apply Fr.alloc|refine Fr.setCell ?_ (Or.inr (by simp)) _)) ?_
  have h:256≤la:=by assumption
  unfold join
  rw [if_neg (by rw [Hla.out,Hlb.out,Hlc.out,Hld.out];omega),if_pos (by unfold Fits;rw [Hla.out,Hlb.out,Hlc.out,Hld.out];omega)]
 have hfit:Fits s ns k:=by
  have h1:lb=la∧lc=la∧ld=la:=by assumption
  have h2:la<256:=by assumption
  unfold Fits;rw [Hla.out,Hlb.out,Hlc.out,Hld.out];omega
 have hjoin:join s ns k=joinIn s ns k:=by
  unfold join
  rw [if_neg (by rw [Hla.out,Hlb.out,Hlc.out,Hld.out];omega),if_neg (by simpa using hfit)]
 have Hj:=Lib.hid hjoin
 clear hjoin
 refine aBW (fun W=>Fr [] w W∧W.heap.size=w.heap.size+2∧W.heap[w.heap.size]?=some (.cells #[.int .i64 k.a,.int .i64 k.b,.int .i64 k.c,.int .i64 k.d] 75 (0,0)) ∧
  W.heap[w.heap.size+1]?=some (.cells #[.int .i64 la,.int .i64 la,.int .i64 la,.int .i64 la] 75 (0,0))) ?_ ?_
 ·refine⟨by repeat (first|exact Fr.refl _ _|apply Fr.drewN|apply Fr.drew|apply Fr.alloc|refine Fr.setCell ?_ (Or.inr (by simp)) _),by simp only [hDN,hAz,hSz],?_,?_⟩
  ·simp only [hDN,hAz,hAC,hSC,show ¬ (w.heap.size=w.heap.size+1) by omega,if_true,if_false]
  ·simp only [hDN,hAz,hAC,hSC,if_true,Option.map_some,uPC,List.set_cons_zero,List.set_cons_succ]
 rintro W ⟨hW,hsz,hk0,hk1⟩
 clear ea eb ec ed
 have hSW:=hS.fr hW (by simp)
 obtain⟨hgood,nv,lv,mb,hI,rfl⟩:=hSW
 have hSW':StoreAt W b s ns (foot b nv lv mb):=⟨hgood,nv,lv,mb,hI,rfl⟩
 obtain⟨na,nc,rfl,hx1⟩:=oFM hI.nodes
 obtain⟨la',lc',rfl,hx2⟩:=oFM hI.levels
 clear hx1 hx2
 have hlen:ns.length≤100000:=hgood.2.2.1
 have hs1:2≤s:=hgood.1
 have hs2:s≤8:=hgood.2.1
 have b0:W.cell? ⟨b,0,none⟩=some (.int .i64 s):=hEC hI.blk 0
 have b1:W.cell? ⟨b,1,none⟩=some (.slice na ns.length nc):=hEC hI.blk 1
 have b2:W.cell? ⟨b,2,none⟩=some (.slice la' ns.length lc'):=hEC hI.blk 2
 have b3:W.cell? ⟨b,3,none⟩=some (.map (some mb)):=hEC hI.blk 3
 have k0:W.cell? ⟨w.heap.size,0,none⟩=some (.int .i64 k.a):=hEC hk0 0
 have k1:W.cell? ⟨w.heap.size,1,none⟩=some (.int .i64 k.b):=hEC hk0 1
 have k2:W.cell? ⟨w.heap.size,2,none⟩=some (.int .i64 k.c):=hEC hk0 2
 have k3:W.cell? ⟨w.heap.size,3,none⟩=some (.int .i64 k.d):=hEC hk0 3
 have HB:=Lib.hid hI
 have Hsz:=Lib.hid hsz
 have hle:w.heap.size+1<W.heap.size:=by omega
 clear hsz
 have HK0:=Lib.hid hk0
 have HK1:=Lib.hid hk1
 clear hI hk0 hk1
 refine wRT (by kernel_rfl) (by kernel_rfl) ?_
 cases hfind:ns.idxOf? k with
 | some i =>
  go_wp2_with (at_lookup;refine wpList_lookup_hit (f:=kv) (g:=Value.int .i64) (k:=k) (z:=.int .i64 0) rfl rfl rfl rfl (HB.out.known.of_block rfl) Try.underlying105 keys4 (zero_int _) (find_hit hfind) ?_)
  refine Strict.intro rfl ?_
  go_wp2
  go_ret2
  refine JoinPost.same hS (hW.drew) ?_
  rw [Hj.out,joinIn_hit hfind]
 | none =>
  have l0:W.cell? ⟨w.heap.size+1,0,none⟩=some (.int .i64 la):=hEC HK1.out 0
  by_cases hfull:ns.length<100000
  ·have hd:decide ((100000:Int)≤↑ns.length)=false:=by simp;omega
   have Hlen:=Lib.hid hlen
   have Hfull:=Lib.hid hfull
   clear hlen hfull
   have hl:ns.length≤1048576:=by have:=Hlen.out;omega
   go_wp2_with (at_lookup;refine wpList_lookup_miss (f:=kv) (g:=Value.int .i64) (k:=k) (z:=.int .i64 0) rfl rfl rfl rfl (HB.out.known.of_block rfl) Try.underlying105 keys4 (zero_int _) (find_miss hfind) ?_)
   refine Strict.intro rfl ?_
   go_wp2_with fail
   refine wRT (by kernel_rfl) (by kernel_rfl) ?_
   go_wp2
   refine Strict.intro rfl ?_
   go_wp2
   obtain⟨i0,hi0,hi1,hi2,hi3⟩:=info_parts info_quad
   obtain⟨j0,hj0,hj1,hj2,hj3⟩:=info_parts info_int
   refine wRT (by kernel_rfl) (by kernel_rfl) ?_
   go_wp2_with (at_builtin;refine wpList_append_lies _ rfl _ _ 37 rfl 0 77 i0 _ 4 32 Try.underlying37 hi0 hi1 hi2 hi3 rfl (by decide) (.slice na ns.length nc) ns.length (flat ns) rfl ?e2 _ 1 1 [.int .i64 k.a,.int .i64 k.b,.int .i64 k.c,.int .i64 k.d] rfl rfl ?e3 ?e4 (by decide) ?e5 ?e6 (Nat.zero_le _) _ rfl ?_)
   case e2=>exact oOB HB.out.nodes fun x hx=>hAE _ _ _ (oLT HB.out.nodes hx)
   case e3 =>
    intro j u hj
    have hsz':(W.alloc (.cells #[.int .i64 k.a,.int .i64 k.b,.int .i64 k.c,.int .i64 k.d] 77)).heap[W.heap.size]?=some (.cells #[.int .i64 k.a,.int .i64 k.b,.int .i64 k.c,.int .i64 k.d] 77):=by rw [hAC,if_pos rfl]
    have:=cell_row_add hsz' j
    rw [show (World.drew (World.drew (World.drew (W.alloc (.cells #[.int .i64 k.a,.int .i64 k.b,.int .i64 k.c,.int .i64 k.d] 77))))).cell? _=_ from this]
    simpa using hj
   case e4=>intro u hu;simp at hu;rcases hu with rfl|rfl|rfl|rfl<;>rfl
   case e5=>unfold maxLen;omega
   case e6=>omega
   intro g cap w1 hown1 hgrow1 hloc1 hg1
   have hW1:∀ x,x<W.heap.size→(Value.slice na ns.length nc).ownBlock≠some x→w1.heap[x]?=W.heap[x]?:=fun x hx hn=>(hgrow1.block x (by rw [hDR,hDR,hDR,hAz];omega) (fun e=>hn e.symm)).trans (hAE _ _ _ hx)
   have hsz1:W.heap.size+1≤w1.heap.size:=by have:=hgrow1.size;rw [hDR,hDR,hDR,hAz] at this;exact this
   have hbW:=lBk HB.out.blk
   have hb1:=(hW1 b hbW HB.out.ne2).trans HB.out.blk
   have c0:=hEC hb1 0
   have c1:=hEC hb1 1
   have c2:=hEC hb1 2
   have c3:=hEC hb1 3
   have f1:=hEF hb1 1
   have Hown1:=Lib.hid hown1
   have Hgrow1:=Lib.hid hgrow1
   have Hloc1:=Lib.hid hloc1
   have HW1:=Lib.hid hW1
   clear hown1 hgrow1 hloc1 hW1 hb1
   go_wp2
   refine Strict.intro rfl ?_
   go_wp2
   refine aBW (fun V=>V.heap.size=w1.heap.size∧(∀ x,x≠b→V.heap[x]?=w1.heap[x]?) ∧
    V.heap[b]?=some (.cells #[.int .i64 s,.slice (some ⟨g,0,none⟩) (ns.length+1) cap,.slice la' ns.length lc',.map (some mb)] 107 (0,0))∧Fr (foot b (.slice na ns.length nc) (.slice la' ns.length lc') mb) W V) ?_ ?_
   ·refine⟨by simp only [hSz],fun x hx=>?_,?_,?_⟩
    ·simp only [hSC,if_neg hx]
    ·simp only [hSC,if_true,(HW1.out b hbW HB.out.ne2).trans HB.out.blk,Option.map_some,uPC,List.set_cons_zero,List.set_cons_succ]
    ·refine (((((((Fr.refl _ W).alloc _).drew).drew).drew).grown Hgrow1.out fun x hx=>.inl ?_).setCell (.inl ?_) _)
     ·simp [foot,hx]
     ·simp [foot]
   rintro V ⟨hVs,hVo,hVb,hVf⟩
   have hV:∀ x,x<W.heap.size→x≠b→(Value.slice na ns.length nc).ownBlock≠some x→V.heap[x]?=W.heap[x]?:=fun x hx hn hn'=>(hVo x hn).trans (HW1.out x hx hn')
   have hVl:V.ownsRow 0 3 1 (.slice la' ns.length lc') ns.length ((levs s ns).map (Value.int .i64)):=oOB HB.out.levels fun x hx=>hV x (oLT HB.out.levels hx) (fun e=>HB.out.ne4 (by rw [hx,e])) fun e=>HB.out.ne6 x e hx
   have hbnew:∀ x,w.heap.size≤x→x<w.heap.size+2→V.heap[x]?=W.heap[x]?:=fun x hx hx'=>by
    have hSx:=hS.lt
    refine hV x (by have:=Hsz.out;omega) (fun e=>?_) fun e=>?_
    ·have:=hSx b (by simp [foot]);omega
    ·have:=hSx x (by simp [foot,e]);omega
   have v1:V.cell? ⟨w.heap.size+1,0,none⟩=some (.int .i64 la):=hEC ((hbnew _ (by omega) (by omega)).trans HK1.out) 0
   have d0:=hEC hVb 0
   have d1:=hEC hVb 1
   have d2:=hEC hVb 2
   have d3:=hEC hVb 3
   have e2:=hEF hVb 2
   have HVo:=Lib.hid hVo
   have HV:=Lib.hid hV
   have HVb:=Lib.hid hVb
   have HVf:=Lib.hid hVf
   have HVl:=Lib.hid hVl
   have HVs:=Lib.hid hVs
   have Hbnew:=Lib.hid hbnew
   clear hVo hV hVb hVf hVl hVs hbnew b0 b1 b2 b3 c0 c1 c2 c3 f1 k0 k1 k2 k3 l0
   have hla0:0≤la:=by assumption
   have hla1:la<256:=by assumption
   refine wRT (by kernel_rfl) (by kernel_rfl) ?_
   go_wp2_with (at_builtin;refine wpList_append_lies _ rfl _ _ 71 rfl 0 3 j0 _ 1 8 Try.underlying71 hj0 hj1 hj2 hj3 rfl (by decide) (.slice la' ns.length lc') ns.length ((levs s ns).map (Value.int .i64)) rfl ?e2 _ 1 1 [.int .i64 (la+1)] rfl rfl ?e3 ?e4 (by decide) ?e5 ?e6 (Nat.zero_le _) _ rfl ?_)
   case e2=>exact oOB HVl.out fun x hx=>hAE _ _ _ (oLT HVl.out hx)
   case e3 =>
    intro j u hj
    have hsz':(V.alloc (.cells #[.int .i64 (la+1)] 3)).heap[V.heap.size]?=some (.cells #[.int .i64 (la+1)] 3):=by rw [hAC,if_pos rfl]
    have:=cell_row_add hsz' j
    rw [show (World.drew (V.alloc (.cells #[.int .i64 (la+1)] 3))).cell? _=_ from this]
    simpa using hj
   case e4=>intro u hu;simp at hu;subst hu;rfl
   case e5=>unfold maxLen;omega
   case e6=>omega
   intro g2 cap2 w2 hown2 hgrow2 hloc2 hg2
   have hbV:b<V.heap.size:=lBk HVb.out
   have hW2:∀ x,x<V.heap.size→(Value.slice la' ns.length lc').ownBlock≠some x→w2.heap[x]?=V.heap[x]?:=fun x hx hn=>(hgrow2.block x (by rw [hDR,hAz];omega) (fun e=>hn e.symm)).trans (hAE _ _ _ hx)
   have hb2:=(hW2 b hbV HB.out.ne4).trans HVb.out
   have c0:=hEC hb2 0
   have c1:=hEC hb2 1
   have c2:=hEC hb2 2
   have c3:=hEC hb2 3
   have f2:=hEF hb2 2
   have Hown2:=Lib.hid hown2
   have Hgrow2:=Lib.hid hgrow2
   have Hloc2:=Lib.hid hloc2
   have HW2:=Lib.hid hW2
   clear hown2 hgrow2 hloc2 hW2 hb2
   go_wp2
   refine Strict.intro rfl ?_
   go_wp2
   refine aBW (fun U=>(∀ x,x≠b→U.heap[x]?=w2.heap[x]?) ∧
    U.heap[b]?=some (.cells #[.int .i64 s,.slice (some ⟨g,0,none⟩) (ns.length+1) cap,.slice (some ⟨g2,0,none⟩) (ns.length+1) cap2,.map (some mb)] 107 (0,0)) ∧
    Fr (foot b (.slice na ns.length nc) (.slice la' ns.length lc') mb) W U) ?_ ?_
   ·refine⟨fun x hx=>?_,?_,?_⟩
    ·simp only [hSC,if_neg hx]
    ·simp only [hSC,if_true,(HW2.out b hbV HB.out.ne4).trans HVb.out,Option.map_some,uPC,List.set_cons_zero,List.set_cons_succ]
    ·refine HVf.out.trans (((((Fr.refl (foot b (.slice na ns.length nc) (.slice la' ns.length lc') mb) V).alloc _).drew).grown Hgrow2.out fun x hx=>.inl ?_).setCell (.inl ?_) _) fun x hx=>.inl hx
     ·simp [foot,hx]
     ·simp [foot]
   rintro U ⟨hUo,hUb,hUf⟩
   have hU:∀ x,x<W.heap.size→x≠b→(Value.slice na ns.length nc).ownBlock≠some x→(Value.slice la' ns.length lc').ownBlock≠some x→U.heap[x]?=W.heap[x]?:=fun x hx h1 h2 h3 =>
    (hUo x h1).trans ((HW2.out x (by have:=HVs.out;omega) h3).trans (HV.out x hx h1 h2))
   have hmbW:mb<W.heap.size:=HB.out.known.lt
   have hmap:MapIs U mb kv (Value.int .i64) (pairs s ns):=HB.out.known.of_block (hU mb hmbW (fun e=>HB.out.ne1 e.symm) HB.out.ne3 HB.out.ne5)
   have hkid:U.heap[w.heap.size]?=some (.cells #[.int .i64 k.a,.int .i64 k.b,.int .i64 k.c,.int .i64 k.d] 75 (0,0)):=by
    have hSx:=hS.lt
    refine (hU _ (by omega) (fun e=>?_) (fun e=>?_) fun e=>?_).trans HK0.out
    ·have:=hSx b (by simp [foot]);omega
    ·have:=hSx w.heap.size (by simp [foot,e]);omega
    ·have:=hSx w.heap.size (by simp [foot,e]);omega
   have k0:=hEC hkid 0
   have k1:=hEC hkid 1
   have k2:=hEC hkid 2
   have k3:=hEC hkid 3
   have d0:=hEC hUb 0
   have d1:=hEC hUb 1
   have d2:=hEC hUb 2
   have d3:=hEC hUb 3
   have HUo:=Lib.hid hUo
   have HUb:=Lib.hid hUb
   have HUf:=Lib.hid hUf
   have Hmap:=Lib.hid hmap
   have Hkid:=Lib.hid hkid
   have HU:=Lib.hid hU
   clear hUo hUb hUf hmap hkid hU c0 c1 c2 c3 f2 v1 e2
   refine wRT (by kernel_rfl) (by kernel_rfl) ?_
   go_wp2_with (at_mapUpdate;refine wpList_update_is (f:=kv) (g:=Value.int .i64) (k:=k) (v:=s+ns.length) rfl rfl rfl rfl rfl (Hmap.out.of_block rfl) Try.underlying105 keys4 ?_)
   intro q hq
   go_wp2
   refine Strict.intro rfl ?_
   go_wp2
   go_ret2
   have hput:=put_miss (s:=s) hfind
   rw [hput] at hq
   have hjn:join s ns k=((s+ns.length,0),ns++[k]):=by rw [Hj.out,joinIn_new hfind Hfull.out]
   have hg1l:g<w1.heap.size:=hg1
   have hgb:g≠b:=fun e=>by
    rcases Hloc1.out with h|h
    ·exact HB.out.ne2 (by rw [h,e])
    ·omega
   have hgm:g≠mb:=fun e=>by
    rcases Hloc1.out with h|h
    ·exact HB.out.ne3 (by rw [h,e])
    ·omega
   have hgl:(Value.slice la' ns.length lc').ownBlock≠some g:=fun e=>by
    rcases Hloc1.out with h|h
    ·exact HB.out.ne6 g h e
    ·have:=oLT HB.out.levels e;omega
   have hg2b:g2≠b:=fun e=>by
    rcases Hloc2.out with h|h
    ·exact HB.out.ne4 (by rw [h,e])
    ·omega
   have hg2m:g2≠mb:=fun e=>by
    rcases Hloc2.out with h|h
    ·exact HB.out.ne5 (by rw [h,e])
    ·have:=HVs.out;omega
   have hgg:g2≠g:=fun e=>by
    rcases Hloc2.out with h|h
    ·exact hgl (by rw [h,e])
    ·have:=HVs.out;omega
   unfold JoinPost
   rw [hjn]
   have hset:∀ x,x≠mb→(U.heap.setIfInBounds mb q)[x]?=U.heap[x]?:=fun x hx=>by rw [Array.getElem?_setIfInBounds_ne fun e=>hx e.symm]
   refine⟨rfl,foot b (.slice (some ⟨g,0,none⟩) (ns.length+1) cap) (.slice (some ⟨g2,0,none⟩) (ns.length+1) cap2) mb,?_,?_,?_⟩
   ·refine⟨hgood.snoc hfit (by simpa using hfind) Hfull.out,_,_,mb,⟨?_,?_,?_,hq,HB.out.ne1,?_,?_,?_,?_,?_⟩,rfl⟩
    ·exact (hset b HB.out.ne1).trans HUb.out
    ·rw [flat_snoc,List.length_append,List.length_singleton]
     refine oOB Hown1.out fun x hx=>?_
     obtain rfl:g=x:=by simpa [Value.ownBlock] using hx
     exact (hset g hgm).trans ((HUo.out g hgb).trans ((HW2.out g (by have:=HVs.out;omega) hgl).trans (HVo.out g hgb)))
    ·rw [levs_snoc,List.map_append,List.length_append,List.length_singleton,Hla.out]
     refine oOB Hown2.out fun x hx=>?_
     obtain rfl:g2=x:=by simpa [Value.ownBlock] using hx
     exact (hset g2 hg2m).trans (HUo.out g2 hg2b)
    ·simpa [Value.ownBlock] using hgb
    ·simpa [Value.ownBlock] using hgm
    ·simpa [Value.ownBlock] using hg2b
    ·simpa [Value.ownBlock] using hg2m
    ·intro x hx
     obtain rfl:g=x:=by simpa [Value.ownBlock] using hx
     simpa [Value.ownBlock] using hgg
   ·refine ((hW.mono (by simp)).trans HUf.out fun x hx=>.inl hx).trans ((((Fr.refl [mb] U).drew).setBlock (.inl (by simp)) q)) fun x hx=>.inl ?_
    simp at hx;subst hx;simp [foot]
   ·intro x hx
    have hwW:w.heap.size≤W.heap.size:=by omega
    simp only [foot,List.mem_cons,List.mem_append,Option.mem_toList,Value.ownBlock,Option.some.injEq] at hx
    rcases hx with rfl|rfl|rfl|rfl
    ·left;simp [foot]
    ·left;simp [foot]
    ·rcases Hloc1.out with h|h
     ·left;simp [foot,h]
     ·right;omega
    ·rcases Hloc2.out with h|h
     ·left;simp [foot,h]
     ·right;have:=HVs.out;omega
  ·have hd:decide ((100000:Int)≤↑ns.length)=true:=by simp;omega
   have Hlen:=Lib.hid hlen
   have Hfull:=Lib.hid hfull
   clear hlen hfull
   go_wp2_with (at_lookup;refine wpList_lookup_miss (f:=kv) (g:=Value.int .i64) (k:=k) (z:=.int .i64 0) rfl rfl rfl rfl (HB.out.known.of_block rfl) Try.underlying105 keys4 (zero_int _) (find_miss hfind) ?_)
   refine Strict.intro rfl ?_
   go_wp2_with fail
   go_ret2
   refine JoinPost.same hS (hW.drew) ?_
   rw [Hj.out,joinIn_full hfind (by have:=Hfull.out;omega)]
end Go.Proofs.Ytppmnmheodimoaa
end
section
namespace Go.Proofs.Ytppmnmheodimoaa
open Go Go.RowKit Rg Mp Hp Qs
set_option maxHeartbeats 1000000 in
theorem New_bad (s:Int) (w:World) (h:s<2∨8<s) :
  Calls Try.prog 29 #[.int .i64 s] w fun e w'=>e=.returned (.tuple #[.pointer none,.int .i64 2])∧w=w':=by
 rcases h with h|h
 ·go_enter Try.func29,Try.ntmps29
  go_wp2
  go_ret2
  exact⟨rfl,rfl⟩
 ·have h':¬ s<2:=by omega
  go_enter Try.func29,Try.ntmps29
  go_wp2
  go_ret2
  exact⟨rfl,rfl⟩
set_option maxHeartbeats 1000000 in
theorem New_ok (s:Int) (w:World) (h:2≤s) (h':s≤8) :
  Calls Try.prog 29 #[.int .i64 s] w fun e w'=>∃ b F,e=.returned (.tuple #[.pointer (some ⟨b,0,none⟩),.int .i64 0])∧StoreAt w' b s [] F∧Fr [] w w'∧∀ x∈F,w.heap.size≤x:=by
 have hmm:=@run_makeMap Try.prog
 go_enter Try.func29,Try.ntmps29
 go_wp2
 go_ret2
 have hb:((w.alloc (.map #[] 0)).alloc (.cells #[.int .i64 s,.slice none 0 0,.slice none 0 0,.map (some w.heap.size)] 107)).heap[w.heap.size+1]?=some (.cells #[.int .i64 s,.slice none 0 0,.slice none 0 0,.map (some w.heap.size)] 107 (0,0)):=by
  rw [hAC,hAz,if_pos rfl]
 refine⟨w.heap.size+1,foot (w.heap.size+1) (.slice none 0 0) (.slice none 0 0) w.heap.size,rfl,⟨GoodQ.nil h h',_,_,w.heap.size,⟨hb,World.ownsRow_nil _ _ _ _,World.ownsRow_nil _ _ _ _,?_,by omega,by simp [Value.ownBlock],by simp [Value.ownBlock],by simp [Value.ownBlock],by simp [Value.ownBlock],by simp [Value.ownBlock]⟩,rfl⟩,((Fr.refl _ _).alloc _).alloc _,?_⟩
 ·refine (MapIs.made w).of_block ?_
  rw [hAC,hAz,if_neg (by omega)]
  rfl
 ·intro x hx
  simp [foot,Value.ownBlock] at hx
  omega
def kidsOf (s:Int) (ns:List K4) (id:Int):K4×Bool:=if id<s then (⟨0,0,0,0⟩,false) else match ns[(id - s).toNat]? with
 | some k=>(k,true)
 | none=>(⟨0,0,0,0⟩,false)
theorem flat_get {ns:List K4} {i:Nat} {k:K4} (h:ns[i]?=some k):(flat ns)[4*i]?=some (.int .i64 k.a)∧(flat ns)[4*i+1]?=some (.int .i64 k.b)∧(flat ns)[4*i+2]?=some (.int .i64 k.c)∧(flat ns)[4*i+3]?=some (.int .i64 k.d):=by
 induction ns generalizing i with
 | nil=>simp at h
 | cons x ns ih =>
  cases i with
  | zero=>simp at h;subst h;simp [flat]
  | succ i =>
   simp at h
   have:=ih h
   rw [show 4*(i+1)=4*i+4 by omega]
   simpa [flat] using this
theorem flat_length (ns:List K4):(flat ns).length=ns.length*4:=by
 induction ns with
 | nil=>rfl
 | cons x ns ih=>simp [flat] at ih ⊢;omega
theorem lvl_pos {s:Int} {ns:List K4} (h:GoodQ s ns) {i:Nat} {k:K4} (hi:ns[i]?=some k):∃ l,(levs s ns)[i]?=some l∧1≤l∧l≤256∧l=lvl s (levs s (ns.take i)) k.a+1:=by
 have hlt:i<ns.length:=(List.getElem?_eq_some_iff.1 hi).1
 have hf:=h.2.2.2.2 i k hi
 have ht:ns.take (i+1)=ns.take i++[k]:=by rw [List.take_add_one,hi];rfl
 have h1:(levs s ns).take (i+1)=levs s (ns.take i)++[lvl s (levs s (ns.take i)) k.a+1]:=by rw [levs_take,ht,levs_snoc]
 have h2:(levs s ns)[i]?=some (lvl s (levs s (ns.take i)) k.a+1):=by
  have:=congrArg (fun l:List Int=>l[i]?) h1
  simp only [List.getElem?_take,Nat.lt_succ_self,if_true] at this
  have hln:(levs s (ns.take i)).length=i:=by rw [levs_length,List.length_take];omega
  rw [this,List.getElem?_append_right (by omega),hln]
  simp
 exact⟨_,h2,by have:=hf.1;omega,by have:=hf.2.1;omega,rfl⟩
set_option maxHeartbeats 1000000 in
theorem Kids_no (b:Nat) (id l:Int) (w:World) (hl:l<1) (hL:∀ w1,Fr [] w w1→Calls Try.prog 25 #[.pointer (some ⟨b,0,none⟩),.int .i64 id] w1 fun e w'=>e=.returned (.int .i64 l)∧Drew w1 w') :
  Calls Try.prog 83 #[.pointer (some ⟨b,0,none⟩),.int .i64 id] w fun e w'=>e=.returned (.tuple #[.agg #[.int .i64 0,.int .i64 0,.int .i64 0,.int .i64 0],.bool false])∧Fr [] w w':=by
 go_enter Try.func83,Try.ntmps83
 go_wp2_with fail
 refine (hL _ ?_).mono ?_
 ·repeat (first|exact Fr.refl _ _|apply Fr.drewN|apply Fr.drew|apply Fr.alloc)
 rintro e w' ⟨rfl,n1,rfl⟩
 go_wp2
 exact bodyPost_ret (v:=.tuple #[.agg #[.int .i64 0,.int .i64 0,.int .i64 0,.int .i64 0],.bool false]) (by simp [results,Try.results83,go_sem]) rfl
  ⟨rfl,by repeat (first|exact Fr.refl _ _|apply Fr.drewN|apply Fr.drew|apply Fr.alloc|refine Fr.setCell ?_ (Or.inr (by simp)) _)⟩
set_option maxHeartbeats 1000000 in
theorem Kids_yes (b:Nat) (s l:Int) (i:Nat) (n nc g:Nat) (k:K4) (w:World) (hl:1≤l) (hb:b<w.heap.size) (hg:g<w.heap.size) (h0:w.cell? ⟨b,0,none⟩=some (.int .i64 s)) (h1:w.cell? ⟨b,1,none⟩=some (.slice (some ⟨g,0,none⟩) n nc))
  (_:0≤s) (_:s≤8) (hn:n≤1048576) (hi:i<n)
  (e0:w.cell? ⟨g,i*4,none⟩=some (.int .i64 k.a)) (e1:w.cell? ⟨g,i*4+1,none⟩=some (.int .i64 k.b)) (e2:w.cell? ⟨g,i*4+2,none⟩=some (.int .i64 k.c)) (e3:w.cell? ⟨g,i*4+3,none⟩=some (.int .i64 k.d))
  (hL:∀ w1,Fr [] w w1→Calls Try.prog 25 #[.pointer (some ⟨b,0,none⟩),.int .i64 (s+i)] w1 fun e w'=>e=.returned (.int .i64 l)∧Drew w1 w') :
  Calls Try.prog 83 #[.pointer (some ⟨b,0,none⟩),.int .i64 (s+i)] w fun e w'=>e=.returned (.tuple #[kv k,.bool true])∧Fr [] w w':=by
 have hw1:IntKind.i64.wrap (s+↑i - s)=↑i:=IntWalk.i64_in _ (by omega) |>.trans (by omega)
 unfold kv
 go_enter Try.func83,Try.ntmps83
 go_wp2_with fail
 refine (hL _ ?_).mono ?_
 ·repeat (first|exact Fr.refl _ _|apply Fr.drewN|apply Fr.drew|apply Fr.alloc)
 rintro e w' ⟨rfl,n1,rfl⟩
 go_wp2
 refine wRT (by kernel_rfl) (by kernel_rfl) ?_
 go_wp2
 refine Strict.intro rfl ?_
 go_wp2
 exact bodyPost_ret (v:=.tuple #[.agg #[.int .i64 k.a,.int .i64 k.b,.int .i64 k.c,.int .i64 k.d],.bool true]) (by simp [results,Try.results83,go_sem]) rfl
  ⟨rfl,by repeat (first|exact Fr.refl _ _|apply Fr.drewN|apply Fr.drew|apply Fr.alloc|refine Fr.setCell ?_ (Or.inr (by simp)) _)⟩
theorem lvl_far {s:Int} {ns:List K4} {id:Int} (hs:0≤s) (h:s+ns.length≤id):lvl s (levs s ns) id=-1:=by
 unfold lvl
 rw [if_neg (by omega),if_neg (by omega),List.getD_eq_getElem?_getD,List.getElem?_eq_none (by rw [levs_length];omega)]
 rfl
theorem Kids_calls {w:World} {b:Nat} {s:Int} {ns:List K4} {F:List Nat} (hS:StoreAt w b s ns F) (id:Int) :
  Calls Try.prog 83 #[.pointer (some ⟨b,0,none⟩),.int .i64 id] w fun e w'=>e=.returned (.tuple #[kv (kidsOf s ns id).1,.bool (kidsOf s ns id).2])∧Fr [] w w':=by
 have hL:∀ w1,Fr [] w w1→Calls Try.prog 25 #[.pointer (some ⟨b,0,none⟩),.int .i64 id] w1 fun e w'=>e=.returned (.int .i64 (lvl s (levs s ns) id))∧Drew w1 w':=fun w1 hf=>Level_calls (hS.fr hf (by simp)) id
 obtain⟨hgood,nv,lv,mb,hI,rfl⟩:=hS
 have hs:2≤s:=hgood.1
 unfold kidsOf
 by_cases hst:id<s
 ·rw [if_pos hst]
  refine Kids_no b id _ w ?_ hL
  unfold lvl
  by_cases h:id<0
  ·rw [if_pos h];omega
  ·rw [if_neg h,if_pos hst];omega
 ·rw [if_neg hst]
  by_cases hfar:s+ns.length≤id
  ·rw [List.getElem?_eq_none (by omega)]
   exact Kids_no b id _ w (by rw [lvl_far (by omega) hfar];omega) hL
  ·obtain⟨i,rfl⟩:∃ i:Nat,id=s+i:=⟨(id - s).toNat,by omega⟩
   have hi:i<ns.length:=by omega
   rw [show (s+(i:Int) - s).toNat=i by omega,List.getElem?_eq_getElem hi]
   obtain⟨l,hl,hl1,_,_⟩:=lvl_pos hgood (List.getElem?_eq_getElem hi)
   have hlv:lvl s (levs s ns) (s+i)=l:=by
    unfold lvl
    rw [if_neg (by omega),if_neg (by omega),show (s+(i:Int) - s).toNat=i by omega,List.getD_eq_getElem?_getD,hl];rfl
   rw [hlv] at hL
   obtain⟨na,nc,rfl,hna,_⟩:=oFM hI.nodes
   obtain⟨g,rfl⟩:=hna (by omega)
   obtain⟨f0,f1,f2,f3⟩:=flat_get (List.getElem?_eq_getElem hi)
   rw [Nat.mul_comm] at f0 f1 f2 f3
   exact Kids_yes b s l i ns.length nc g _ w hl1 (lBk hI.blk) (oLT hI.nodes rfl) (hEC hI.blk 0) (hEC hI.blk 1) (by omega) hgood.2.1 (by have:=hgood.2.2.1;omega) hi
    (owns_cell hI.nodes rfl f0) (owns_cell hI.nodes rfl f1) (owns_cell hI.nodes rfl f2) (owns_cell hI.nodes rfl f3) hL
theorem flat_one (ns:List K4):∀ u∈flat ns,u.oneCell'=true:=by
 intro u hu
 simp only [flat,List.mem_flatMap] at hu
 obtain⟨k,_,hk⟩:=hu
 simp at hk
 rcases hk with rfl|rfl|rfl|rfl<;>rfl
end Go.Proofs.Ytppmnmheodimoaa
end
section
namespace Go.Proofs.Ytppmnmheodimoaa
open Go Go.RowKit Rg Mp Hp Qs
theorem lvl_known {s:Int} {ls:List Int} {id:Int} (h:0≤lvl s ls id):0≤id∧id<s+ls.length∨0≤id∧id<s:=by
 unfold lvl at h
 by_cases h1:id<0
 ·rw [if_pos h1] at h;omega
 ·rw [if_neg h1] at h
  by_cases h2:id<s
  ·right;omega
  ·rw [if_neg h2] at h
   left
   refine⟨by omega,?_⟩
   rcases Nat.lt_or_ge (id - s).toNat ls.length with h3|h3
   ·omega
   ·rw [List.getD_eq_getElem?_getD,List.getElem?_eq_none h3] at h
    simp at h
theorem lvl_take {s:Int} {ns:List K4} {i:Nat} {id:Int} (_:i≤ns.length) (h:id<s+i):lvl s (levs s (ns.take i)) id=lvl s (levs s ns) id:=by
 unfold lvl
 by_cases h1:id<0
 ·rw [if_pos h1,if_pos h1]
 ·rw [if_neg h1,if_neg h1]
  by_cases h2:id<s
  ·rw [if_pos h2,if_pos h2]
  ·rw [if_neg h2,if_neg h2,← levs_take,List.getD_eq_getElem?_getD,List.getD_eq_getElem?_getD,List.getElem?_take,if_pos (by omega)]
theorem kid_down {s:Int} {ns:List K4} (h:GoodQ s ns) {j:Nat} {k:K4} (hj:ns[j]?=some k):0≤k.a∧k.a<s+j∧lvl s (levs s ns) (s+j)=lvl s (levs s ns) k.a+1:=by
 have hs:2≤s:=h.1
 have hlt:j<ns.length:=(List.getElem?_eq_some_iff.1 hj).1
 obtain⟨l,hl,_,_,he⟩:=lvl_pos h hj
 have hf:=(h.2.2.2.2 j k hj).1
 have hk:=lvl_known hf
 have hlen:(levs s (ns.take j)).length=j:=by rw [levs_length,List.length_take];omega
 have hka:0≤k.a∧k.a<s+j:=by omega
 refine⟨hka.1,hka.2,?_⟩
 rw [← lvl_take (by omega) hka.2,← he]
 unfold lvl
 rw [if_neg (by omega),if_neg (by omega),show (s+(j:Int) - s).toNat=j by omega,List.getD_eq_getElem?_getD,hl]
 rfl
set_option maxHeartbeats 2000000 in
theorem level_ref {w:World} {s:Int} {ns:List K4} {v:Value} (hG:GoodQ s ns) (hv:Reads w v ns.length 4 (flat ns)) (id:Int) :
  Calls Try.prog 65 #[.agg #[.int .i64 s,v],.int .i64 id] w fun e w'=>e=.returned (.int .i64 (lvl s (levs s ns) id))∧∃ o,w'=w.alloc o:=by
 have hs1:=hG.1
 have hs2:=hG.2.1
 have hlen:=hG.2.2.1
 have hln:=levs_length s ns
 obtain⟨_,a,c,rfl,hav⟩:=hv
 have hl:ns.length≤1048576:=by omega
 by_cases hneg:id<0
 ·have e:lvl s (levs s ns) id=-1:=by unfold lvl;rw [if_pos hneg]
  rw [e]
  have hd:decide (id<0)=true:=by simpa using hneg
  clear hav hln hlen hG
  go_enter Try.func65,Try.ntmps65
  go_wp2
  go_ret
  exact⟨rfl,_,rfl⟩
 ·by_cases hfar:s+ns.length≤id
  ·rw [lvl_far (by omega) hfar]
   have hd:decide (id<0)=false:=by simp;omega
   clear hav hln hlen hG
   go_enter Try.func65,Try.ntmps65
   go_wp2
   go_ret
   exact⟨rfl,_,rfl⟩
  ·have hd:decide (id<0)=false:=by simp;omega
   have Hav:=Lib.hid hav
   have Hln:=Lib.hid hln
   clear hav hln hlen
   go_enter Try.func65,Try.ntmps65
   go_wp2
   go_loop [1,5] (fun x y=>∃ (i:Int) (n:Nat),x=.int .i64 i∧y=.int .i64 n∧0≤i∧i<s+ns.length∧n+i.toNat≤id.toNat∧lvl s (levs s ns) i+n=lvl s (levs s ns) id) (fun x _=>(intOf x).toNat)
   case atStart=>exact⟨id,0,rfl,rfl,by omega,by omega,by omega,by omega⟩
   case round =>
    obtain⟨i,n,rfl,rfl,hi0,hi1,hn,hL⟩:=hrel
    have HL:=Lib.hid hL
    clear hL
    by_cases hge:s≤i
    ·obtain⟨j,rfl⟩:∃ j:Nat,i=s+j:=⟨(i - s).toNat,by omega⟩
     have hj:j<ns.length:=by omega
     obtain⟨g,off,rfl,hg,hc⟩:=Hav.out (by omega)
     have hk:=kid_down hG (List.getElem?_eq_getElem hj)
     have hcell:w.cell? ⟨g,off+j*4,none⟩=some (.int .i64 (ns[j]).a):=hc _ _ (by rw [Nat.mul_comm];exact (flat_get (List.getElem?_eq_getElem hj)).1)
     have hw1:IntKind.i64.wrap (s+↑j - s)=↑j:=IntWalk.i64_in _ (by omega) |>.trans (by omega)
     obtain⟨k,hkk⟩:∃ k,k=(ns[j]).a:=⟨_,rfl⟩
     rw [← hkk] at hcell hk
     have Hk:=Lib.hid hk
     have hk0:=hk.1
     have hk1:=hk.2.1
     clear hk hkk hc
     go_wp2
     go_round
     case rel=>exact⟨k,n+1,rfl,by go_num,hk0,by omega,by omega,by have:=Hk.out.2.2;have:=HL.out;omega⟩
     case measure=>simp [intOf];omega
    ·go_wp2
     go_ret
     refine⟨?_,_,rfl⟩
     have h0:lvl s (levs s ns) i=0:=by unfold lvl;rw [if_neg (by omega),if_pos (by omega)]
     have:=HL.out
     rw [show lvl s (levs s ns) id=n by omega]
     rfl
def findR (ns:List K4) (k:K4):Int:=match ns.idxOf? k with
 | some i=>i
 | none=>-1
theorem findR_at {ns:List K4} {k:K4} {i:Nat} (hi:i<ns.length) (he:ns[i]=k) (hn:∀ j (h:j<ns.length),j<i→ns[j]≠k):findR ns k=i:=by
 have:ns.idxOf? k=some i:=by
  rw [List.idxOf?_eq_some_iff]
  exact⟨hi,he,fun j hj=>hn j (by omega) hj⟩
 unfold findR;rw [this]
theorem findR_none {ns:List K4} {k:K4} (hn:∀ j (h:j<ns.length),ns[j]≠k):findR ns k=-1:=by
 have:ns.idxOf? k=none:=by
  rw [List.idxOf?_eq_none_iff]
  intro hm
  obtain⟨j,hj,e⟩:=List.getElem_of_mem hm
  exact hn j hj e
 unfold findR;rw [this]
set_option maxHeartbeats 2000000 in
theorem find_ref {w:World} {s:Int} {ns:List K4} {v:Value} (hl:ns.length≤1048576) (hv:Reads w v ns.length 4 (flat ns)) (l:K4) :
  Calls Try.prog 66 #[.agg #[.int .i64 s,v],kv l] w fun e w'=>e=.returned (.int .i64 (findR ns l))∧∃ o1 o2 n,w'=((w.alloc o1).alloc o2).drewN n:=by
 obtain⟨_,a,c,rfl,hav⟩:=hv
 have Hav:=Lib.hid hav
 clear hav
 unfold kv
 go_enter Try.func66,Try.ntmps66
 go_wp2
 go_loopw [5] (fun x wr=>∃ (k m:Nat),x=.int .i64 k∧k≤ns.length∧(∀ j (h:j<ns.length),j<k→ns[j]≠l)∧wr=(((w.alloc (.cells #[.int .i64 s,.slice a ns.length c] 39)).alloc (.cells #[.int .i64 l.a,.int .i64 l.b,.int .i64 l.c,.int .i64 l.d] 75))).drewN m) (fun x _=>ns.length - (intOf x).toNat)
 case atStart=>exact⟨0,0,rfl,by omega,by omega,rfl⟩
 case round =>
  obtain⟨k,m,rfl,hk,hn,rfl⟩:=hrel
  have Hn:=Lib.hid hn
  clear hn
  by_cases hlt:k<ns.length
  ·obtain⟨g,off,rfl,hg,hc⟩:=Hav.out (by omega)
   obtain⟨f0,f1,f2,f3⟩:=flat_get (List.getElem?_eq_getElem hlt)
   rw [Nat.mul_comm] at f0 f1 f2 f3
   obtain⟨x,hx⟩:∃ x,x=ns[k]:=⟨_,rfl⟩
   rw [← hx] at f0 f1 f2 f3
   have e0:=hc _ _ f0
   have e1:=hc _ _ f1
   have e2:=hc _ _ f2
   have e3:=hc _ _ f3
   simp only [← Nat.add_assoc] at e1 e2 e3
   have Hx:=Lib.hid hx
   clear hx hc f0 f1 f2 f3
   by_cases hxl:x.a=l.a∧x.b=l.b∧x.c=l.c∧x.d=l.d
   ·have hq:(x.a == l.a && (x.b == l.b && (x.c == l.c && x.d == l.d)))=true:=by simpa using hxl
    have Hxl:=Lib.hid hxl
    clear hxl
    go_wp2
    refine wRT (by kernel_rfl) (by kernel_rfl) ?_
    go_wp2
    refine Strict.intro rfl ?_
    go_wp2
    go_ret
    refine⟨?_,_,_,m+1,rfl⟩
    have hx:=Hx.out
    have:findR ns l=k:=findR_at hlt (by rw [← hx];obtain⟨h1,h2,h3,h4⟩:=Hxl.out;cases x;cases l;simp_all) Hn.out
    rw [this]
    rfl
   ·have hq:(x.a == l.a && (x.b == l.b && (x.c == l.c && x.d == l.d)))=false:=by rw [Bool.eq_false_iff];intro h;apply hxl;simpa using h
    have Hxl:=Lib.hid hxl
    clear hxl
    go_wp2
    refine wRT (by kernel_rfl) (by kernel_rfl) ?_
    go_wp2
    refine Strict.intro rfl ?_
    go_wp2
    go_roundw
    case rel =>
     refine⟨k+1,m+1,by go_num,by omega,fun j hj hjk=>?_,rfl⟩
     rcases Nat.lt_or_ge j k with h|h
     ·exact Hn.out j hj h
     ·obtain rfl:j=k:=by omega
      intro e
      have hx:=Hx.out
      rw [e] at hx
      exact Hxl.out (by rw [hx];exact⟨rfl,rfl,rfl,rfl⟩)
    case measure=>simp [intOf];omega
  ·go_wp2
   go_ret
   refine⟨?_,_,_,m,rfl⟩
   have:findR ns l=-1:=findR_none fun j hj=>Hn.out j hj (by omega)
   rw [this]
   rfl
end Go.Proofs.Ytppmnmheodimoaa
end
