/- Own texts of this claim, part 5: no condition. -/
import Derived.Test.YtdanghnadbkhfaaGreatZR3
import Derived.Test.YtdanghnadbkhfaaGreatZR2
set_option linter.unusedVariables false
set_option linter.unusedSimpArgs false
section
namespace Go.Proofs.YtdanghnadbkhfaaGreat
open Go Go.RowKit Rg Mp Hp Qs
theorem lvl_known {s:Int} {ls:List Int} {id:Int} (h:0≤lvl s ls id):0≤id∧id<s+ls.length∨0≤id∧id<s:=by
 unfold lvl at h
 by_cases h1:id<0
 ·rw [if_pos h1] at h;omega
 ·rw [if_neg h1] at h
  by_cases h2:id<s
  ·right;omega
  ·rw [if_neg h2] at h
   left
   refine⟨by omega,?_⟩
   rcases Nat.lt_or_ge (id - s).toNat ls.length with h3|h3
   ·omega
   ·rw [List.getD_eq_getElem?_getD,List.getElem?_eq_none h3] at h
    simp at h
theorem lvl_take {s:Int} {ns:List K4} {i:Nat} {id:Int} (_:i≤ns.length) (h:id<s+i):lvl s (levs s (ns.take i)) id=lvl s (levs s ns) id:=by
 unfold lvl
 by_cases h1:id<0
 ·rw [if_pos h1,if_pos h1]
 ·rw [if_neg h1,if_neg h1]
  by_cases h2:id<s
  ·rw [if_pos h2,if_pos h2]
  ·rw [if_neg h2,if_neg h2,← levs_take,List.getD_eq_getElem?_getD,List.getD_eq_getElem?_getD,List.getElem?_take,if_pos (by omega)]
theorem kid_down {s:Int} {ns:List K4} (h:GoodQ s ns) {j:Nat} {k:K4} (hj:ns[j]?=some k):0≤k.a∧k.a<s+j∧lvl s (levs s ns) (s+j)=lvl s (levs s ns) k.a+1:=by
 have hs:2≤s:=h.1
 have hlt:j<ns.length:=(List.getElem?_eq_some_iff.1 hj).1
 obtain⟨l,hl,_,_,he⟩:=lvl_pos h hj
 have hf:=(h.2.2.2.2 j k hj).1
 have hk:=lvl_known hf
 have hlen:(levs s (ns.take j)).length=j:=by rw [levs_length,List.length_take];omega
 have hka:0≤k.a∧k.a<s+j:=by omega
 refine⟨hka.1,hka.2,?_⟩
 rw [← lvl_take (by omega) hka.2,← he]
 unfold lvl
 rw [if_neg (by omega),if_neg (by omega),show (s+(j:Int) - s).toNat=j by omega,List.getD_eq_getElem?_getD,hl]
 rfl
set_option maxHeartbeats 2000000 in
theorem level_ref {w:World} {s:Int} {ns:List K4} {v:Value} (hG:GoodQ s ns) (hv:Reads w v ns.length 4 (flat ns)) (id:Int) :
  Calls Tryz.prog 78 #[.agg #[.int .i64 s,v],.int .i64 id] w fun e w'=>e=.returned (.int .i64 (lvl s (levs s ns) id))∧∃ o,w'=w.alloc o:=by
 have hs1:=hG.1
 have hs2:=hG.2.1
 have hlen:=hG.2.2.1
 have hln:=levs_length s ns
 obtain⟨_,a,c,rfl,hav⟩:=hv
 have hl:ns.length≤1048576:=by omega
 by_cases hneg:id<0
 ·have e:lvl s (levs s ns) id=-1:=by unfold lvl;rw [if_pos hneg]
  rw [e]
  have hd:decide (id<0)=true:=by simpa using hneg
  clear hav hln hlen hG
  go_enter Tryz.func78,Tryz.ntmps78
  go_wp2
  go_ret
  exact⟨rfl,_,rfl⟩
 ·by_cases hfar:s+ns.length≤id
  ·rw [lvl_far (by omega) hfar]
   have hd:decide (id<0)=false:=by simp;omega
   clear hav hln hlen hG
   go_enter Tryz.func78,Tryz.ntmps78
   go_wp2
   go_ret
   exact⟨rfl,_,rfl⟩
  ·have hd:decide (id<0)=false:=by simp;omega
   have Hav:=Lib.hid hav
   have Hln:=Lib.hid hln
   clear hav hln hlen
   go_enter Tryz.func78,Tryz.ntmps78
   go_wp2
   go_loop [1,5] (fun x y=>∃ (i:Int) (n:Nat),x=.int .i64 i∧y=.int .i64 n∧0≤i∧i<s+ns.length∧n+i.toNat≤id.toNat∧lvl s (levs s ns) i+n=lvl s (levs s ns) id) (fun x _=>(intOf x).toNat)
   case atStart=>exact⟨id,0,rfl,rfl,by omega,by omega,by omega,by omega⟩
   case round =>
    obtain⟨i,n,rfl,rfl,hi0,hi1,hn,hL⟩:=hrel
    have HL:=Lib.hid hL
    clear hL
    by_cases hge:s≤i
    ·obtain⟨j,rfl⟩:∃ j:Nat,i=s+j:=⟨(i - s).toNat,by omega⟩
     have hj:j<ns.length:=by omega
     obtain⟨g,off,rfl,hg,hc⟩:=Hav.out (by omega)
     have hk:=kid_down hG (List.getElem?_eq_getElem hj)
     have hcell:w.cell? ⟨g,off+j*4,none⟩=some (.int .i64 (ns[j]).a):=hc _ _ (by rw [Nat.mul_comm];exact (flat_get (List.getElem?_eq_getElem hj)).1)
     have hw1:IntKind.i64.wrap (s+↑j - s)=↑j:=IntWalk.i64_in _ (by omega) |>.trans (by omega)
     obtain⟨k,hkk⟩:∃ k,k=(ns[j]).a:=⟨_,rfl⟩
     rw [← hkk] at hcell hk
     have Hk:=Lib.hid hk
     have hk0:=hk.1
     have hk1:=hk.2.1
     clear hk hkk hc
     go_wp2
     go_round
     case rel=>exact⟨k,n+1,rfl,by go_num,hk0,by omega,by omega,by have:=Hk.out.2.2;have:=HL.out;omega⟩
     case measure=>simp [intOf];omega
    ·go_wp2
     go_ret
     refine⟨?_,_,rfl⟩
     have h0:lvl s (levs s ns) i=0:=by unfold lvl;rw [if_neg (by omega),if_pos (by omega)]
     have:=HL.out
     rw [show lvl s (levs s ns) id=n by omega]
     rfl
def findR (ns:List K4) (k:K4):Int:=match ns.idxOf? k with
 | some i=>i
 | none=>-1
theorem findR_at {ns:List K4} {k:K4} {i:Nat} (hi:i<ns.length) (he:ns[i]=k) (hn:∀ j (h:j<ns.length),j<i→ns[j]≠k):findR ns k=i:=by
 have:ns.idxOf? k=some i:=by
  rw [List.idxOf?_eq_some_iff]
  exact⟨hi,he,fun j hj=>hn j (by omega) hj⟩
 unfold findR;rw [this]
theorem findR_none {ns:List K4} {k:K4} (hn:∀ j (h:j<ns.length),ns[j]≠k):findR ns k=-1:=by
 have:ns.idxOf? k=none:=by
  rw [List.idxOf?_eq_none_iff]
  intro hm
  obtain⟨j,hj,e⟩:=List.getElem_of_mem hm
  exact hn j hj e
 unfold findR;rw [this]
set_option maxHeartbeats 2000000 in
theorem find_ref {w:World} {s:Int} {ns:List K4} {v:Value} (hl:ns.length≤1048576) (hv:Reads w v ns.length 4 (flat ns)) (l:K4) :
  Calls Tryz.prog 79 #[.agg #[.int .i64 s,v],kv l] w fun e w'=>e=.returned (.int .i64 (findR ns l))∧∃ o1 o2 n,w'=((w.alloc o1).alloc o2).drewN n:=by
 obtain⟨_,a,c,rfl,hav⟩:=hv
 have Hav:=Lib.hid hav
 clear hav
 unfold kv
 go_enter Tryz.func79,Tryz.ntmps79
 go_wp2
 go_loopw [5] (fun x wr=>∃ (k m:Nat),x=.int .i64 k∧k≤ns.length∧(∀ j (h:j<ns.length),j<k→ns[j]≠l)∧wr=(((w.alloc (.cells #[.int .i64 s,.slice a ns.length c] 24)).alloc (.cells #[.int .i64 l.a,.int .i64 l.b,.int .i64 l.c,.int .i64 l.d] 81))).drewN m) (fun x _=>ns.length - (intOf x).toNat)
 case atStart=>exact⟨0,0,rfl,by omega,by omega,rfl⟩
 case round =>
  obtain⟨k,m,rfl,hk,hn,rfl⟩:=hrel
  have Hn:=Lib.hid hn
  clear hn
  by_cases hlt:k<ns.length
  ·obtain⟨g,off,rfl,hg,hc⟩:=Hav.out (by omega)
   obtain⟨f0,f1,f2,f3⟩:=flat_get (List.getElem?_eq_getElem hlt)
   rw [Nat.mul_comm] at f0 f1 f2 f3
   obtain⟨x,hx⟩:∃ x,x=ns[k]:=⟨_,rfl⟩
   rw [← hx] at f0 f1 f2 f3
   have e0:=hc _ _ f0
   have e1:=hc _ _ f1
   have e2:=hc _ _ f2
   have e3:=hc _ _ f3
   simp only [← Nat.add_assoc] at e1 e2 e3
   have Hx:=Lib.hid hx
   clear hx hc f0 f1 f2 f3
   by_cases hxl:x.a=l.a∧x.b=l.b∧x.c=l.c∧x.d=l.d
   ·have hq:(x.a == l.a && (x.b == l.b && (x.c == l.c && x.d == l.d)))=true:=by simpa using hxl
    have Hxl:=Lib.hid hxl
    clear hxl
    go_wp2
    refine wRT (by kernel_rfl) (by kernel_rfl) ?_
    go_wp2
    refine Strict.intro rfl ?_
    go_wp2
    go_ret
    refine⟨?_,_,_,m+1,rfl⟩
    have hx:=Hx.out
    have:findR ns l=k:=findR_at hlt (by rw [← hx];obtain⟨h1,h2,h3,h4⟩:=Hxl.out;cases x;cases l;simp_all) Hn.out
    rw [this]
    rfl
   ·have hq:(x.a == l.a && (x.b == l.b && (x.c == l.c && x.d == l.d)))=false:=by rw [Bool.eq_false_iff];intro h;apply hxl;simpa using h
    have Hxl:=Lib.hid hxl
    clear hxl
    go_wp2
    refine wRT (by kernel_rfl) (by kernel_rfl) ?_
    go_wp2
    refine Strict.intro rfl ?_
    go_wp2
    go_roundw
    case rel =>
     refine⟨k+1,m+1,by go_num,by omega,fun j hj hjk=>?_,rfl⟩
     rcases Nat.lt_or_ge j k with h|h
     ·exact Hn.out j hj h
     ·obtain rfl:j=k:=by omega
      intro e
      have hx:=Hx.out
      rw [e] at hx
      exact Hxl.out (by rw [hx];exact⟨rfl,rfl,rfl,rfl⟩)
    case measure=>simp [intOf];omega
  ·go_wp2
   go_ret
   refine⟨?_,_,_,m,rfl⟩
   have:findR ns l=-1:=findR_none fun j hj=>Hn.out j hj (by omega)
   rw [this]
   rfl
end Go.Proofs.YtdanghnadbkhfaaGreat
end
section
namespace Go.Proofs.YtdanghnadbkhfaaGreat
open Go Go.RowKit Rg Mp Hp Qs
def four (id:Int):K4:=⟨id,id,id,id⟩
def climb (s:Int) (ns:List K4):Nat→Int→Nat→Int×Nat
 | 0,id,n=>(id,n)
 | m+1,id,n=>match ns.idxOf? (four id) with
  | some i=>climb s ns m (s+i) (n+1)
  | none=>(id,n)
def grow (s:Int):Nat→Int→List K4→Int×List K4
 | 0,id,ns=>(id,ns)
 | m+1,id,ns=>grow s m (join s ns (four id)).1.1 (join s ns (four id)).2
def emptyQ (s:Int) (ns:List K4) (level:Int):(Int×Int)×List K4 :=
 if level<0∨256<level then ((0,18),ns)
 else if 100000<ns.length+(level.toNat - (climb s ns level.toNat 0 0).2) then ((0,6),ns)
 else (((grow s (level.toNat - (climb s ns level.toNat 0 0).2) (climb s ns level.toNat 0 0).1 ns).1,0),(grow s (level.toNat - (climb s ns level.toNat 0 0).2) (climb s ns level.toNat 0 0).1 ns).2)
def TwoPost (w:World) (b:Nat) (s:Int) (r:(Int×Int)×List K4) (F:List Nat) (e:Ending) (w':World):Prop :=
 e=.returned (.tuple #[.int .i64 r.1.1,.int .i64 r.1.2])∧∃ F',StoreAt w' b s r.2 F'∧Fr F w w'∧(∀ x∈F',x∈F∨w.heap.size≤x)
theorem TwoPost.same {w w':World} {b:Nat} {s:Int} {ns:List K4} {F:List Nat} {r e:Int} (hS:StoreAt w b s ns F) (hf:Fr [] w w'):TwoPost w b s ((r,e),ns) F (.returned (.tuple #[.int .i64 r,.int .i64 e])) w' :=
 ⟨rfl,F,hS.fr hf (by simp),hf.mono (by simp),fun x hx=>.inl hx⟩
set_option maxHeartbeats 4000000 in
theorem Empty_calls {w:World} {b:Nat} {s:Int} {ns:List K4} {F:List Nat} (hS:StoreAt w b s ns F) (level:Int) :
  Calls Tryz.prog 36 #[.pointer (some ⟨b,0,none⟩),.int .i64 level] w (TwoPost w b s (emptyQ s ns level) F):=by
 by_cases hneg:level<0
 ·have:emptyQ s ns level=((0,18),ns):=by unfold emptyQ;rw [if_pos (.inl hneg)]
  rw [this]
  have hd:decide (level<0)=true:=by simpa using hneg
  go_enter Tryz.func36,Tryz.ntmps36
  go_wp2
  go_ret2
  exact TwoPost.same hS (Fr.refl _ _)
 ·by_cases hbig:256<level
  ·have:emptyQ s ns level=((0,18),ns):=by unfold emptyQ;rw [if_pos (.inr hbig)]
   rw [this]
   have hd:decide (level<0)=false:=by simpa using hneg
   go_enter Tryz.func36,Tryz.ntmps36
   go_wp2
   go_ret2
   exact TwoPost.same hS (Fr.refl _ _)
  ·obtain⟨L,rfl⟩:∃ L:Nat,level=L:=⟨level.toNat,by omega⟩
   have hL:L≤256:=by omega
   have hSk:=hS
   obtain⟨hgood,nv,lv,mb,hI,rfl⟩:=hS
   obtain⟨na,nc,rfl,hx1⟩:=oFM hI.nodes
   have hlen:ns.length≤100000:=hgood.2.2.1
   have hs1:2≤s:=hgood.1
   have hs2:s≤8:=hgood.2.1
   have b0:=hEC hI.blk 0
   have b1:=hEC hI.blk 1
   have b3:=hEC hI.blk 3
   have hE:emptyQ s ns L=if 100000<ns.length+(L - (climb s ns L 0 0).2) then ((0,6),ns) else (((grow s (L - (climb s ns L 0 0).2) (climb s ns L 0 0).1 ns).1,0),(grow s (L - (climb s ns L 0 0).2) (climb s ns L 0 0).1 ns).2):=by
    unfold emptyQ;rw [if_neg (by omega)];rfl
   have HE:=Lib.hid hE
   have HI:=Lib.hid hI
   have Hlen:=Lib.hid hlen
   clear hx1 hE hI hlen
   have hlen2:ns.length≤1048576:=by have:=Hlen.out;omega
   go_enter Tryz.func36,Tryz.ntmps36
   go_wp2
   go_loop [6,7] (fun x y=>∃ (id:Int) (n:Nat),x=.int .i64 id∧y=.int .i64 n∧n≤L∧climb s ns (L - n) id n=climb s ns L 0 0) (fun _ y=>L - (intOf y).toNat)
   case atStart=>exact⟨0,0,rfl,rfl,by omega,by simp⟩
   case round =>
    obtain⟨id,n,rfl,rfl,hn,hc⟩:=hrel
    have Hc:=Lib.hid hc
    clear hc
    by_cases hlt:n<L
    ·cases hfind:ns.idxOf? (four id) with
     | some i =>
      go_wp2_with (at_lookup;refine wpList_lookup_hit (f:=kv) (g:=Value.int .i64) (k:=four id) (z:=.int .i64 0) rfl rfl rfl rfl (HI.out.known) Tryz.underlying135 keys4 (zero_int _) (find_hit hfind) ?_)
      go_round
      case rel=>exact⟨s+i,n+1,rfl,by go_num,by omega,by rw [← Hc.out,show L - n=(L - (n+1))+1 by omega,climb,hfind]⟩
      case measure=>simp [intOf];omega
     | none =>
      have hp:climb s ns L 0 0=(id,n):=by rw [← Hc.out,show L - n=(L - (n+1))+1 by omega,climb,hfind]
      have HP:=Lib.hid hp
      clear hp
      by_cases hfull:100000<ns.length+(L - n)
      ·have hd2:(100000:Int) - (↑L - ↑n)<ns.length:=by omega
       have Hfull:=Lib.hid hfull
       clear hfull
       go_wp2_with (at_lookup;refine wpList_lookup_miss (f:=kv) (g:=Value.int .i64) (k:=four id) (z:=.int .i64 0) rfl rfl rfl rfl (HI.out.known) Tryz.underlying135 keys4 (zero_int _) (find_miss hfind) ?_)
       go_ret2
       have hQ:=HE.out
       rw [HP.out] at hQ
       rw [if_pos Hfull.out] at hQ
       rw [hQ]
       exact TwoPost.same hSk (by (repeat first|exact Fr.refl _ _|assumption|apply Fr.n|apply Fr.d|apply Fr.a|refine Fr.s ?_ (.inr (by simp;try omega)) _))
      ·have hd2:(ns.length:Int)≤100000 - (↑L - ↑n):=by omega
       have Hfull:=Lib.hid hfull
       clear hfull
       have hQ:=HE.out
       rw [HP.out] at hQ
       rw [if_neg Hfull.out] at hQ
       have HQ:=Lib.hid hQ
       clear hQ
       go_wp2_with (at_lookup;refine wpList_lookup_miss (f:=kv) (g:=Value.int .i64) (k:=four id) (z:=.int .i64 0) rfl rfl rfl rfl (HI.out.known) Tryz.underlying135 keys4 (zero_int _) (find_miss hfind) ?_)
       go_loopw [6,7] (fun x y wr=>∃ (id':Int) (n':Nat) (ns':List K4) (F':List Nat),x=.int .i64 id'∧y=.int .i64 n'∧n'≤L∧grow s (L - n') id' ns'=grow s (L - n) id ns∧StoreAt wr b s ns' F' ∧
        Fr (foot b (.slice na ns.length nc) lv mb) w wr∧(∀ x∈F',x∈foot b (.slice na ns.length nc) lv mb∨w.heap.size≤x)) (fun _ y _=>L - (intOf y).toNat)
       case atStart=>exact⟨id,n,ns,_,rfl,rfl,hn,rfl,hSk,Fr.refl _ _,fun x hx=>.inl hx⟩
       case round =>
        obtain⟨id',n',ns',F',rfl,rfl,hn',hg,hS',hf',hF'⟩:=hrel
        have Hg:=Lib.hid hg
        have Hf:=Lib.hid hf'
        have HF:=Lib.hid hF'
        clear hg hf' hF'
        by_cases hlt':n'<L
        ·have hJ:Calls Tryz.prog 75 #[.pointer (some ⟨b,0,none⟩),.int .i64 id',.int .i64 id',.int .i64 id',.int .i64 id'] wr (JoinPost wr b s ns' F' (four id')):=Join_calls hS' (four id')
         have hgs:grow s (L - n') id' ns'=grow s (L - (n'+1)) (join s ns' (four id')).1.1 (join s ns' (four id')).2:=by
          rw [show L - n'=(L - (n'+1))+1 by omega];rfl
         have Hgs:=Lib.hid hgs
         clear hgs
         go_wp2_with fail
         refine hJ.mono ?_
         rintro e w1 ⟨rfl,F2,hS2,hf2,hF2⟩
         clear hJ
         have Hf2:=Lib.hid hf2
         have HF2:=Lib.hid hF2
         clear hf2 hF2
         go_wp2
         go_roundw
         case rel =>
          refine⟨_,n'+1,(join s ns' (four id')).2,F2,rfl,by go_num,by omega,Hgs.out.symm.trans Hg.out,hS2,Hf.out.trans Hf2.out HF.out,fun x hx=>?_⟩
          rcases HF2.out x hx with h|h
          ·exact HF.out x h
          ·right;have:=Hf.out.size;omega
         case measure=>simp [intOf];omega
        ·obtain rfl:n'=L:=by omega
         go_wp2
         go_ret2
         have hg0:=Hg.out
         rw [show grow s (n' - n') id' ns'=(id',ns') from by rw [Nat.sub_self];rfl] at hg0
         rw [HQ.out,← hg0]
         exact⟨rfl,F',hS',Hf.out,HF.out⟩
    ·obtain rfl:n=L:=by omega
     have hp:climb s ns n 0 0=(id,n):=by rw [← Hc.out,Nat.sub_self,climb]
     have HP:=Lib.hid hp
     clear hp
     by_cases hfull:100000<ns.length+(n - n)
     ·have hd2:(100000:Int) - (↑n - ↑n)<ns.length:=by omega
      have Hfull:=Lib.hid hfull
      clear hfull
      go_wp2
      go_ret2
      have hQ:=HE.out
      rw [HP.out] at hQ
      rw [if_pos Hfull.out] at hQ
      rw [hQ]
      exact TwoPost.same hSk (by (repeat first|exact Fr.refl _ _|assumption|apply Fr.n|apply Fr.d|apply Fr.a|refine Fr.s ?_ (.inr (by simp;try omega)) _))
     ·have hd2:(ns.length:Int)≤100000 - (↑n - ↑n):=by omega
      have Hfull:=Lib.hid hfull
      clear hfull
      have hQ:=HE.out
      rw [HP.out] at hQ
      rw [if_neg Hfull.out] at hQ
      have HQ:=Lib.hid hQ
      clear hQ
      go_wp2
      go_loopw [6,7] (fun x y wr=>∃ (id':Int) (n':Nat) (ns':List K4) (F':List Nat),x=.int .i64 id'∧y=.int .i64 n'∧n'≤n∧grow s (n - n') id' ns'=grow s (n - n) id ns∧StoreAt wr b s ns' F' ∧
       Fr (foot b (.slice na ns.length nc) lv mb) w wr∧(∀ x∈F',x∈foot b (.slice na ns.length nc) lv mb∨w.heap.size≤x)) (fun _ y _=>n - (intOf y).toNat)
      case atStart=>exact⟨id,n,ns,_,rfl,rfl,hn,rfl,hSk,Fr.refl _ _,fun x hx=>.inl hx⟩
      case round =>
       obtain⟨id',n',ns',F',rfl,rfl,hn',hg,hS',hf',hF'⟩:=hrel
       have Hg:=Lib.hid hg
       have Hf:=Lib.hid hf'
       have HF:=Lib.hid hF'
       clear hg hf' hF'
       by_cases hlt':n'<n
       ·have hJ:Calls Tryz.prog 75 #[.pointer (some ⟨b,0,none⟩),.int .i64 id',.int .i64 id',.int .i64 id',.int .i64 id'] wr (JoinPost wr b s ns' F' (four id')):=Join_calls hS' (four id')
        have hgs:grow s (n - n') id' ns'=grow s (n - (n'+1)) (join s ns' (four id')).1.1 (join s ns' (four id')).2:=by
         rw [show n - n'=(n - (n'+1))+1 by omega];rfl
        have Hgs:=Lib.hid hgs
        clear hgs
        go_wp2_with fail
        refine hJ.mono ?_
        rintro e w1 ⟨rfl,F2,hS2,hf2,hF2⟩
        clear hJ
        have Hf2:=Lib.hid hf2
        have HF2:=Lib.hid hF2
        clear hf2 hF2
        go_wp2
        go_roundw
        case rel =>
         refine⟨_,n'+1,(join s ns' (four id')).2,F2,rfl,by go_num,by omega,Hgs.out.symm.trans Hg.out,hS2,Hf.out.trans Hf2.out HF.out,fun x hx=>?_⟩
         rcases HF2.out x hx with h|h
         ·exact HF.out x h
         ·right;have:=Hf.out.size;omega
        case measure=>simp [intOf];omega
       ·obtain rfl:n'=n:=by omega
        go_wp2
        go_ret2
        have hg0:=Hg.out
        rw [show grow s (n' - n') id' ns'=(id',ns') from by rw [Nat.sub_self];rfl] at hg0
        rw [HQ.out,← hg0]
        exact⟨rfl,F',hS',Hf.out,HF.out⟩
end Go.Proofs.YtdanghnadbkhfaaGreat
end
section
namespace Go.Proofs.Qs
theorem lvl_kn {s:Int} {ls:List Int} {id:Int} (_:0≤s) (h:0≤lvl s ls id):0≤id∧id<s+ls.length:=by
 unfold lvl at h
 by_cases h1:id<0
 ·rw [if_pos h1] at h;omega
 ·rw [if_neg h1] at h
  by_cases h2:id<s
  ·omega
  ·rw [if_neg h2] at h
   by_cases h3:id<s+ls.length
   ·omega
   ·rw [List.getD_eq_getElem?_getD,List.getElem?_eq_none (by omega)] at h
    simp at h
theorem lvl_tk {s:Int} {ns:List K4} {i:Nat} {id:Int} (h:id<s+i):lvl s (levs s (ns.take i)) id=lvl s (levs s ns) id:=by
 unfold lvl
 by_cases h1:id<0
 ·rw [if_pos h1,if_pos h1]
 ·rw [if_neg h1,if_neg h1]
  by_cases h2:id<s
  ·rw [if_pos h2,if_pos h2]
  ·rw [if_neg h2,if_neg h2,← levs_take,List.getD_eq_getElem?_getD,List.getD_eq_getElem?_getD,List.getElem?_take,if_pos (by omega)]
theorem good_kids {s:Int} {ns:List K4} (h:GoodQ s ns) {i:Nat} {k:K4} (hk:ns[i]?=some k) :
  (0≤k.a∧k.a<s+i)∧(0≤k.b∧k.b<s+i)∧(0≤k.c∧k.c<s+i)∧(0≤k.d∧k.d<s+i):=by
 have hs:0≤s:=by have:=h.1;omega
 have hi:=(List.getElem?_eq_some_iff.1 hk).1
 obtain⟨h0,h1,h2,h3,h4⟩:=h.2.2.2.2 i k hk
 have hl:(levs s (ns.take i)).length=i:=by rw [levs_length,List.length_take];omega
 have ka:=lvl_kn hs h0
 have kb:=lvl_kn hs (by rw [h2];exact h0)
 have kc:=lvl_kn hs (by rw [h3];exact h0)
 have kd:=lvl_kn hs (by rw [h4];exact h0)
 rw [hl] at ka kb kc kd
 exact⟨ka,kb,kc,kd⟩
theorem good_lvl {s:Int} {ns:List K4} (h:GoodQ s ns) {i:Nat} {k:K4} (hk:ns[i]?=some k) :
  lvl s (levs s ns) (s+i)=lvl s (levs s ns) k.a+1∧0≤lvl s (levs s ns) k.a∧lvl s (levs s ns) k.a<256∧lvl s (levs s ns) k.b=lvl s (levs s ns) k.a∧lvl s (levs s ns) k.c=lvl s (levs s ns) k.a∧lvl s (levs s ns) k.d=lvl s (levs s ns) k.a:=by
 have hs:=h.1
 have hi:=(List.getElem?_eq_some_iff.1 hk).1
 obtain⟨⟨_,ka⟩,⟨_,kb⟩,⟨_,kc⟩,⟨_,kd⟩⟩:=good_kids h hk
 obtain⟨h0,h1,h2,h3,h4⟩:=h.2.2.2.2 i k hk
 rw [lvl_tk ka] at h0 h1 h2 h3 h4
 rw [lvl_tk kb] at h2
 rw [lvl_tk kc] at h3
 rw [lvl_tk kd] at h4
 refine⟨?_,h0,h1,h2,h3,h4⟩
 have e:(levs s ns)[i]?=some (lvl s (levs s (ns.take i)) k.a+1):=by
  have h5:levs s (ns.take (i+1))=levs s (ns.take i)++[lvl s (levs s (ns.take i)) k.a+1]:=by
   rw [List.take_add_one,hk];exact levs_snoc s _ k
  have h6:=congrArg (fun l:List Int=>l[i]?) h5
  rw [← levs_take,List.getElem?_take,if_pos (by omega),List.getElem?_append_right (by rw [levs_length,List.length_take];omega),levs_length,List.length_take,Nat.min_eq_left (by omega),Nat.sub_self] at h6
  exact h6
 rw [lvl_tk ka] at e
 show (if s+(i:Int)<0 then -1 else if s+(i:Int)<s then 0 else (levs s ns).getD (s+(i:Int) - s).toNat (-1))=_
 rw [if_neg (by omega),if_neg (by omega),show (s+(i:Int) - s).toNat=i by omega,List.getD_eq_getElem?_getD,e];rfl
inductive Tr where
 | leaf (n:Int)
 | node (a b c d:Tr)
 deriving DecidableEq
def tget (s:Int) (l:List Tr) (id:Int):Tr:=if id<s then .leaf id else l.getD (id - s).toNat (.leaf 0)
def trs (s:Int) (ns:List K4):List Tr:=ns.foldl (fun l k=>l++[.node (tget s l k.a) (tget s l k.b) (tget s l k.c) (tget s l k.d)]) []
theorem trs_snoc (s:Int) (ns:List K4) (k:K4):trs s (ns++[k])=trs s ns++[.node (tget s (trs s ns) k.a) (tget s (trs s ns) k.b) (tget s (trs s ns) k.c) (tget s (trs s ns) k.d)]:=by simp [trs]
theorem trs_length (s:Int) (ns:List K4):(trs s ns).length=ns.length:=by
 rcases List.eq_nil_or_concat ns with rfl|⟨l,x,rfl⟩
 ·rfl
 ·rw [List.concat_eq_append,trs_snoc]
  simp [trs_length s l]
termination_by ns.length
decreasing_by simp_all
theorem trs_take (s:Int) (ns:List K4):∀ i,(trs s ns).take i=trs s (ns.take i):=by
 intro i
 rcases List.eq_nil_or_concat ns with rfl|⟨l,x,rfl⟩
 ·simp [trs]
 ·rw [List.concat_eq_append,trs_snoc]
  rcases Nat.lt_or_ge l.length i with h|h
  ·rw [List.take_of_length_le (by simp [trs_length];omega),List.take_of_length_le (by simp;omega),trs_snoc]
  ·rw [List.take_append_of_le_length (by simp [trs_length];omega),List.take_append_of_le_length h,trs_take s l i]
termination_by ns.length
decreasing_by simp_all
def tr (s:Int) (ns:List K4) (id:Int):Tr:=tget s (trs s ns) id
theorem tr_tk {s:Int} {ns:List K4} {i:Nat} {id:Int} (h:id<s+i):tr s (ns.take i) id=tr s ns id:=by
 unfold tr tget
 by_cases h2:id<s
 ·rw [if_pos h2,if_pos h2]
 ·rw [if_neg h2,if_neg h2,← trs_take,List.getD_eq_getElem?_getD,List.getD_eq_getElem?_getD,List.getElem?_take,if_pos (by omega)]
theorem tr_app {s:Int} {ns ms:List K4} {id:Int} (h:id<s+ns.length):tr s (ns++ms) id=tr s ns id:=by
 have:=tr_tk (s:=s) (ns:=ns++ms) (i:=ns.length) h
 rw [List.take_left'] at this
 ·exact this.symm
 ·rfl
theorem tr_leaf {s:Int} {ns:List K4} {id:Int} (h:id<s):tr s ns id=.leaf id:=by unfold tr tget;rw [if_pos h]
theorem tr_node {s:Int} {ns:List K4} (h:GoodQ s ns) {i:Nat} {k:K4} (hk:ns[i]?=some k):tr s ns (s+i)=.node (tr s ns k.a) (tr s ns k.b) (tr s ns k.c) (tr s ns k.d):=by
 have hi:=(List.getElem?_eq_some_iff.1 hk).1
 obtain⟨⟨_,ka⟩,⟨_,kb⟩,⟨_,kc⟩,⟨_,kd⟩⟩:=good_kids h hk
 have e:(trs s ns)[i]?=some (.node (tr s (ns.take i) k.a) (tr s (ns.take i) k.b) (tr s (ns.take i) k.c) (tr s (ns.take i) k.d)):=by
  have h5:trs s (ns.take (i+1))=trs s (ns.take i)++[.node (tr s (ns.take i) k.a) (tr s (ns.take i) k.b) (tr s (ns.take i) k.c) (tr s (ns.take i) k.d)]:=by
   rw [List.take_add_one,hk];exact trs_snoc s _ k
  have h6:=congrArg (fun l:List Tr=>l[i]?) h5
  rw [← trs_take,List.getElem?_take,if_pos (by omega),List.getElem?_append_right (by rw [trs_length,List.length_take];omega),trs_length,List.length_take,Nat.min_eq_left (by omega),Nat.sub_self] at h6
  exact h6
 rw [tr_tk ka,tr_tk kb,tr_tk kc,tr_tk kd] at e
 show (if s+(i:Int)<s then Tr.leaf _ else (trs s ns).getD (s+(i:Int) - s).toNat _)=_
 rw [if_neg (by omega),show (s+(i:Int) - s).toNat=i by omega,List.getD_eq_getElem?_getD,e];rfl
def Kn (s:Int) (ns:List K4) (id:Int):Prop:=0≤id∧id<s+ns.length
instance (s:Int) (ns:List K4) (id:Int):Decidable (Kn s ns id):=by unfold Kn;exact inferInstance
theorem Kn.cases {s:Int} {ns:List K4} {id:Int} (h:Kn s ns id):(0≤id∧id<s)∨∃ i k,id=s+(i:Nat)∧ns[i]?=some k:=by
 by_cases h1:id<s
 ·exact .inl ⟨h.1,h1⟩
 ·right
  have:=h.2
  exact⟨(id - s).toNat,ns[(id - s).toNat]'(by omega),by omega,List.getElem?_eq_getElem _⟩
theorem tr_inj {s:Int} {ns:List K4} (h:GoodQ s ns):∀ (n:Nat) {x y:Int},x<s+n→Kn s ns x→Kn s ns y→tr s ns x=tr s ns y→x=y
 | 0,x,y,hx,kx,ky,he=>by
  rw [tr_leaf (by omega)] at he
  rcases ky.cases with ⟨_,hy⟩|⟨j,k,rfl,hk⟩
  ·rw [tr_leaf hy] at he;cases he;rfl
  ·rw [tr_node h hk] at he;cases he
 | n+1,x,y,hx,kx,ky,he=>by
  rcases kx.cases with ⟨_,hxs⟩|⟨i,k,rfl,hk⟩
  ·exact tr_inj h n (by omega) kx ky he
  ·rcases ky.cases with ⟨_,hy⟩|⟨j,l,rfl,hl⟩
   ·rw [tr_leaf hy,tr_node h hk] at he;cases he
   ·rw [tr_node h hk,tr_node h hl] at he
    injection he with e1 e2 e3 e4
    obtain⟨a1,b1,c1,d1⟩:=good_kids h hk
    obtain⟨a2,b2,c2,d2⟩:=good_kids h hl
    have hi:=(List.getElem?_eq_some_iff.1 hk).1
    have hj:=(List.getElem?_eq_some_iff.1 hl).1
    have f1:=tr_inj h n (by omega) ⟨a1.1,by omega⟩ ⟨a2.1,by omega⟩ e1
    have f2:=tr_inj h n (by omega) ⟨b1.1,by omega⟩ ⟨b2.1,by omega⟩ e2
    have f3:=tr_inj h n (by omega) ⟨c1.1,by omega⟩ ⟨c2.1,by omega⟩ e3
    have f4:=tr_inj h n (by omega) ⟨d1.1,by omega⟩ ⟨d2.1,by omega⟩ e4
    have hkl:k=l:=by
     cases k;cases l
     simp only at f1 f2 f3 f4
     rw [f1,f2,f3,f4]
    subst hkl
    have:=(List.getElem?_inj hi h.2.2.2.1).1 (hk.trans hl.symm)
    omega
def Tr.ht:Tr→Nat
 | .leaf _=>0
 | .node a _ _ _=>a.ht+1
theorem lvl_ht {s:Int} {ns:List K4} (h:GoodQ s ns):∀ (n:Nat) {x:Int},x<s+n→Kn s ns x→lvl s (levs s ns) x=(tr s ns x).ht
 | 0,x,hx,kx=>by
  rw [tr_leaf (by omega)]
  unfold lvl
  rw [if_neg (by have:=kx.1;omega),if_pos (by omega)];rfl
 | n+1,x,hx,kx=>by
  rcases kx.cases with ⟨h0,hxs⟩|⟨i,k,rfl,hk⟩
  ·rw [tr_leaf hxs]
   unfold lvl
   rw [if_neg (by omega),if_pos hxs];rfl
  ·obtain⟨a1,_⟩:=good_kids h hk
   have hi:=(List.getElem?_eq_some_iff.1 hk).1
   rw [tr_node h hk,(good_lvl h hk).1,lvl_ht h n (by omega) ⟨a1.1,by omega⟩]
   show _=(((tr s ns k.a).ht+1:Nat):Int)
   omega
theorem kn_lvl {s:Int} {ns:List K4} (h:GoodQ s ns) (id:Int):0≤lvl s (levs s ns) id↔Kn s ns id:=by
 constructor
 ·intro hl
  have:=lvl_kn (by have:=h.1;omega) hl
  rwa [levs_length] at this
 ·intro hk
  rw [lvl_ht h ns.length (by have:=hk.2;omega) hk];omega
end Go.Proofs.Qs
end
section
namespace Go.Proofs.Ev
open Qs
abbrev Fld:=Int→Int→Int
def p2 (n:Nat):Int:=((2 ^ n:Nat):Int)
def mk:Nat→Fld→Int→Int→Tr
 | 0,F,x,y=>.leaf (F x y)
 | n+1,F,x,y=>.node (mk n F x y) (mk n F (x+p2 n) y) (mk n F x (y+p2 n)) (mk n F (x+p2 n) (y+p2 n))
def Full:Nat→Tr→Prop
 | 0,.leaf _=>True
 | n+1,.node a b c d=>Full n a∧Full n b∧Full n c∧Full n d
 | _,_=>False
def cell:Nat→Tr→Fld
 | 0,.leaf v=>fun _ _=>v
 | n+1,.node a b c d=>fun x y=>if y<p2 n then (if x<p2 n then cell n a x y else cell n b (x - p2 n) y) else (if x<p2 n then cell n c x (y - p2 n) else cell n d (x - p2 n) (y - p2 n))
 | _,_=>fun _ _=>0
theorem full_ht:∀ (n:Nat) {t:Tr},Full n t→t.ht=n
 | 0,.leaf v,_=>rfl
 | 0,.node _ _ _ _,h=>h.elim
 | n+1,.leaf _,h=>h.elim
 | n+1,.node a b c d,h=>by show a.ht+1=n+1;rw [full_ht n h.1]
def Tr.q:Tr→Nat→Tr
 | .node a _ _ _,0=>a
 | .node _ b _ _,1=>b
 | .node _ _ c _,2=>c
 | .node _ _ _ d,_+3=>d
 | .leaf v,_=>.leaf v
end Go.Proofs.Ev
end
section
namespace Go.Proofs.Qs
open Ev
def Tr.ok (s:Int):Tr→Prop
 | .leaf v=>0≤v∧v<s
 | .node a b c d=>a.ok s∧b.ok s∧c.ok s∧d.ok s
def Is (s:Int) (ns:List K4) (n:Nat) (id:Int) (t:Tr):Prop:=Kn s ns id∧tr s ns id=t∧Full n t∧t.ok s
theorem Is.grow {s:Int} {ns ms:List K4} {n:Nat} {id:Int} {t:Tr} (h:Is s ns n id t) (hp:ns <+: ms):Is s ms n id t:=by
 obtain⟨xs,rfl⟩:=hp
 obtain⟨hk,ht,hf⟩:=h
 refine⟨⟨hk.1,by have:=hk.2;simp;omega⟩,?_,hf⟩
 rw [tr_app hk.2,ht]
theorem Is.lvl {s:Int} {ns:List K4} (hg:GoodQ s ns) {n:Nat} {id:Int} {t:Tr} (h:Is s ns n id t):lvl s (levs s ns) id=n:=by
 obtain⟨hk,ht,hf,_⟩:=h
 rw [lvl_ht hg ns.length (by have:=hk.2;omega) hk,ht,full_ht n hf]
theorem Is.inj {s:Int} {ns:List K4} (hg:GoodQ s ns) {n m:Nat} {x y:Int} {t:Tr} (h:Is s ns n x t) (h':Is s ns m y t):x=y :=
 tr_inj hg ns.length (by have:=h.1.2;omega) h.1 h'.1 (h.2.1.trans h'.2.1.symm)
theorem good_full {s:Int} {ns:List K4} (h:GoodQ s ns):∀ (m:Nat) {x:Int},x<s+m→Kn s ns x→Full (tr s ns x).ht (tr s ns x)∧(tr s ns x).ok s
 | 0,x,hx,kx=>by rw [tr_leaf (by omega)];exact⟨trivial,kx.1,by omega⟩
 | m+1,x,hx,kx=>by
  rcases kx.cases with ⟨h0,hxs⟩|⟨i,k,rfl,hk⟩
  ·rw [tr_leaf hxs];exact⟨trivial,h0,hxs⟩
  ·obtain⟨ka,kb,kc,kd⟩:=good_kids h hk
   obtain⟨_,_,_,lb,lc,ld⟩:=good_lvl h hk
   have hi:=(List.getElem?_eq_some_iff.1 hk).1
   have na:Kn s ns k.a:=⟨ka.1,by omega⟩
   have nb:Kn s ns k.b:=⟨kb.1,by omega⟩
   have nc:Kn s ns k.c:=⟨kc.1,by omega⟩
   have nd:Kn s ns k.d:=⟨kd.1,by omega⟩
   have fa:=good_full h m (x:=k.a) (by omega) na
   have fb:=good_full h m (x:=k.b) (by omega) nb
   have fc:=good_full h m (x:=k.c) (by omega) nc
   have fd:=good_full h m (x:=k.d) (by omega) nd
   rw [lvl_ht h ns.length (by have:=nb.2;omega) nb,lvl_ht h ns.length (by have:=na.2;omega) na] at lb
   rw [lvl_ht h ns.length (by have:=nc.2;omega) nc,lvl_ht h ns.length (by have:=na.2;omega) na] at lc
   rw [lvl_ht h ns.length (by have:=nd.2;omega) nd,lvl_ht h ns.length (by have:=na.2;omega) na] at ld
   rw [tr_node h hk]
   refine⟨⟨fa.1,?_,?_,?_⟩,fa.2,fb.2,fc.2,fd.2⟩
   ·rw [show (tr s ns k.a).ht=(tr s ns k.b).ht by omega];exact fb.1
   ·rw [show (tr s ns k.a).ht=(tr s ns k.c).ht by omega];exact fc.1
   ·rw [show (tr s ns k.a).ht=(tr s ns k.d).ht by omega];exact fd.1
theorem Is.of_lvl {s:Int} {ns:List K4} (hg:GoodQ s ns) {id:Int} {n:Nat} (h:Go.Proofs.Qs.lvl s (levs s ns) id=n):Is s ns n id (tr s ns id):=by
 have hk:Kn s ns id:=(kn_lvl hg id).1 (by omega)
 have hf:=good_full hg ns.length (x:=id) (by have:=hk.2;omega) hk
 rw [lvl_ht hg ns.length (by have:=hk.2;omega) hk] at h
 refine⟨hk,rfl,?_,hf.2⟩
 rw [show n=(tr s ns id).ht by omega]
 exact hf.1
theorem Is.leaf {s:Int} {ns:List K4} {v:Int} (h:0≤v) (h':v<s):Is s ns 0 v (.leaf v):=⟨⟨h,by omega⟩,tr_leaf h',trivial,h,h'⟩
theorem Is.zero {s:Int} {ns:List K4} (hg:GoodQ s ns) {v:Int} {t:Tr} (h:Is s ns 0 v t):0≤v∧v<s∧t=.leaf v:=by
 obtain⟨hk,ht,hf,hok⟩:=h
 rcases hk.cases with ⟨h0,h1⟩|⟨i,k,rfl,hi⟩
 ·exact⟨h0,h1,by rw [← ht,tr_leaf h1]⟩
 ·rw [tr_node hg hi] at ht
  subst ht
  exact hf.elim
theorem Is.kids {s:Int} {ns:List K4} (hg:GoodQ s ns) {n:Nat} {id:Int} {t:Tr} (h:Is s ns (n+1) id t) :
  ∃ i k,id=s+(i:Nat)∧ns[i]?=some k∧Is s ns n k.a (Tr.q t 0)∧Is s ns n k.b (Tr.q t 1)∧Is s ns n k.c (Tr.q t 2)∧Is s ns n k.d (Tr.q t 3)∧t=.node (Tr.q t 0) (Tr.q t 1) (Tr.q t 2) (Tr.q t 3):=by
 obtain⟨hk,ht,hf,hok⟩:=h
 rcases hk.cases with ⟨h0,h1⟩|⟨i,k,rfl,hi⟩
 ·rw [tr_leaf h1] at ht
  subst ht
  exact hf.elim
 ·obtain⟨ka,kb,kc,kd⟩:=good_kids hg hi
  have hl:=(List.getElem?_eq_some_iff.1 hi).1
  rw [tr_node hg hi] at ht
  subst ht
  exact⟨i,k,rfl,hi,⟨⟨ka.1,by omega⟩,rfl,hf.1,hok.1⟩,⟨⟨kb.1,by omega⟩,rfl,hf.2.1,hok.2.1⟩,⟨⟨kc.1,by omega⟩,rfl,hf.2.2.1,hok.2.2.1⟩,⟨⟨kd.1,by omega⟩,rfl,hf.2.2.2,hok.2.2.2⟩,rfl⟩
def room (s:Int) (ns:List K4) (L:List Tr):Prop:=ns.length+(L.filter fun t=>decide (t∉trs s ns)).length≤90000
theorem room.len {s:Int} {ns:List K4} {L:List Tr} (h:room s ns L):ns.length≤90000:=by unfold room at h;omega
end Go.Proofs.Qs
namespace Go.Proofs.Ev
open Qs
end Go.Proofs.Ev
end
section
namespace Go.Proofs.Ev
open Qs
structure Rule where
 S:Int
 hood:List (Int×Int)
 nodes:List (Int×List Int)
def before (p q:Int×Int):Bool:=decide (p.2<q.2∨p.2=q.2∧p.1<q.1)
def near2 (p:Int×Int):Bool:=decide (-2≤p.1∧p.1≤2∧-2≤p.2∧p.2≤2)
def hoodAt (l:List (Int×Int)) (i:Nat):Bool:=near2 (l.getD i (0,0)) && (decide (i=0) || before (l.getD (i - 1) (0,0)) (l.getD i (0,0)))
def hoodR (l:List (Int×Int)):Bool:=decide (1≤l.length) && decide (l.length≤25) && (List.range l.length).all (hoodAt l)
def levelAt (r:Rule) (k:Int):Int:=(r.nodes.getD k.toNat (0,[])).1
def entOK (r:Rule) (lv:Int) (i:Nat) (k:Int):Bool:=decide (0≤k) && (if lv=1 then decide (k<r.S) else true) && (if 1<lv then decide (k<i∧levelAt r k=lv - 1) else true)
def nodeOK (r:Rule) (i:Nat):Bool :=
 decide (1≤(r.nodes.getD i (0,[])).1∧(r.nodes.getD i (0,[])).1≤r.hood.length∧(((r.nodes.getD i (0,[])).2.length:Nat):Int)=r.S) && (r.nodes.getD i (0,[])).2.all (entOK r (r.nodes.getD i (0,[])).1 i)
def rightR (r:Rule):Bool:=decide (2≤r.S∧r.S≤8) && hoodR r.hood && decide (1≤r.nodes.length∧r.nodes.length≤4096) && decide (levelAt r (r.nodes.length - 1:Int)=r.hood.length) && (List.range r.nodes.length).all (nodeOK r)
section
variable {r:Rule} (h:rightR r=true)
include h
end
end Go.Proofs.Ev
end
section
namespace Go.Proofs.Ev
open Qs
end Go.Proofs.Ev
end
section
namespace Go.Proofs.Ev
open Qs
section
variable {g:Fld→Fld} {lost n k:Nat} {t:Tr}
end
end Go.Proofs.Ev
namespace Go.Proofs.Qs
open Ev
def K4.get (k:K4):Nat→Int
 | 0=>k.a
 | 1=>k.b
 | 2=>k.c
 | _=>k.d
def nodeOf (s:Int) (ns:List K4) (id:Int):K4:=ns.getD (id - s).toNat ⟨0,0,0,0⟩
theorem Is.node {s:Int} {ns:List K4} (hg:GoodQ s ns) {n:Nat} {id:Int} {t:Tr} (h:Is s ns (n+1) id t) :
  s≤id∧ns[(id - s).toNat]?=some (nodeOf s ns id)∧∀ q,q<4→Is s ns n ((nodeOf s ns id).get q) (Tr.q t q):=by
 obtain⟨i,k,rfl,hk,ha,hb,hc,hd,_⟩:=h.kids hg
 have e:(s+(i:Int) - s).toNat=i:=by omega
 have e2:nodeOf s ns (s+(i:Int))=k:=by unfold nodeOf;rw [e,List.getD_eq_getElem?_getD,hk];rfl
 rw [e,e2]
 refine⟨by omega,hk,fun q hq=>?_⟩
 match q,hq with
 | 0,_=>exact ha
 | 1,_=>exact hb
 | 2,_=>exact hc
 | 3,_=>exact hd
end Go.Proofs.Qs
end
section
namespace Go.Proofs.Mp
open Go
section
variable {P:Program} {T E:TypeId} {q:IntKind} {f1 f2:Field}
def pairV (q:IntKind) (k:Int×Int):Value:=.agg #[.int q k.1,.int q k.2]
theorem run_program (w:World):(Go.program:Sem Program).run P w=.ok P w:=rfl
theorem run_equalIn_pair (hT : P.underlying T = some (.struct #[f1, f2])) (t1 : f1.type = E) (t2 : f2.type = E) (o1 : f1.offset = 0) (o2 : f2.offset = 1) (n1 : f1.name ≠ "_") (n2 : f2.name ≠ "_") (hE : P.underlying E = some (.int q)) (hst : P.stoodInHeld T = false)
  (d:Nat) (x y:Int×Int) (w:World):(Op.equalIn (d+2) T (pairV q x) (pairV q y)).run P w=.ok (decide (x=y)) w:=by
 obtain⟨a,b⟩:=x
 obtain⟨c,e⟩:=y
 show Sem.run P (Op.equalIn ((d+1)+1) _ _ _) w=_
 unfold Op.equalIn pairV
 rw [Sem.run_bind,run_underlying' hT]
 simp only [Result.andThen_ok]
 simp [run_program,hst,n1,n2,t1,t2,o1,o2,Result.andThen_ok,run_part_int hE,run_equal_int hE]
 by_cases h1:a=c<;>by_cases h2:b=e<;>simp [h1,h2]
theorem run_checkKey_pair (hT : P.underlying T = some (.struct #[f1, f2])) (t1 : f1.type = E) (t2 : f2.type = E) (o1 : f1.offset = 0) (o2 : f2.offset = 1) (n1 : f1.name ≠ "_") (n2 : f2.name ≠ "_") (hE : P.underlying E = some (.int q))
  (d:Nat) (e:Bool) (x:Int×Int) (w:World):(Instr.checkKey e (d+2) T (pairV q x)).run P w=.ok () w:=by
 obtain⟨a,b⟩:=x
 have hc:∀ (x:Int) w,(Instr.checkKey e (d+1) E (.int q x)).run P w=.ok () w:=by
  intro x w
  unfold Instr.checkKey
  rw [Sem.run_bind,run_underlying' hE]
  simp
 show Sem.run P (Instr.checkKey e ((d+1)+1) _ _) w=_
 unfold Instr.checkKey pairV
 rw [Sem.run_bind,run_underlying' hT]
 simp only [Result.andThen_ok]
 simp [n1,n2,t1,t2,o1,o2,Result.andThen_ok,run_part_int hE,hc]
theorem KeysBy.pair (hT : P.underlying T = some (.struct #[f1, f2])) (t1 : f1.type = E) (t2 : f2.type = E) (o1 : f1.offset = 0) (o2 : f2.offset = 1) (n1 : f1.name ≠ "_") (n2 : f2.name ≠ "_") (hE : P.underlying E = some (.int q)) (hst : P.stoodInHeld T = false) : KeysBy P T (pairV q) := by
 refine KeysBy.deep hT (fun k v=>rfl) (fun a b w=>run_equalIn_pair hT t1 t2 o1 o2 n1 n2 hE hst 9998 a b w) (fun e k w=>run_checkKey_pair hT t1 t2 o1 o2 n1 n2 hE 9998 e k w) fun k=>?_
 show Instr.sameBits 10000 (.agg #[_,_]) (.agg #[_,_])=true
 unfold Instr.sameBits
 simp [sameBits_int]
end
end Go.Proofs.Mp
end
section
namespace Go.Proofs.Hp
open Go Go.RowKit
structure Res where
 holds:World→List Nat→Prop
 keep:∀ {w w':World} {F:List Nat},holds w F→(∀ x∈F,w'.heap[x]?=w.heap[x]?)→holds w' F
 lt:∀ {w:World} {F:List Nat},holds w F→∀ x∈F,x<w.heap.size
def Seps (w:World):List Res→List Nat→Prop
 | [],F=>F=[]
 | P::Ps,F=>∃ F1 F2,P.holds w F1∧Seps w Ps F2∧(∀ x∈F1,x∉F2)∧F=F1++F2
def Has (W w:World) (Ps:List Res):Prop:=∃ F,Seps w Ps F∧Fr [] W w∧∀ x∈F,W.heap.size≤x
theorem Seps.keep {w w':World}:∀ {Ps:List Res} {F:List Nat},Seps w Ps F→(∀ x∈F,w'.heap[x]?=w.heap[x]?)→Seps w' Ps F
 | [],_,h,_=>h
 | P::Ps,F,⟨F1,F2,h1,h2,h3,h4⟩,hk=>⟨F1,F2,P.keep h1 fun x hx=>hk x (by rw [h4];simp [hx]),Seps.keep h2 fun x hx=>hk x (by rw [h4];simp [hx]),h3,h4⟩
theorem Seps.lt {w:World}:∀ {Ps:List Res} {F:List Nat},Seps w Ps F→∀ x∈F,x<w.heap.size
 | [],_,h,x,hx=>by rw [show _=[] from h] at hx;cases hx
 | P::Ps,F,⟨F1,F2,h1,h2,h3,h4⟩,x,hx=>by
  rw [h4,List.mem_append] at hx
  rcases hx with hx|hx
  ·exact P.lt h1 x hx
  ·exact Seps.lt h2 x hx
section
variable {W w w':World} {P P' Q:Res} {Ps:List Res}
theorem Has.fr (h:Has W w Ps):Fr [] W w:=by obtain⟨_,_,h,_⟩:=h;exact h
theorem Has.nil (h:Fr [] W w):Has W w []:=⟨[],rfl,h,by simp⟩
theorem Has.step (h:Has W w Ps) (hf:Fr [] w w'):Has W w' Ps:=by
 obtain⟨F,h1,h2,h3⟩:=h
 exact⟨F,h1.keep fun x hx=>hf.block x (h1.lt x hx) (by simp),h2.trans0 hf,h3⟩
theorem Has.drew (h:Has W w Ps) (hd:Drew w w'):Has W w' Ps:=h.step (hd.fr _)
theorem Has.head (h:Has W w (P::Ps)):∃ F,P.holds w F:=by obtain⟨F,⟨F1,F2,h1,_⟩,_⟩:=h;exact⟨F1,h1⟩
theorem Has.new {F:List Nat} (h:Has W w Ps) (hf:Fr [] w w') (hP:P.holds w' F) (hF:∀ x∈F,w.heap.size≤x):Has W w' (P::Ps):=by
 obtain⟨G,h1,h2,h3⟩:=h
 refine⟨F++G,⟨F,G,hP,h1.keep fun x hx=>hf.block x (h1.lt x hx) (by simp),fun x hx hx'=>?_,rfl⟩,h2.trans0 hf,fun x hx=>?_⟩
 ·have:=hF x hx;have:=h1.lt x hx';omega
 ·rw [List.mem_append] at hx
  rcases hx with hx|hx
  ·have:=hF x hx;have:=h2.size;omega
  ·exact h3 x hx
theorem Has.swap (h:Has W w (P::Q::Ps)):Has W w (Q::P::Ps):=by
 obtain⟨F,⟨F1,F2,h1,⟨G1,G2,g1,g2,g3,rfl⟩,h3,rfl⟩,hf,hge⟩:=h
 refine⟨G1++(F1++G2),⟨G1,F1++G2,g1,⟨F1,G2,h1,g2,fun x hx hx'=>h3 x hx (by simp [hx']),rfl⟩,fun x hx hx'=>?_,rfl⟩,hf,fun x hx=>hge x ?_⟩
 ·rw [List.mem_append] at hx'
  rcases hx' with h|h
  ·exact h3 x h (by simp [hx])
  ·exact g3 x hx h
 ·simp only [List.mem_append] at hx ⊢
  rcases hx with h|h|h<;>simp [h]
theorem Has.drop (h:Has W w (P::Ps)):Has W w Ps:=by
 obtain⟨F,⟨F1,F2,h1,h2,h3,rfl⟩,hf,hge⟩:=h
 exact⟨F2,h2,hf,fun x hx=>hge x (by simp [hx])⟩
theorem Has.upd (h:Has W w (P::Ps)) {R:Ending→Prop} {Pr:Program} {f:FuncId} {args:Array Value}
  (hc:∀ F,P.holds w F→Calls Pr f args w fun e w'=>R e∧∃ F',P'.holds w' F'∧Fr F w w'∧∀ x∈F',x∈F∨w.heap.size≤x):Calls Pr f args w fun e w'=>R e∧Has W w' (P'::Ps):=by
 obtain⟨F,⟨F1,F2,h1,h2,h3,rfl⟩,hf,hge⟩:=h
 refine (hc F1 h1).mono ?_
 rintro e w' ⟨hR,F',hP,hf',hs⟩
 refine⟨hR,F'++F2,⟨F',F2,hP,h2.keep fun x hx=>hf'.block x (h2.lt x hx) fun hx'=>h3 x hx' hx,fun x hx hx'=>?_,rfl⟩,hf.trans hf' fun x hx=>.inr (hge x (by simp [hx])),fun x hx=>?_⟩
 ·rcases hs x hx with h|h
  ·exact h3 x h hx'
  ·have:=h2.lt x hx';omega
 ·rw [List.mem_append] at hx
  rcases hx with hx|hx
  ·rcases hs x hx with h|h
   ·exact hge x (by simp [h])
   ·have:=hf.size;omega
  ·exact hge x (by simp [hx])
theorem Has.turn (h:Has W w (P::Ps)) (hc:∀ F,P.holds w F→∃ F',P'.holds w' F'∧Fr F w w'∧∀ x∈F',x∈F∨w.heap.size≤x):Has W w' (P'::Ps):=by
 obtain⟨F,⟨F1,F2,h1,h2,h3,rfl⟩,hf,hge⟩:=h
 obtain⟨F',hP,hf',hs⟩:=hc F1 h1
 refine⟨F'++F2,⟨F',F2,hP,h2.keep fun x hx=>hf'.block x (h2.lt x hx) fun hx'=>h3 x hx' hx,fun x hx hx'=>?_,rfl⟩,hf.trans hf' fun x hx=>.inr (hge x (by simp [hx])),fun x hx=>?_⟩
 ·rcases hs x hx with h|h
  ·exact h3 x h hx'
  ·have:=h2.lt x hx';omega
 ·rw [List.mem_append] at hx
  rcases hx with hx|hx
  ·rcases hs x hx with h|h
   ·exact hge x (by simp [h])
   ·have:=hf.size;omega
  ·exact hge x (by simp [hx])
theorem Has.look (h:Has W w (P::Ps)) {R:Ending→World→Prop} {Pr:Program} {f:FuncId} {args:Array Value}
  (hc:∀ F,P.holds w F→Calls Pr f args w fun e w'=>R e w'∧Fr [] w w'):Calls Pr f args w fun e w'=>R e w'∧Has W w' (P::Ps):=by
 obtain⟨F,hP⟩:=h.head
 exact (hc F hP).mono fun e w' ⟨h1,h2⟩=>⟨h1,h.step h2⟩
end
theorem Seps.perm {w:World} {Ps Qs:List Res} (p:Ps.Perm Qs):∀ {F:List Nat},Seps w Ps F→∃ G,Seps w Qs G∧∀ x,x∈G↔x∈F:=by
 induction p with
 | nil=>exact fun h=>⟨_,h,fun x=>Iff.rfl⟩
 | cons P _ ih =>
  rintro F ⟨F1,F2,h1,h2,h3,rfl⟩
  obtain⟨G,g1,g2⟩:=ih h2
  exact⟨F1++G,⟨F1,G,h1,g1,fun x hx hx'=>h3 x hx ((g2 x).1 hx'),rfl⟩,fun x=>by simp [g2]⟩
 | swap P Q l =>
  rintro F ⟨F1,F2,h1,⟨G1,G2,g1,g2,g3,rfl⟩,h3,rfl⟩
  refine⟨G1++(F1++G2),⟨G1,F1++G2,g1,⟨F1,G2,h1,g2,fun x hx hx'=>h3 x hx (by simp [hx']),rfl⟩,fun x hx hx'=>?_,rfl⟩,fun x=>?_⟩
  ·rw [List.mem_append] at hx'
   rcases hx' with h|h
   ·exact h3 x h (by simp [hx])
   ·exact g3 x hx h
  ·simp only [List.mem_append]
   constructor<;>intro h<;>rcases h with h|h|h<;>simp [h]
 | trans _ _ ih1 ih2 =>
  intro F h
  obtain⟨G,g1,g2⟩:=ih1 h
  obtain⟨G',g1',g2'⟩:=ih2 g1
  exact⟨G',g1',fun x=>(g2' x).trans (g2 x)⟩
theorem Has.perm {W w:World} {Ps Qs:List Res} (h:Has W w Ps) (p:Ps.Perm Qs):Has W w Qs:=by
 obtain⟨F,h1,h2,h3⟩:=h
 obtain⟨G,g1,g2⟩:=h1.perm p
 exact⟨G,g1,h2,fun x hx=>h3 x ((g2 x).1 hx)⟩
theorem Has.third {W w:World} {A B C:Res} {Ps:List Res} (h:Has W w (A::B::C::Ps)):Has W w (C::A::B::Ps):=h.perm (((List.Perm.swap C B Ps).cons A).trans (List.Perm.swap C A (B::Ps)))
theorem Has.fourth {W w:World} {A B C D:Res} {Ps:List Res} (h:Has W w (A::B::C::D::Ps)):Has W w (D::A::B::C::Ps) :=
 h.perm (((((List.Perm.swap D C Ps).cons B).trans (List.Perm.swap D B (C::Ps))).cons A).trans (List.Perm.swap D A (B::C::Ps)))
def blk (b:Nat) (o:Obj):Res where
 holds w F:=w.heap[b]?=some o∧F=[b]
 keep:=fun ⟨h1,h2⟩ hk=>⟨by rw [hk b (by simp [h2])];exact h1,h2⟩
 lt:=fun ⟨h1,h2⟩ x hx=>by rw [h2] at hx;simp at hx;subst hx;exact lBk h1
theorem Has.blk {W w:World} {Ps:List Res} {b:Nat} {o:Obj} (h:Has W w (Hp.blk b o::Ps)):w.heap[b]?=some o:=by obtain⟨F,h1,_⟩:=h.head;exact h1
def row (T size:Nat) (v:Value) (n:Nat) (xs:List Value):Res where
 holds w F:=w.ownsRow 0 T size v n xs∧F=v.ownBlock.toList
 keep:=fun ⟨h1,h2⟩ hk=>⟨oOB h1 fun g hg=>hk g (by simp [h2,hg]),h2⟩
 lt:=fun ⟨h1,h2⟩ x hx=>by rw [h2] at hx;exact oLT h1 (by simpa using hx)
theorem Has.row {W w:World} {Ps:List Res} {T size n:Nat} {v:Value} {xs:List Value} (h:Has W w (Hp.row T size v n xs::Ps)):w.ownsRow 0 T size v n xs:=by obtain⟨F,h1,_⟩:=h.head;exact h1
theorem Has.newRow {W w w':World} {Ps:List Res} {T size n:Nat} {v:Value} {xs:List Value} (h:Has W w Ps) (hf:Fr [] w w') (ho:w'.ownsRow w.heap.size T size v n xs):Has W w' (Hp.row T size v n xs::Ps) :=
 h.new hf (F:=v.ownBlock.toList) ⟨owns_base ho (Nat.zero_le _),rfl⟩ fun x hx=>owns_ge ho (by simpa using hx)
theorem Has.newBlk {W w:World} {Ps:List Res} (h:Has W w Ps) (o:Obj):Has W (w.alloc o) (Hp.blk w.heap.size o::Ps) :=
 h.new ((Fr.refl [] w).alloc o) (F:=[w.heap.size]) ⟨by rw [hAC,if_pos rfl],rfl⟩ (by simp)
end Go.Proofs.Hp
end
section
namespace Go.Proofs.YtdanghnadbkhfaaGreat
open Go Go.RowKit Rg Mp Hp Qs Ev
def sTR (b:Nat) (s:Int) (ns:List K4):Res where
 holds w F:=StoreAt w b s ns F
 keep:=fun h hk=>h.keep hk
 lt:=fun h=>h.lt
section
variable {W w:World} {b:Nat} {s:Int} {ns:List K4} {Ps:List Res}
theorem has_good (h:Has W w (sTR b s ns::Ps)):GoodQ s ns:=by obtain⟨F,hS⟩:=h.head;exact hS.1
theorem Join_has (h:Has W w (sTR b s ns::Ps)) (x y z u:Int) :
  Calls Tryz.prog 75 #[.pointer (some ⟨b,0,none⟩),.int .i64 x,.int .i64 y,.int .i64 z,.int .i64 u] w fun e w' =>
   e=.returned (.tuple #[.int .i64 (join s ns ⟨x,y,z,u⟩).1.1,.int .i64 (join s ns ⟨x,y,z,u⟩).1.2])∧Has W w' (sTR b s (join s ns ⟨x,y,z,u⟩).2::Ps) :=
 h.upd (P':=sTR b s (join s ns ⟨x,y,z,u⟩).2) (R:=fun e=>e=.returned (.tuple #[.int .i64 (join s ns ⟨x,y,z,u⟩).1.1,.int .i64 (join s ns ⟨x,y,z,u⟩).1.2])) fun F hS=>(Join_calls hS ⟨x,y,z,u⟩).mono fun e w' h=>h
theorem Level_has (h:Has W w (sTR b s ns::Ps)) (id:Int) :
  Calls Tryz.prog 39 #[.pointer (some ⟨b,0,none⟩),.int .i64 id] w fun e w'=>e=.returned (.int .i64 (lvl s (levs s ns) id))∧Has W w' (sTR b s ns::Ps)∧Fr [] w w':=by
 obtain⟨F,hS⟩:=h.head
 refine (Level_calls hS id).mono ?_
 rintro e w' ⟨rfl,hd⟩
 exact⟨rfl,h.step (hd.fr _),hd.fr _⟩
theorem LevelIs_has (h:Has W w (sTR b s ns::Ps)) {n:Nat} {id:Int} {t:Tr} (hi:Is s ns n id t) :
  Calls Tryz.prog 39 #[.pointer (some ⟨b,0,none⟩),.int .i64 id] w fun e w'=>e=.returned (.int .i64 n)∧Has W w' (sTR b s ns::Ps)∧Fr [] w w':=by
 have:=Level_has h id
 rwa [hi.lvl (has_good h)] at this
theorem Kids_has (h:Has W w (sTR b s ns::Ps)) {n:Nat} {id:Int} {t:Tr} (hi:Is s ns (n+1) id t) :
  Calls Tryz.prog 40 #[.pointer (some ⟨b,0,none⟩),.int .i64 id] w fun e w'=>e=.returned (.tuple #[.agg #[.int .i64 (nodeOf s ns id).a,.int .i64 (nodeOf s ns id).b,.int .i64 (nodeOf s ns id).c,.int .i64 (nodeOf s ns id).d],.bool true])∧Has W w' (sTR b s ns::Ps)∧Fr [] w w':=by
 obtain⟨F,hS⟩:=h.head
 obtain⟨h1,h2,_⟩:=hi.node (has_good h)
 have e:kidsOf s ns id=(nodeOf s ns id,true):=by
  unfold kidsOf
  rw [if_neg (by omega),h2]
 refine (Kids_calls hS id).mono ?_
 rintro e' w' ⟨he,hf⟩
 rw [e] at he
 exact⟨he,h.step hf,hf⟩
theorem KidsLeaf_has (h:Has W w (sTR b s ns::Ps)) {id:Int} {t:Tr} (hi:Is s ns 0 id t) :
  Calls Tryz.prog 40 #[.pointer (some ⟨b,0,none⟩),.int .i64 id] w fun e w'=>e=.returned (.tuple #[.agg #[.int .i64 0,.int .i64 0,.int .i64 0,.int .i64 0],.bool false])∧Has W w' (sTR b s ns::Ps)∧Fr [] w w':=by
 obtain⟨F,hS⟩:=h.head
 obtain⟨h1,h2,_⟩:=hi.zero (has_good h)
 have e:kidsOf s ns id=(⟨0,0,0,0⟩,false):=by
  unfold kidsOf
  rw [if_pos h2]
 refine (Kids_calls hS id).mono ?_
 rintro e' w' ⟨he,hf⟩
 rw [e] at he
 exact⟨he,h.step hf,hf⟩
end
theorem hCE {W w:World} {b:Nat} {cs:Array Value} {t:TypeId} {Ps:List Res} (h:Has W w (Hp.blk b (.cells cs t (0,0))::Ps)):(∀ j,w.cell? ⟨b,j,none⟩=cs[j]?)∧(∀ j,w.frozen? ⟨b,j,none⟩=false)∧b<w.heap.size :=
 ⟨fun j=>hEC h.blk j,fun j=>hEF h.blk j,lBk h.blk⟩
theorem hST {W w:World} {b:Nat} {cs:Array Value} {t:TypeId} {Ps:List Res} (h:Has W w (Hp.blk b (.cells cs t (0,0))::Ps)) (j:Nat) (v:Value):Has W (w.setCell ⟨b,j,none⟩ v) (Hp.blk b (.cells (cs.setIfInBounds j v) t (0,0))::Ps) :=
 h.turn fun F ⟨h1,h2⟩=>⟨F,⟨heap_setCell_here h1 j v,h2⟩,(Fr.refl F w).setCell (.inl (by simp [h2])) v,fun x hx=>.inl hx⟩
theorem hAL {W w:World} {Ps:List Res} (h:Has W w Ps) (cs:Array Value) (t:TypeId):Has W (w.alloc (.cells cs t (0,0))) (Hp.blk w.heap.size (.cells cs t (0,0))::Ps):=h.newBlk _
end Go.Proofs.YtdanghnadbkhfaaGreat
end
