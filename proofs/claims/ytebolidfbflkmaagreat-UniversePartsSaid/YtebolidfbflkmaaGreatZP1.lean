/- Own texts of this claim, part 41: no condition. -/
import Derived.Test.YtebolidfbflkmaaGreatZN36
import Derived.Test.YtebolidfbflkmaaGreatZN37
import Derived.Test.YtebolidfbflkmaaGreatZP0
set_option linter.unusedVariables false
set_option linter.unusedSimpArgs false
set_option maxHeartbeats 16000000
set_option maxRecDepth 100000
section
namespace Go.Proofs.YtebolidfbflkmaaGreat
open Go Go.RowKit Rg Mp Hp Qs
def SweepPost (w:World) (s:Int) (ns:List K4) (roots:List Int) (e:Ending) (w':World):Prop :=
 (marks s ns roots=none→e=.returned (.tuple #[.pointer none,.slice none 0 0,.int .i64 13])∧Fr [] w w') ∧
 ∀ m,marks s ns roots=some m→∃ b F v,e=.returned (.tuple #[.pointer (some ⟨b,0,none⟩),v,.int .i64 0])∧StoreAt w' b s (sw s ns m ns.length).2 F ∧
  w'.ownsRow w.heap.size 3 1 v roots.length (w6s (roots.map (geti (sw s ns m ns.length).1)))∧Fr [] w w'∧(∀ x∈F,w.heap.size≤x)∧∀ x∈F,v.ownBlock≠some x
theorem w6s_seti (t:List Int) (j v:Int):w6s (seti t j v)=(w6s t).set j.toNat (.int .i64 v):=by unfold w6s seti;rw [List.map_set]
theorem w6s_get {t:List Int} {n:Nat} (h:n<t.length):(w6s t)[n]?=some (.int .i64 (geti t n)):=by unfold w6s geti;rw [List.getElem?_map,List.getElem?_eq_getElem h,List.getD_eq_getElem?_getD,show ((n:Int)).toNat=n from rfl,List.getElem?_eq_getElem h];rfl
theorem names0_zero (n:Nat):names0 0 n=List.replicate n 0:=by
 apply List.ext_getElem;·simp [names0]
 ·intro i h1 h2;simp [names0];omega
theorem names0_succ (k n:Nat):names0 ((k:Int)+1) n=seti (names0 k n) k k:=by
 apply List.ext_getElem;·simp [names0,seti]
 ·intro i h1 h2;simp only [names0,seti,List.getElem_set,List.getElem_map,List.getElem_range,Int.toNat_natCast];by_cases h:k=i;·rw [if_pos h,if_pos o_];omega
  ·rw [if_neg h];by_cases h3:(i:Int)<k;·rw [if_pos h3,if_pos o_]
   ·rw [if_neg h3,if_neg o_]
theorem Sweep_calls {w:World} {b:Nat} {s:Int} {ns:List K4} {F:List Nat} {rv:Value} {roots:List Int} (hS:StoreAt w b s ns F) (hr:Reads w rv roots.length 1 (w6s roots)) (hlr:roots.length≤1000000) :
  Calls Tryz.prog 112 #[.pointer (some ⟨b,0,none⟩),rv] w (SweepPost w s ns roots):=by
 have hg:=hS.1;have hs1:=hg.1;have hs2:=hg.2.1;have hln:=hg.2.2.1;obtain⟨S,rfl⟩:∃ S:Nat,s=S:=⟨s.toNat,o_⟩;have Hg:=q_ hg;have HS:=q_ hS;have Hr:=q_ hr;have HLR:=q_ hlr;clear hS hr hlr hg;go_enter Tryz.func112,Tryz.ntmps112;go_wp2_with fail;refine (Data_calls HS.out).mono ?_;rintro e w1 ⟨v,rfl,ho,hf⟩;obtain⟨va,vc,rfl,hva,_⟩:=oFM ho;have Ho:=q_ ho;have Hf:=q_ hf;have Hva:=q_ hva;clear ho hf hva;go_wp2_with fail;obtain⟨b7,hb7⟩:∃ x,x=w1.heap.size:=⟨_,rfl⟩;have hq:∀ w3,Fr [] w1 w3→Calls Tryz.prog 135 #[.agg #[.int .i64 S,.slice va ns.length vc],rv] w3 (MarkPost w3 S ns roots):=fun w3 hf3 =>
  marked_calls Hg.out ((Reads.of_owns Ho.out).fr hf3) ((Hr.out.fr Hf.out).fr hf3) HLR.out
 refine (hq _ (Fr.t)).mono ?_;clear hq;rintro e w2 ⟨h1,h2⟩;have H1:=q_ h1;have H2:=q_ h2;clear h1 h2;cases hm:marks S ns roots with
 | none =>obtain⟨rfl,h2⟩:=H1.out hm;have Hf2:=q_ h2;have Hm:=q_ hm;clear h2 hm;go_wp2;(try simp only [Exit.inBlock,Exit.then]);refine bodyPost_ret (v:=.tuple #[.pointer none,.slice none 0 0,.int .i64 13]) (by simp [results,Tryz.results112,go_sem]) rfl ⟨fun _=>⟨rfl,?_⟩,fun m h=>(by rw [Hm.out] at h;cases h)⟩;have h0:=Hf.out;refine Fr.trans0 ?_ Hf2.out;exact Fr.t
 | some m =>
  obtain⟨mv,rfl,ho2,h2⟩:=H2.out m hm;have hmk:=marks_marked Hg.out hm;have hml:=hmk.len;have Hmk:=q_ hmk;have Hm:=q_ hm;obtain⟨N,hN⟩:∃ N,N=m.length:=⟨_,rfl⟩;have HNi:=q_ (show (N:Int)=S+ns.length by omega);have hNb:N≤200000:=o_
  have hNp:0<N:=o_
  have hSN:S≤N:=o_
  rw [← hN] at ho2;have HNm:=q_ hN;have hb7:w2.heap[w1.heap.size]?=some (.cells #[.int .i64 S,.slice va ns.length vc] 135 (0,0)):=(h2.block _ (by rw [hAz];omega) i_).trans hpT;have hb7l:=lBk hb7;have hrd:=(((Reads.of_owns Ho.out).fr ((Fr.refl [] w1).alloc _)).fr h2);have hrr:=(((Hr.out.fr Hf.out).fr ((Fr.refl [] w1).alloc _)).fr h2);have hfw:Fr [] w w2:=Fr.trans0 (by have:=Hf.out;exact Fr.t) h2;have hmr:=Reads.of_owns ho2;obtain⟨ma,mc,rfl,hma,_⟩:=oFM ho2;obtain⟨g2,rfl⟩:=hma hNp;have hg2:=oLT ho2 rfl;have hmc:∀ i:Nat,i<N→w2.cell? ⟨g2,i,none⟩=some (.bool (at' m i)):=fun i hi=>owns_cell ho2 rfl (by
   rw [bos,List.getElem?_map,List.getElem?_eq_getElem o_]
   unfold at'
   rw [List.getD_eq_getElem?_getD,show ((i:Int)).toNat=i from rfl,List.getElem?_eq_getElem o_];rfl)
  have Hb7:=q_ hb7;have Hrd:=q_ hrd;have Hrr:=q_ hrr;have Hfw:=q_ hfw;have Hmc:=q_ hmc;obtain⟨k0,k1⟩:=e2_ hb7;clear hm h2 hmk hml hN ho2 hb7 hrd hrr hfw hmr hma hmc H1 H2;go_wp2_with (refine wpList_make1 rfl (t:=72) (e:=3) (n:=N) (z:=.int .i64 0) (bytes:=8) rfl rfl rfl Tryz.underlying72 info_i64 rfl ?e1 ?e2 ?_);case e1=>omega
  case e2=>unfold maxLen;omega
  clear k0 k1;intro w3 ho3 hf3 hsz3;have hb3:=(hf3.block _ hb7l i_).trans Hb7.out;have k0:=hEC hb3 0;have hb3l:=lBk hb3;have Ho3:=q_ ho3;have Hf3:=q_ hf3;clear ho3 hf3 hb3;go_wp2_with fail;clear k0 hb3l;go_loopw [34] (fun x wl=>∃ (k:Nat),x=.int .i64 k∧k≤S∧wl.ownsRow w2.heap.size 3 1 (.slice (some ⟨w2.heap.size,0,none⟩) N N) N (w6s (names0 k N))∧Fr [] w2 wl) (fun x _=>S - (intOf x).toNat);case atStart=>exact⟨0,rfl,o_,by have:=Ho3.out;rwa [show w6s (names0 ((0:Nat):Int) N)=List.replicate N (.int .i64 0) by rw [show ((0:Nat):Int)=0 from rfl,names0_zero];simp [w6s]],Hf3.out⟩
  case round =>
   obtain⟨k,rfl,hk,ho,hf⟩:=hrel;have hol:=oLT ho rfl;by_cases hlt:k<S;·
    have hkN:k<N:=o_;have hc:=owns_cell ho rfl (w6s_get (t:=names0 k N) (n:=k) (by rw [names0_length];omega));have hz:=owns_frozen ho rfl k;have Ho4:=q_ ho;have Hf4:=q_ hf;clear ho hf;go_wp2;go_roundw;case rel =>refine⟨k+1,by go_num,o_,?_,Hf4.out.setCell (.inr i_) _⟩;rw [show ((k+1:Nat):Int)=(k:Int)+1 by omega,names0_succ,w6s_seti];exact owns_set Ho4.out rfl (by rw [Ho4.out.1];simp;omega) _
    case measure=>simp [intOf];omega
   ·obtain rfl:S=k:=o_;have hb4:=(hf.block _ hb7l i_).trans Hb7.out;obtain⟨k0,k1,hb4l⟩:=l2_ hb4;have Ho4:=q_ ho;have Hf4:=q_ hf;obtain⟨wo,rfl⟩:∃ wo:World,wo=wr:=⟨_,rfl⟩;clear ho hf hb4;go_wp2_with fail;clear k0 k1 hb4l;have hM0:(sw S ns m 0)=(names0 S N,[]):=(by show (names0 S ((S:Int)+ns.length).toNat,[])=_;rw [show ((S:Int)+ns.length).toNat=N by have:=HNi.out;omega]);have HM0:=q_ hM0;clear hM0;go_loopw [48] (fun x wl=>∃ (k:Nat) (nv:Value),x=.int .i64 k∧k≤ns.length∧wl.ownsRow w2.heap.size 3 1 (.slice (some ⟨w2.heap.size,0,none⟩) N N) N (w6s (sw S ns m k).1) ∧
      wl.heap[wo.heap.size]?=some (.cells #[.int .i64 S,nv] 135 (0,0))∧wl.ownsRow (wo.heap.size+1) 183 4 nv (sw S ns m k).2.length (flat (sw S ns m k).2)∧Fr [] w2 wl) (fun x _=>ns.length - (intOf x).toNat)
    case atStart =>
     have ho:=Ho4.out;have hf:=Hf4.out;refine⟨0,.slice none 0 0,rfl,o_,?_,by (repeat first|rw [if_pos o_]|rw [if_neg o_]|rw [hDR]|rw [hDN]|rw [hAz]|rw [hSz]|rw [hAC]|rw [hSC]|rw [oMS]|rw [uPC]|rw [lSZ]|rw [lSS]|rfl),?_,Fr.t⟩;·
      rw [HM0.out];exact oOB ho fun y hy=>hAE _ _ _ (oLT ho hy)
     ·rw [HM0.out];exact World.ownsRow_nil _ _ _ _
    case round =>
     obtain⟨k,nv,rfl,hk,ho,hb,hn,hf⟩:=hrel;have hb5:=(hf.block _ hb7l i_).trans Hb7.out;obtain⟨k0,k1,hb5l⟩:=l2_ hb5;have hob:=lBk hb;have hol:=oLT ho rfl;obtain⟨q0,q1⟩:=e2_ hb;obtain⟨na,nc,rfl,_,_⟩:=oFM hn;have hlen:=sw_len S ns m k;have hnl:=sw_names_len S ns m k;by_cases hlt:k<ns.length;·
      obtain⟨x,hx⟩:∃ x,ns[k]?=some x:=⟨_,List.getElem?_eq_getElem hlt⟩;obtain⟨_,a',c',hsl,hcell⟩:=Hrd.out;simp only [Value.slice.injEq] at hsl;obtain⟨rfl,_,rfl⟩:=hsl;obtain⟨g,off,rfl,hg,hc⟩:=hcell o_;obtain⟨f0,f1,f2,f3⟩:=flat_get hx;rw [Nat.mul_comm] at f0 f1 f2 f3;have hgw:∀ j,wr.cell? ⟨g,off+j,none⟩=w2.cell? ⟨g,off+j,none⟩:=fun j=>hf.cell (p:=⟨g,off+j,none⟩) hg i_;have e0:=(hgw _).trans (hc _ _ f0);have e1:=(hgw _).trans (hc _ _ f1);have e2:=(hgw _).trans (hc _ _ f2);have e3:=(hgw _).trans (hc _ _ f3);simp only [← Nat.add_assoc] at e1 e2 e3;have hgr:g<wr.heap.size:=(by have:=hf.size;omega);have hSk:S+k<N:=(by have:=HNi.out;omega);have hmk:=(hf.cell (p:=⟨g2,S+k,none⟩) hg2 i_).trans (Hmc.out (S+k) hSk);have hg2r:g2<wr.heap.size:=(by have:=hf.size;omega);have hcz:=owns_cell ho rfl (w6s_get (t:=(sw S ns m k).1) (n:=S+k) o_);have hz:=owns_frozen ho rfl (S+k);have hsw:=sw_succ (s:=S) (m:=m) hx;rw [swStep] at hsw;have hren:∀ u,ren (seti (sw S ns m k).1 ((S:Int)+k) u) x=ren (sw S ns m k).1 x:=fun u=>ren_eq fun j hj=>by obtain⟨a,b⟩:=has_lt Hg.out hx hj;rw [geti_seti o_ o_ a,if_neg o_]
      rw [show ((S+k:Nat):Int)=(S:Int)+k by omega] at hmk;have hkids:=good_kids Hg.out hx;generalize at' m ((S:Int)+k)=bt at *
      generalize hst:sw S ns m k=st at *
      obtain⟨t,out⟩:=st;simp only at *
      have Ho5:=q_ ho;have Hb5:=q_ hb;have Hn5:=q_ hn;have Hf5:=q_ hf;have Hsw:=q_ hsw;have Hren:=q_ hren;have Hkids:=q_ hkids;have Hnl:=q_ hnl;have Hx:=q_ hx;clear ho hb hn hf hb5 hcell hc f0 f1 f2 f3 hgw hsw hren hkids hst hnl hx;cases bt;·
       go_wp2;go_roundw;case rel =>refine⟨k+1,.slice na out.length nc,by go_num,o_,?_⟩;rw [Hsw.out,if_neg i_];have ho:=Ho5.out;have hn:=Hn5.out;have hf:=Hf5.out;exact⟨oOB ho fun y hy=>hAE _ _ _ (oLT ho hy),(hAE _ _ _ hob).trans Hb5.out,oOB hn fun y hy=>hAE _ _ _ (oLT hn hy),Fr.t⟩
       case measure=>simp [intOf];omega
      ·go_wp2_with fail;obtain⟨W5,hW5⟩:∃ W,W=(wr.setCell ⟨w2.heap.size,S+k,none⟩ (.int .i64 ((S:Int)+out.length))).alloc (.cells #[.int .i64 x.a,.int .i64 x.b,.int .i64 x.c,.int .i64 x.d] 183 (0,0)):=⟨_,rfl⟩;rw [← hW5];obtain⟨t',ht'⟩:∃ t',t'=seti t ((S:Int)+k) ((S:Int)+out.length):=⟨_,rfl⟩;have ho6:W5.ownsRow w2.heap.size 3 1 (.slice (some ⟨w2.heap.size,0,none⟩) N N) N (w6s t'):=by
        have h1:=owns_set Ho5.out rfl (j:=S+k) (by rw [Ho5.out.1];omega) (.int .i64 ((S:Int)+out.length));rw [hW5,ht',w6s_seti,show ((S:Int)+k).toNat=S+k by omega];exact oOB h1 fun y hy=>hAE _ _ _ (oLT h1 hy)
       have hf6:Fr [] w2 W5:=(by rw [hW5];exact (Hf5.out.setCell (.inr i_) _).alloc _);have hb6:W5.heap[wo.heap.size]?=some (.cells #[.int .i64 S,.slice na out.length nc] 135 (0,0)):=by rw [hW5];have h1:=Hb5.out;(repeat first|rw [if_pos o_]|rw [if_neg o_]|rw [hDR]|rw [hDN]|rw [hAz]|rw [hSz]|rw [hAC]|rw [hSC]|rw [oMS]|rw [uPC]|rw [lSZ]|rw [lSS]|rfl);exact h1
       have hn6:W5.ownsRow (wo.heap.size+1) 183 4 (.slice na out.length nc) out.length (flat out):=by refine oOB Hn5.out fun y hy=>?_;have h1:=oLT Hn5.out hy;have h2:=owns_ge Hn5.out hy;rw [hW5];exact hpT
       have hx6:W5.heap[wr.heap.size]?=some (.cells #[.int .i64 x.a,.int .i64 x.b,.int .i64 x.c,.int .i64 x.d] 183 (0,0)):=by rw [hW5];rw [hAC,if_pos (by rw [hSz])]
       have hsz6:wr.heap.size<W5.heap.size:=lBk hx6;have htl:t'.length=N:=(by rw [ht',seti_length];have:=Hnl.out;have:=HNi.out;omega);have hrn:ren t' x=ren t x:=(by rw [ht'];exact Hren.out _);have hsw:=Hsw.out;rw [if_pos trivial,← ht'] at hsw;obtain⟨⟨ka0,ka1⟩,⟨kb0,kb1⟩,⟨kc0,kc1⟩,⟨kd0,kd1⟩⟩:=Hkids.out;have hcall:∀ w6,Fr [] W5 w6→Calls Tryz.prog 136 #[.agg #[.int .i64 x.a,.int .i64 x.b,.int .i64 x.c,.int .i64 x.d],.slice (some ⟨w2.heap.size,0,none⟩) N N] w6 fun e w'=>e=.returned (kv (ren t x))∧Fr [] w6 w':=fun w6 hf=>by rw [← hrn];exact renamed_calls (k:=x) ((by have:=Reads.of_owns ho6;rw [← htl] at this ⊢;exact this:Reads W5 (.slice (some ⟨w2.heap.size,0,none⟩) N N) t'.length 1 (w6s t')).fr hf) ⟨ka0,o_⟩ ⟨kb0,o_⟩ ⟨kc0,o_⟩ ⟨kd0,o_⟩
       obtain⟨y,hy⟩:∃ y,y=ren t x:=⟨_,rfl⟩;rw [← hy] at hcall hsw;obtain⟨r0,r1,r2,r3⟩:=e4_ hx6;have s1:=hEC hb6 1;have hob6:=lBk hb6;have Ho6:=q_ ho6;have Hf6:=q_ hf6;have Hb6:=q_ hb6;have Hn6:=q_ hn6;have Hsw6:=q_ hsw;have Hcall:=q_ hcall;clear hW5 ht' ho6 hf6 hb6 hn6 hx6 htl hrn hsw hcall hy k0 k1 q0 q1 hmk hcz hz e0 e1 e2 e3 Hsw Hren Hkids ka0 ka1 kb0 kb1 kc0 kc1 kd0 kd1;refine wS [([0,1,2,3,4],[1]),([5,6,7,8],[])] ?_;(simp only [wpSegs,pick,aq_,bq_,cq_,dq_,eq_]);go_wp2_with fail;refine (Hcall.out _ (Fr.t)).mono ?_;unfold kv;rintro e w6 ⟨rfl,hf6⟩;have hf6':Fr [] W5 w6:=Fr.trans0 (Fr.t) hf6;have hb7':=(hf6'.block _ hob6 i_).trans Hb6.out;have ho7:=oOB Ho6.out fun z hz=>hf6'.block z (oLT Ho6.out hz) i_;have hn7:=oOB Hn6.out fun z hz=>hf6'.block z (oLT Hn6.out hz) i_;have s1':=hEC hb7' 1;have hsz7:=hf6'.size;have Hf7:=q_ (Hf6.out.trans0 hf6');have Hb7':=q_ hb7';have Ho7:=q_ ho7;have Hn7:=q_ hn7;clear hf6 hf6' hb7' ho7 hn7 s1 r0 r1 r2 r3;go_wp2;refine mD_ ⟨⟨ac_ (T:=129) rfl rfl rfl Tryz.underlying129 rfl s1' rfl,trivial⟩,?_⟩;clear s1';go_wp2_with (at_builtin;refine append_quad (k:=y) (n:=out.length) (base:=wo.heap.size+1) (xs:=flat out) rfl rfl rfl ?e1 rfl ?e2 ?e3 ?e4 ?_);case e1=>exact oOB Hn7.out fun z hz=>hAE _ _ _ (oLT Hn7.out hz)
       case e2=>(first|(rw [hAC,if_pos rfl];done)|exact (Array.getElem?_eq_some_iff.1 ((hAC _ _ _).trans (if_pos rfl))).2|(simp only [hDR,hDN];rw [hAC,if_pos rfl];done))
       case e3=>omega
       case e4=>(first|omega|(rw [hAz];omega)|(simp only [hDR,hDN,hAz];omega)|(simp;omega))
       intro g' cap w9 hown9 hW9 hF9 hloc9 hg9;have hne:∀ z,(Value.slice na out.length nc).ownBlock=some z→wo.heap.size+1≤z:=fun z hz=>owns_ge Hn7.out hz;have old:∀ z,z<wo.heap.size+1→w9.heap[z]?=w6.heap[z]?:=fun z hz=>(hW9 z (by first|omega|(simp;omega)) (fun e=>by have:=hne z e;omega)).trans (hAE _ _ _ o_);have hb9:=(old wo.heap.size o_).trans Hb7'.out;obtain⟨o0,o1⟩:=e2_ hb9;have p1:=hEF hb9 1;have hb9l:=lBk hb9;have Hf9:=q_ ((Hf7.out.alloc _).trans hF9 fun z hz=>.inr (by have:=hne z (by simpa using hz);omega));have Ho9:=q_ (oOB Ho7.out fun z hz=>old z (by
        have:w2.heap.size=z:=by simpa [Value.ownBlock] using hz
        omega))
       have Hb9:=q_ hb9;have Hown9:=q_ hown9;clear hown9 hW9 hF9 hloc9 hne old hb9;go_wp2;refine mD_ ⟨trivial,sT_ rfl ?_⟩;go_wp2;go_roundw;case rel =>
        have hG:wo.heap.size+1≤g':=owns_ge Hown9.out rfl;refine⟨k+1,.slice (some ⟨g',0,none⟩) (out.length+1) cap,by go_num,o_,?_⟩;rw [Hsw6.out];simp only [List.length_append,List.length_cons,List.length_nil,flat_snoc];refine⟨oOB Ho9.out fun z hz=>?_,?_,oOB Hown9.out fun z hz=>?_,Hf9.out.setCell (.inr (by simp;omega)) _⟩;·
         have:w2.heap.size=z:=(by simpa [Value.ownBlock] using hz);rw [hSC,if_neg o_]
        ·rw [hSC,if_pos rfl,Hb9.out];rfl
        ·have:g'=z:=(by simpa [Value.ownBlock] using hz);rw [hSC,if_neg o_]
       case measure=>simp [intOf];omega
     ·obtain rfl:k=ns.length:=o_;have hnm:=sw_named Hg.out Hmk.out.down ns.length (Nat.le_refl _);have hgo:=hnm.1.good;generalize hst:sw S ns m ns.length=st at *
      obtain⟨t,out⟩:=st;simp only at *
      have Hst:=q_ hst;have Hgo:=q_ hgo;have Ho5:=q_ ho;have Hf5:=q_ hf;have hrn:=Reads.of_owns hn;have hL:∀ w6,Fr [] wr w6→Calls Tryz.prog 137 #[.agg #[.int .i64 S,.slice na out.length nc]] w6 (LoadPost w6 S out):=fun w6 hf=>Load_calls o_ (hrn.fr hf);have HL:=q_ hL;have Hnl:=q_ hnl;clear ho hb hn hf hb5 hst hnm hgo hrn hL hnl k0 k1;go_wp2_with fail;refine (HL.out _ (Fr.t)).mono ?_;rintro e w6 ⟨h1,_⟩;obtain⟨b',F',rfl,hS6,hf6,hF6⟩:=h1 Hgo.out;have hFs:∀ x∈F',x<w6.heap.size:=fun x hx=>hS6.lt x hx;have HS6:=q_ hS6;have hsz6:=hf6.size;have Hf6:=q_ (Hf5.out.trans0 hf6);have HF6:=q_ hF6;have HFs:=q_ hFs;have Ho6:=q_ (oOB Ho5.out fun y hy=>hf6.block y (oLT Ho5.out hy) i_);have Hrr6:=q_ (Hrr.out.fr Hf6.out);clear h1 hS6 hf6 hF6 hFs q0 q1;have hlr:=HLR.out;obtain⟨_,ra,rc,rfl,har⟩:=Hrr6.out;have Har:=q_ har;clear har;go_wp2_with fail;go_loopw [5,91] (fun o x wl=>∃ (k:Nat),x=.int .i64 k∧k≤roots.length∧wl.ownsRow w6.heap.size 3 1 o k (w6s ((roots.map (geti t)).take k))∧Fr [] w6 wl) (fun _ x _=>roots.length - (intOf x).toNat);case atStart=>exact⟨0,rfl,o_,World.ownsRow_nil _ _ _ _,Fr.refl _ _⟩
      case round =>
       obtain⟨k,rfl,hk,ho,hf⟩:=hrel;obtain⟨oa,oc,rfl,_,_⟩:=oFM ho;have Hoo:=q_ ho;have Hff:=q_ hf;have hsz:=hf.size;by_cases hlt:k<roots.length;·
        obtain⟨g1,off1,rfl,hg1,hc1⟩:=Har.out o_;obtain⟨r,hr⟩:∃ r,roots[k]?=some r:=⟨_,List.getElem?_eq_getElem hlt⟩;have hkn:=(Hmk.out.root r (List.mem_of_getElem? hr)).1;obtain⟨R,rfl⟩:∃ R:Nat,r=R:=⟨r.toNat,by have:=hkn.1;omega⟩;have hRN:R<N:=(by have:=hkn.2;have:=HNi.out;omega);have e1:=(hf.cell (p:=⟨g1,off1+k,none⟩) hg1 i_).trans (hc1 k (.int .i64 R) (by rw [w6s,List.getElem?_map,hr];rfl));have ht1:=owns_cell Ho6.out rfl (w6s_get (t:=t) (n:=R) (by have:=Hnl.out;have:=HNi.out;omega));have hwl:=oLT Ho6.out rfl;have ht2:=(hf.cell (p:=⟨w2.heap.size,R,none⟩) hwl i_).trans ht1;have hwr:w2.heap.size<wr.heap.size:=o_;have hg1r:g1<wr.heap.size:=o_;have hsn:w6s ((roots.map (geti t)).take k)++[.int .i64 (geti t R)]=w6s ((roots.map (geti t)).take (k+1)):=by rw [List.take_add_one,List.getElem?_map,hr,← w6s_snoc];rfl
        have Hsn:=q_ hsn;clear hc1 hr hkn hsn ho hf ht1 hwl;generalize geti t R=y at *
        go_wp2_with (at_builtin;refine append_i64 (n:=k) (base:=w6.heap.size) (xs:=w6s ((roots.map (geti t)).take k)) (y:=y) rfl rfl rfl ?e1 rfl ?e2 ?e3 ?e4 ?_);case e1=>exact oOB Hoo.out fun y hy=>hAE _ _ _ (oLT Hoo.out hy)
        case e2=>(first|(rw [hAC,if_pos rfl];done)|exact (Array.getElem?_eq_some_iff.1 ((hAC _ _ _).trans (if_pos rfl))).2|(simp only [hDR,hDN];rw [hAC,if_pos rfl];done))
        case e3=>omega
        case e4=>(first|omega|(rw [hAz];omega)|(simp only [hDR,hDN,hAz];omega)|(simp;omega))
        intro g cap w9 hown1 hW1 hF1 hloc1 hg9;rw [Hsn.out] at hown1;have Hown1:=q_ hown1;have Hf1:=q_ (fr_append Hff.out Hoo.out hF1);clear hown1 hW1 hF1 hloc1;go_wp2;go_roundw;case rel=>exact⟨k+1,by go_num,o_,Hown1.out,Hf1.out⟩
        case measure=>simp [intOf];omega
       ·obtain rfl:k=roots.length:=o_;go_wp2;(try simp only [Exit.inBlock,Exit.then]);refine bodyPost_ret (v:=.tuple #[.pointer (some ⟨b',0,none⟩),.slice oa roots.length oc,.int .i64 0]) (by simp [results,Tryz.results112,go_sem]) rfl ⟨fun h=>(by rw [Hm.out] at h;cases h),fun m' h=>?_⟩;rw [Hm.out] at h;cases h;rw [Hst.out];have ho:=Hoo.out;rw [List.take_of_length_le i_] at ho;have hw:=((Hfw.out.trans0 Hf6.out)).size;refine⟨b',F',_,rfl,HS6.out.fr Hff.out i_,owns_base ho hw,(Hfw.out.trans0 Hf6.out).trans0 Hff.out,fun x hx=>?_,fun x hx he=>?_⟩;·have:=HF6.out x hx;have:=Hfw.out.size;have:=Hf5.out.size;omega
        ·have:=HFs.out x hx;have:=owns_ge ho he;omega
end Go.Proofs.YtebolidfbflkmaaGreat
end
section
namespace Go.Proofs.Uni
open Go Qs Ev Pt YtebolidfbflkmaaGreat
theorem subs_tr:∀ {t u v:Tr},u∈subs t→v∈subs u→v∈subs t
 | .leaf _,u,v,h,_=>by simp [subs] at h
 | .node a b c d,u,v,h,hv=>by
  simp only [subs,List.mem_append,List.mem_singleton] at h ⊢;rcases h with (((h|h)|h)|h)|rfl
  ·exact .inl (.inl (.inl (.inl (subs_tr h hv))))
  ·exact .inl (.inl (.inl (.inr (subs_tr h hv))))
  ·exact .inl (.inl (.inr (subs_tr h hv)))
  ·exact .inl (.inr (subs_tr h hv))
  ·simpa only [subs,List.mem_append,List.mem_singleton] using hv
theorem subs_self (a b c d:Tr):Tr.node a b c d∈subs (.node a b c d):=by simp [subs]
theorem nodup_len {α:Type} [DecidableEq α]:∀ {l m:List α},l.Nodup→(∀ x∈l,x∈m)→l.length≤m.length
 | [],m,_,_=>by simp
 | x::l,m,hn,h=>by have h1:=(List.perm_cons_erase (h x i_)).length_eq;have hn':=List.nodup_cons.1 hn;have:=nodup_len (l:=l) (m:=m.erase x) hn'.2 fun y hy=>(List.mem_erase_of_ne (by rintro rfl;exact hn'.1 hy)).2 (h y (by simp [hy]));simp only [List.length_cons] at h1 ⊢;omega
theorem swept {s:Int} {ns:List K4} {n:Nat} {id:Int} {t:Tr} {m:List Bool} (hg:GoodQ s ns) (hi:Is s ns (n+1) id t) (hm:marks s ns [id,id]=some m) {L:List Tr} (hL:∀ u∈subs t,u∈L) :
  GoodQ s (sw s ns m ns.length).2∧Is s (sw s ns m ns.length).2 (n+1) (geti (sw s ns m ns.length).1 id) t∧(sw s ns m ns.length).2.length≤L.length:=by
 have hM:=marks_marked hg hm;obtain⟨hN,hB⟩:=sw_named hg hM.down ns.length (Nat.le_refl _);have hs:=hg.1;have hroot:=hM.root id i_;have ht:=hN.tree id hroot.1.1 hroot.1.2 (.inr hroot.2);refine⟨hN.good,⟨ht.1,ht.2.trans hi.2.1,hi.2.2⟩,?_⟩;have htn:t∈subs t:=by obtain⟨_,_,_,_,_,_,_,_,e⟩:=hi.kids hg;rw [e];exact subs_self _ _ _ _
 have key:∀ k j:Nat,j<ns.length→ns.length≤j+k→at' m (s+(j:Nat))=true→tr s ns (s+(j:Nat))∈subs t:=by
  intro k
  induction k with
  | zero=>intro j h1 h2;omega
  | succ k ih =>
   intro j h1 h2 h3;rcases hM.why (s+(j:Nat)) o_ h3 with h4|⟨i,k',hk,h5,h6⟩
   ·have e:s+(j:Int)=id:=(by simpa using h4);rw [e,hi.2.1];exact htn
   ·have hi9:=(List.getElem?_eq_some_iff.1 hk).1;obtain⟨ka,kb,kc,kd⟩:=good_kids hg hk;obtain⟨kk,hkk⟩:∃ kk,ns[j]?=some kk:=⟨_,List.getElem?_eq_getElem h1⟩;have hji:s+(j:Int)<s+i:=by
     rcases h6 with e|e|e|e<;>omega
    have hp:=ih i hi9 o_ h5;refine subs_tr hp ?_;rw [tr_node hg hk];have hs:tr s ns (s+(j:Nat))∈subs (tr s ns (s+(j:Nat))):=(by rw [tr_node hg hkk];exact subs_self _ _ _ _);simp only [subs,List.mem_append,List.mem_singleton];rcases h6 with e|e|e|e<;>rw [← e]
    ·exact .inl (.inl (.inl (.inl hs)))
    ·exact .inl (.inl (.inl (.inr hs)))
    ·exact .inl (.inl (.inr hs))
    ·exact .inl (.inr hs)
 generalize hst:sw s ns m ns.length=st at *
 have hT:(List.range st.2.length).map (fun (o:Nat)=>tr s st.2 (s+(o:Nat))) |>.Nodup:=by refine List.pairwise_map.2 (List.Pairwise.imp_of_mem (fun {a b} ha hb hab he=>hab ?_) List.nodup_range);rw [List.mem_range] at ha hb;have:=tr_inj hN.good st.2.length (x:=s+(a:Nat)) (y:=s+(b:Nat)) o_ ⟨o_,o_⟩ ⟨o_,o_⟩ he;omega
 have:=nodup_len hT (m:=L) fun x hx=>by obtain⟨o,ho,rfl⟩:=List.mem_map.1 hx;obtain⟨j,hj1,hj2,hj3⟩:=hB o (List.mem_range.1 ho);have h1:=hN.tree (s+(j:Nat)) o_ o_ (.inr hj2);rw [hj3] at h1;rw [h1.2];exact hL _ (key ns.length j hj1 o_ hj2)
 simpa using this
def boxL (F:Fld) (X Y:Int) (a b:Int) (B:Nat):List Tr:=(List.range 201).flatMap fun l=>emptyT (l+1)::placeL (fun F=>F) F X Y (l+3) (l+1) 0 a b B
def boxN (B:Nat):Nat:=((List.range 201).map fun l=>cnt (l+3) (l+1) B*cnt (l+3) (l+1) B+1).sum
theorem boxL_length (F:Fld) (X Y a b:Int) (B:Nat):(boxL F X Y a b B).length=boxN B:=by unfold boxL boxN;simp only [List.length_flatMap,List.length_cons,placeL_length]
theorem boxN_41:boxN 41≤2000:=by decide +kernel
theorem box_subs {F:Fld} {X Y a b:Int} {B:Nat} (hB:1≤B) (hF:Hold ⟨a,b,B,B⟩ F):∀ u∈subs (mk 201 F X Y),u∈boxL F X Y a b B:=by
 intro u hu;obtain⟨l,i,j,h1,h2,rfl⟩:=subs_mk _ hu;have hgr:gr (l+2) l=p2 l:=by unfold gr;congr 1;omega
 unfold boxL;refine List.mem_flatMap.2 ⟨l - 1,List.mem_range.2 o_,?_⟩;rw [show l - 1+1=l by omega,show l - 1+3=l+2 by omega];by_cases hx:a - p2 l<X+i*p2 l∧X+i*p2 l<a+B;·
  by_cases hy:b - p2 l<Y+j*p2 l∧Y+j*p2 l<b+B;·
   have:=place_mem (g:=fun F=>F) (F:=F) (X:=X) (Y:=Y) (i:=i) (j:=j) (lost:=l+2) (l:=l) (m:=0) hB (by rw [hgr];exact hx) (by rw [hgr];exact hy);rw [hgr] at this;exact List.mem_cons_of_mem _ this
  ·rw [mk_blank l fun u v a1 a2 a3 a4=>hF _ _ fun hc=>hy (by simp only at hc;omega)];exact List.mem_cons_self
 ·rw [mk_blank l fun u v a1 a2 a3 a4=>hF _ _ fun hc=>hx (by simp only at hc;omega)];exact List.mem_cons_self
theorem win_ok {F:Fld} (hF:Hold ⟨-30,-30,61,61⟩ F) (hS:∀ x y,0≤F x y∧F x y<8) :
  ∃ q,q.length≤5000∧fromP (visL ⟨-64,-64,128,128⟩ 201 (mid 200 F) (-p2 200) (-p2 200))=(q,0)∧(visL ⟨-64,-64,128,128⟩ 201 (mid 200 F) (-p2 200) (-p2 200)).length≤5000:=by
 have hmem:∀ c,c∈visL ⟨-64,-64,128,128⟩ 201 (mid 200 F) (-p2 200) (-p2 200)→(34≤c.x∧c.x<95∧34≤c.y∧c.y<95)∧(1≤c.st∧c.st<8)∧c.st=F (c.x+-64) (c.y+-64):=fun c hc=>by obtain⟨_,_,h3,h4⟩:=mem_visL.1 hc;have h5:=hS (c.x+-64) (c.y+-64);simp only at h3;have h6:(-30≤c.x+-64∧c.x+-64 < -30+61∧-30≤c.y+-64∧c.y+-64 < -30+61):=Classical.byContradiction fun hn=>h4 (h3.trans (hF _ _ (by simpa using hn)));exact⟨o_,o_,h3⟩
 have hnd:(visL ⟨-64,-64,128,128⟩ 201 (mid 200 F) (-p2 200) (-p2 200)).Nodup:=nodup_visL;generalize visL ⟨-64,-64,128,128⟩ 201 (mid 200 F) (-p2 200) (-p2 200)=l at *
 have hap:l.Pairwise fun a b=>samePos a b=false:=by refine List.Pairwise.imp_of_mem (fun {a b} ha hb hab=>?_) hnd;unfold samePos;refine decide_eq_false fun he=>hab ?_;have h1:=(hmem a ha).2.2;have h2:=(hmem b hb).2.2;rw [he.1,he.2,← h2] at h1;cases a;cases b;simp only at he h1;simp [he,h1]
 have hlen:l.length≤5000:=by
  have h1:((l.map fun c=>(c.x - 34).toNat+61*(c.y - 34).toNat)).Nodup:=by refine List.pairwise_map.2 (List.Pairwise.imp_of_mem (fun {a b} ha hb hab he=>?_) hap);have h1:=(hmem a ha).1;have h2:=(hmem b hb).1;have:samePos a b=true:=(by unfold samePos;refine decide_eq_true ?_;omega);rw [this] at hab;cases hab
  have h2:=nodup_len h1 (m:=List.range 3721) fun x hx=>by obtain⟨c,hc,rfl⟩:=List.mem_map.1 hx;have:=(hmem c hc).1;exact List.mem_range.2 o_
  simp at h2;omega
 have hst:strictB (sortP l)=true:=(weak_strict (sortP_weak l)).2 (pair_perm (R:=fun a b=>samePos a b=false) (fun a b h=>by unfold samePos at h ⊢;rw [decide_eq_false_iff_not] at h ⊢;omega) (sortP_perm l).symm hap);have hpl:=(sortP_perm l).length_eq;refine⟨sortP l,o_,from_right (p:=sortP l) ?_ (sortP_perm l).symm,hlen⟩;unfold rightP;rw [decide_eq_true o_,hst,Bool.and_true,Bool.true_and];refine List.all_eq_true.2 fun c hc=>?_;have:=hmem c ((sortP_perm l).subset hc);unfold cellB placeB;rw [decide_eq_true o_,decide_eq_true o_];rfl
theorem gen_states {r:Rule} (h:quietB r=true) {F:Fld} (hF:∀ x y,0≤F x y∧F x y<r.S):∀ (n:Nat) (x y:Int),0≤it (gen r) n F x y∧it (gen r) n F x y<r.S
 | 0=>hF
 | n+1=>fun x y=>gen_ok (quiet_parts h).1 fun i j _ _ _ _=>gen_states h hF n _ _
end Go.Proofs.Uni
end
section
namespace Go.Proofs.YtebolidfbflkmaaGreat
open Go Go.RowKit Rg Mp Hp Qs Ev Bn Uni Pt
theorem has_new2 {W w w':World} {Ps:List Res} {P Q:Res} {F G:List Nat} (h:Has W w Ps) (hf:Fr [] w w') (hP:P.holds w' F) (hQ:Q.holds w' G) (hd:∀ x∈F,x∉G) (hF:∀ x∈F,w.heap.size≤x) (hG:∀ x∈G,w.heap.size≤x):Has W w' (P::Q::Ps):=by
 obtain⟨E,h1,h2,h3⟩:=h;refine⟨F++(G++E),⟨F,G++E,hP,⟨G,E,hQ,h1.keep fun x hx=>hf.block x (h1.lt x hx) i_,fun x hx hx'=>?_,rfl⟩,fun x hx hx'=>?_,rfl⟩,h2.trans0 hf,fun x hx=>?_⟩;·have:=hG x hx;have:=h1.lt x hx';omega
 ·rw [List.mem_append] at hx';rcases hx' with h|h
  ·exact hd x hx h
  ·have:=hF x hx;have:=h1.lt x h;omega
 ·have:=h2.size;simp only [List.mem_append] at hx;rcases hx with h|h|h
  ·have:=hF x h;omega
  ·have:=hG x h;omega
  ·exact h3 x h
theorem sweep_has {W w:World} {b:Nat} {s id:Int} {ns:List K4} {Ps:List Res} (h:Has W w (sTR b s ns::Ps)) {rv:Value} (hr:Reads w rv 2 1 [.int .i64 id,.int .i64 id]) {F:Fld} {x y:Int} (hi:Is s ns 201 id (mid 200 F)) (hF:Hold ⟨x,y,41,41⟩ F) :
  Calls Tryz.prog 112 #[.pointer (some ⟨b,0,none⟩),rv] w fun e w'=>∃ sb v id' ns',e=.returned (.tuple #[.pointer (some ⟨sb,0,none⟩),v,.int .i64 0]) ∧
   Has W w' (Hp.row 3 1 v 2 [.int .i64 id',.int .i64 id']::sTR sb s ns'::sTR b s ns::Ps)∧ns'.length≤2000∧Is s ns' 201 id' (mid 200 F):=by
 have hg:=has_good h;obtain⟨G,hS⟩:=h.head;refine (Sweep_calls (roots:=[id,id]) hS hr i_).mono ?_;rintro e w' ⟨_,hp⟩;cases hm:marks s ns [id,id] with
 | none =>
  obtain⟨r,hr,hk⟩:=marks_none.1 hm;obtain rfl:r=id:=by simpa using hr
  exact absurd hi.1 hk
 | some m =>obtain⟨sb,F',v,rfl,h1,h2,h3,h4,h5⟩:=hp m hm;obtain⟨q1,q2,q3⟩:=swept hg hi hm (box_subs o_ hF);rw [boxL_length] at q3;have q4:=boxN_41;have hge:=fun (g:Nat) (hg:v.ownBlock=some g)=>owns_ge h2 hg;exact⟨sb,v,_,_,rfl,has_new2 h h3 (F:=v.ownBlock.toList) (G:=F') ⟨owns_base h2 (Nat.zero_le _),rfl⟩ h1 (fun x hx hx'=>h5 x hx' (by simpa using hx)) (fun x hx=>hge x (by simpa using hx)) h4,o_,q2⟩
theorem collect_u {W w:World} {U:UP} {ns:List K4} {mm:List ((Int×Int)×Int)} {Ps:List Res} {ha na:Option Addr} {hc nc:Nat} (h:Has W w (uniL U ns mm Ps)) (hq:quietB U.r=true) (e1:U.hv=.slice ha U.r.hood.length hc) (e2:U.nv=.slice na U.r.nodes.length nc) (hlh:U.r.hood.length≤1000000) (hln:U.r.nodes.length≤1000000) (hsrc:RuleSrc W U.hv U.nv U.r Ps)
  {F:Fld} {x y:Int} (hi:Is U.r.S ns 201 U.root (mid 200 F)) (hF:Hold ⟨x,y,41,41⟩ F) :
  Calls Tryz.prog 70 #[.pointer (some ⟨U.ub,0,none⟩),.int .i64 U.root] w fun e w'=>∃ root mb sb rb ns',e=.returned (.tuple #[.int .i64 root,.int .i64 0]) ∧
   Has W w' (uniL ⟨U.r,U.hv,U.nv,U.ub,mb,sb,rb,root,U.G,U.ga,U.gc⟩ ns' [] Ps)∧ns'.length≤2000∧Is U.r.S ns' 201 root (mid 200 F):=by
 obtain⟨r,hv,nv,ub,mb,sb,rb,root,G,ga,gc⟩:=U;simp only at e1 e2 hq hlh hln hsrc hi;subst e1 e2;have HSW:=q_ (fun w1 Qs (h1:Has W w1 (sTR sb r.S ns::Qs)) rv (hr:Reads w1 rv 2 1 [.int .i64 root,.int .i64 root])=>sweep_has h1 hr hi hF);have HMN:=q_ (fun w1 sb ns Qs (h1:Has W w1 (sTR sb r.S ns::Qs)) (hm:∀ P∈Ps,P∈Qs)=>MNew_calls (hsrc w1 _ h1 fun P hP=>List.mem_cons_of_mem _ (hm P hP)) hlh hln (quiet_parts hq).1 h1);unfold rv at HMN;obtain⟨m,hm⟩:∃ m,r.hood.length=m:=⟨_,rfl⟩;obtain⟨n,hn⟩:∃ m,r.nodes.length=m:=⟨_,rfl⟩;rw [hm,hn] at HMN h ⊢;obtain⟨⟨u0,u1,u2⟩,u3,u4,u5,_,ul⟩:=uC_ h;simp only at u0 u1 u2 u3 u4 u5 ul;have H:=q_ h;clear h hsrc hi hF hlh hln hq;go_enter Tryz.func70,Tryz.ntmps70;go_wp2;(refine wT ?_);have hA:=uS_ (ui_ (hAL (H.out.step (w':=w.drew) (Fr.t)) #[.int .i64 root,.int .i64 root] 3));obtain⟨wA,hwA⟩:∃ t,w.drew.alloc (.cells #[.int .i64 root,.int .i64 root] 3 (0,0))=t:=⟨_,rfl⟩;obtain⟨ab,hab⟩:∃ t,w.heap.size=t:=⟨_,rfl⟩;rw [hwA,show w.drew.heap.size=ab from hab] at hA;have HS:=q_ (HSW.out wA _ hA (.slice (some ⟨ab,0,none⟩) 2 2) (reads_blk (cs:=[.int .i64 root,.int .i64 root]) (t:=3) (fr:=(0,0)) (hBk_ hA i_) rfl));clear hA HSW H;go_wp2_with fail;refine (HS.out).mono ?_;clear hwA hab u0 u1 u2 u3 u4 u5 ul;rintro e wB ⟨sb',v,id',ns',rfl,hB,hl',hi'⟩;obtain⟨va,vc,rfl,hva,_⟩:=oFM hB.row;obtain⟨g,rfl⟩:=hva o_;have HB:=q_ hB;have HL:=q_ (fun (_:Unit)=>And.intro hl' hi');clear hB hl' hi' HS hva;obtain⟨u_,_,ul⟩:=hCE (HB.out.ord 6 [5]);have u0:wB.cell? ⟨ub,0,none⟩=some (.int .i64 r.S):=u_ 0;have u1:wB.cell? ⟨ub,1,none⟩=some (.slice ha m hc):=u_ 1;have u2:wB.cell? ⟨ub,2,none⟩=some (.slice na n nc):=u_ 2;have HM:=q_ (HMN.out wB sb' ns' _ (HB.out.ord 2 [1,0]) (fun P hP=>by simp [hP]));clear u_ HMN;go_wp2;refine sT_ rfl ?_;go_wp2_with fail;refine (HM.out).mono ?_
 clear u0 u1 u2 ul;rintro e wC (⟨hne,_⟩|⟨_,mb',rb',rfl,hC⟩);·exact absurd rfl hne
 have hD:Has W wC (Hp.blk ub (.cells _ 85 (0,0))::sTR sb' r.S ns'::mapR rb' []::Hp.blk mb' _::bigR false (zd (G:Int)) ga gc::Hp.row 3 1 (.slice (some ⟨g,0,none⟩) 2 vc) 2 [.int .i64 id',.int .i64 id']::Ps):=Has.ord 10 [7,0,1,2,8,3] hC;have ho:=(hD.ord 6 [5]).row;have c0:=owns_cell ho rfl (j:=0) rfl;have c1:=owns_cell ho rfl (j:=1) rfl;obtain⟨u_,uz_,ul⟩:=hCE hD;have u3:=u_ 3;have u4:=u_ 4;have u5:=u_ 5;have u3z:=uz_ 3;have u4z:=uz_ 4;have u5z:=uz_ 5;have HD:=q_ hD;clear u_ uz_ hC hD ho HB HM;go_wp2;go_ret2;refine⟨id',mb',sb',rb',ns',rfl,?_,(HL.out ()).1,(HL.out ()).2⟩;exact (hST (hST (hST HD.out 3 (.pointer (some ⟨sb',0,none⟩))) 4 (.pointer (some ⟨mb',0,none⟩))) 5 (.int .i64 id')).ord 6 [1,2,3,0,4]
theorem Collect_u {W w:World} {U:UP} {ns:List K4} {mm:List ((Int×Int)×Int)} {Ps:List Res} {ha na:Option Addr} {hc nc:Nat} (h:Has W w (uniL U ns mm Ps)) (hq:quietB U.r=true) (e1:U.hv=.slice ha U.r.hood.length hc) (e2:U.nv=.slice na U.r.nodes.length nc) (hlh:U.r.hood.length≤1000000) (hln:U.r.nodes.length≤1000000) (hsrc:RuleSrc W U.hv U.nv U.r Ps)
  {F:Fld} {x y:Int} (hi:Is U.r.S ns 201 U.root (mid 200 F)) (hF:Hold ⟨x,y,41,41⟩ F) :
  Calls Tryz.prog 26 #[.pointer (some ⟨U.ub,0,none⟩)] w fun e w'=>e=.returned (.int .i64 0)∧∃ root mb sb rb ns',
   Has W w' (uniL ⟨U.r,U.hv,U.nv,U.ub,mb,sb,rb,root,U.G,U.ga,U.gc⟩ ns' [] Ps)∧ns'.length≤2000∧Is U.r.S ns' 201 root (mid 200 F):=by
 have HC:=q_ (collect_u h hq e1 e2 hlh hln hsrc hi hF);obtain⟨_,u3,u4,u5,_,ul⟩:=uC_ h;clear h hq e1 e2 hlh hln hsrc hi hF;go_enter Tryz.func26,Tryz.ntmps26;go_wp2_with fail;refine (HC.out).mono ?_;rintro e w1 ⟨root,mb,sb,rb,ns',rfl,h1,h2,h3⟩;have H1:=q_ h1;have H2:=q_ (fun (_:Unit)=>And.intro h2 h3);clear h1 h2 h3 HC u3 u4 u5 ul;go_wp2;go_ret;exact⟨rfl,root,mb,sb,rb,ns',H1.out,(H2.out ()).1,(H2.out ()).2⟩
theorem put_bad {W w:World} {U:UP} {ns:List K4} {mm:List ((Int×Int)×Int)} {Ps:List Res} (h:Has W w (uniL U ns mm Ps)) {p:List PC} {a:Option Addr} {c:Nat} (hp:CellsSrc W Ps (.slice a p.length c) p) (hlen:p.length≤60) (hbad:rightP p=true→¬ topP p<U.r.S)
  {X Y:Int} {vx vy:Value} (hx:bZ_ W Ps vx X) (hy:bZ_ W Ps vy Y) (zX:Zok X) (zY:Zok Y) :
  Calls Tryz.prog 14 #[.pointer (some ⟨U.ub,0,none⟩),.slice a p.length c,vx,vy] w fun e w'=>∃ k,e=.returned (.int .i64 k)∧k≠0∧Has W w' (uniL U ns mm Ps):=by
 have HRP:=q_ (fun w1 Qs (h1:Has W w1 (uniL U ns mm Qs)) (hm:∀ P∈Ps,P∈Qs)=>PRight_calls (hp w1 _ h1 fun P hP=>um_ (hm P hP)) o_);have HTP:=q_ (fun w1 Qs (h1:Has W w1 (uniL U ns mm Qs)) (hm:∀ P∈Ps,P∈Qs)=>Top_calls (hp w1 _ h1 fun P hP=>um_ (hm P hP)) o_);have HRX:=q_ (fun w1 Qs (h1:Has W w1 (uniL U ns mm Qs)) (hm:∀ P∈Ps,P∈Qs)=>Right_z (hx w1 _ h1 fun P hP=>um_ (hm P hP)) zX);have HRY:=q_ (fun w1 Qs (h1:Has W w1 (uniL U ns mm Qs)) (hm:∀ P∈Ps,P∈Qs)=>Right_z (hy w1 _ h1 fun P hP=>um_ (hm P hP)) zY);obtain⟨xs,xa,xn,xc,rfl⟩:∃ b a n c,vx=.agg #[.bool b,.slice a n c]:=by obtain⟨a,c,hv,_⟩:=hx w _ h fun P hP=>um_ hP;exact⟨_,_,_,_,hv⟩
 obtain⟨ys,ya,yn,yc,rfl⟩:∃ b a n c,vy=.agg #[.bool b,.slice a n c]:=by obtain⟨a,c,hv,_⟩:=hy w _ h fun P hP=>um_ hP;exact⟨_,_,_,_,hv⟩
 have h0:=ui_ (hAL (ui_ (hAL h #[.bool xs,.slice xa xn xc] 30)) #[.bool ys,.slice ya yn yc] 30);rw [hAz] at h0;obtain⟨o,ho⟩:∃ o,w.heap.size=o:=⟨_,rfl⟩;rw [ho] at h0;have H:=q_ h0;obtain⟨m,hm⟩:∃ m,p.length=m:=⟨_,rfl⟩;obtain⟨tp,htp⟩:∃ t,topP p=t:=⟨_,rfl⟩;obtain⟨bp,hbp⟩:∃ t,rightP p=t:=⟨_,rfl⟩;rw [hbp] at HRP hbad;rw [htp] at HTP hbad;rw [hm] at HRP HTP ⊢;clear h hp hx hy zX zY h0 hm htp hbp hlen;go_enter Tryz.func14,Tryz.ntmps14;go_wp2_with fail;refine (HRP.out _ _ (H.out.step (Fr.t)) mem2).mono ?_;rintro e w1 ⟨rfl,hf⟩;have H1:=q_ ((H.out.step (Fr.t)).step hf);clear hf H HRP ho;(try clear x0 x1 xl y0 y1 yl Hx Hy);have hx_:w1.heap[o]?=some (.cells #[.bool xs,.slice xa xn xc] 30 (0,0)):=hBk_ H1.out (um_ i_);have hy_:w1.heap[o+1]?=some (.cells #[.bool ys,.slice ya yn yc] 30 (0,0)):=hBk_ H1.out (um_ i_);obtain⟨x0,x1,xl⟩:=l2_ hx_;obtain⟨y0,y1,yl⟩:=l2_ hy_;have ul:=lBk (uH_ H1.out);clear hx_ hy_;cases bp with
 | false =>go_wp2;go_ret;exact⟨2,rfl,by decide,(uni_out (H1.out.step (Fr.t))).drop |> uni_out |>.drop⟩
 | true =>
  have htb:decide (tp ≥ U.r.S)=true:=decide_eq_true (by have:=hbad rfl;omega);go_wp2_with fail;refine (HRX.out _ _ (H1.out.step (Fr.t)) mem2).mono ?_;rintro e w2 ⟨rfl,hf⟩;have H2:=q_ ((H1.out.step (Fr.t)).step hf);clear hf H1 HRX;(try clear x0 x1 xl y0 y1 yl Hx Hy);have hx_:w2.heap[o]?=some (.cells #[.bool xs,.slice xa xn xc] 30 (0,0)):=hBk_ H2.out (um_ i_);have hy_:w2.heap[o+1]?=some (.cells #[.bool ys,.slice ya yn yc] 30 (0,0)):=hBk_ H2.out (um_ i_);obtain⟨x0,x1,xl⟩:=l2_ hx_;obtain⟨y0,y1,yl⟩:=l2_ hy_;have ul:=lBk (uH_ H2.out);clear hx_ hy_;go_wp2_with fail;refine (HRY.out _ _ (H2.out.step (Fr.t)) mem2).mono ?_;rintro e w3 ⟨rfl,hf⟩;have H3:=q_ ((H2.out.step (Fr.t)).step hf);clear hf H2 HRY;(try clear x0 x1 xl y0 y1 yl Hx Hy);have hx_:w3.heap[o]?=some (.cells #[.bool xs,.slice xa xn xc] 30 (0,0)):=hBk_ H3.out (um_ i_);have hy_:w3.heap[o+1]?=some (.cells #[.bool ys,.slice ya yn yc] 30 (0,0)):=hBk_ H3.out (um_ i_);obtain⟨x0,x1,xl⟩:=l2_ hx_;obtain⟨y0,y1,yl⟩:=l2_ hy_;have ul:=lBk (uH_ H3.out);clear hx_ hy_;obtain⟨⟨u0,_⟩,_⟩:=uC_ H3.out;go_wp2;refine wS [([0,2,3,4,5,6,1],[6]),([7,8],[])] ?_;(simp only [wpSegs,pick,aq_,bq_,cq_,dq_,eq_]);go_wp2_with fail;refine (HTP.out _ _ (H3.out.step (Fr.t)) mem2).mono ?_;rintro e w4 ⟨rfl,hf⟩;have H4:=q_ ((H3.out.step (Fr.t)).step hf);clear hf H3 HTP u0;(try clear x0 x1 xl y0 y1 yl Hx Hy);have hx_:w4.heap[o]?=some (.cells #[.bool xs,.slice xa xn xc] 30 (0,0)):=hBk_ H4.out (um_ i_);have hy_:w4.heap[o+1]?=some (.cells #[.bool ys,.slice ya yn yc] 30 (0,0)):=hBk_ H4.out (um_ i_);obtain⟨x0,x1,xl⟩:=l2_ hx_;obtain⟨y0,y1,yl⟩:=l2_ hy_;have ul:=lBk (uH_ H4.out);clear hx_ hy_;obtain⟨⟨u0,_⟩,_⟩:=uC_ H4.out
  go_wp2;refine mD_ ⟨⟨ac_ (T:=3) rfl rfl rfl Tryz.underlying3 rfl u0 rfl,trivial⟩,?_⟩;go_wp2;refine mD_ ⟨trivial,sT_ rfl ?_⟩;go_wp2;go_ret;exact⟨10,rfl,by decide,(uni_out (H4.out.step (Fr.t))).drop |> uni_out |>.drop⟩
end Go.Proofs.YtebolidfbflkmaaGreat
end
section
namespace Go.Proofs.YtebolidfbflkmaaGreat
open Go Go.RowKit Rg Mp Hp Qs Ev Bn Uni Pt
def inT (p:List PC):Prop:=∀ c∈p,-10≤c.x∧c.x≤10∧-10≤c.y∧c.y≤10
theorem put_hold:∀ {p:List PC} {F:Fld},Hold ⟨-10,-10,21,21⟩ F→inT p→Hold ⟨-10,-10,21,21⟩ (putF F 0 0 p)
 | [],F,h,_=>h
 | c::p,F,h,hc=>put_hold (p:=p) (F:=updF F (0+c.x) (0+c.y) c.st) (fun x y hn=>by
   have:=hc c i_
   unfold updF
   rw [if_neg fun e=>hn (by simp only;omega)]
   exact h x y hn) fun d hd=>hc d (by simp [hd])
theorem put_states {s:Int}:∀ {p:List PC} {F:Fld},(∀ x y,0≤F x y∧F x y<s)→(∀ c∈p,0≤c.st∧c.st<s)→∀ x y,0≤putF F 0 0 p x y∧putF F 0 0 p x y<s
 | [],F,h,_=>h
 | c::p,F,h,hc=>put_states (p:=p) (F:=updF F (0+c.x) (0+c.y) c.st) (fun x y=>by
   unfold updF
   split
   ·exact hc c i_
   ·exact h x y) fun d hd=>hc d (by simp [hd])
theorem hold_in {F:Fld} (h:Hold ⟨-30,-30,61,61⟩ F):Inside 200 F:=fun i j hn=>h i j fun hc=>hn (by
 have e:(64:Int)≤p2 200:=by decide +kernel
 simp only at hc
 omega)
def fP (p:List PC):Fld:=putF (fun _ _=>0) 0 0 p
structure PartOk (r:Rule) (p:List PC):Prop where
 quiet:quietB r=true
 right:rightP p=true
 st:∀ c∈p,c.st<r.S
 box:inT p
 hood:r.hood.length≤1000000
 nodes:r.nodes.length≤1000000
 len:p.length≤60
theorem PartOk.hold {r:Rule} {p:List PC} (h:PartOk r p):Hold ⟨-10,-10,21,21⟩ (fP p):=put_hold (fun _ _ _=>rfl) h.box
theorem PartOk.states {r:Rule} {p:List PC} (h:PartOk r p) (n:Nat):∀ x y,0≤it (gen r) n (fP p) x y∧it (gen r) n (fP p) x y<r.S :=
 gen_states h.quiet (put_states (fun _ _=>⟨Int.le_refl _,by have:=right_S (quiet_parts h.quiet).1;omega⟩) fun c hc=>⟨by
  have h2:=(right_parts h.right).2.1 c hc
  simp only [cellB,placeB,Bool.and_eq_true,decide_eq_true_eq] at h2
  omega,h.st c hc⟩) n
theorem PartOk.hold5 {r:Rule} {p:List PC} (h:PartOk r p) {n:Nat} (hn:n≤5):Hold ⟨-20,-20,41,41⟩ (it (gen r) n (fP p)):=by have hr:=(rad_lost r).1;have:rad r*n≤2*5:=Nat.mul_le_mul o_ hn;exact hold_more (hold_it h.quiet h.hold n) o_ o_ o_ o_
theorem PartOk.hold10 {r:Rule} {p:List PC} (h:PartOk r p) {n:Nat} (hn:n≤10):Hold ⟨-30,-30,61,61⟩ (it (gen r) n (fP p)):=by have hr:=(rad_lost r).1;have:rad r*n≤2*10:=Nat.mul_le_mul o_ hn;exact hold_more (hold_it h.quiet h.hold n) o_ o_ o_ o_
def PSt (W w:World) (C:List Res) (r:Rule) (hv nv:Value) (ub vb:Nat) (F G:Fld) (m n bu bv:Nat):Prop :=
 ∃ mb sb rb root ga gc ns mm mb' sb' rb' root' ga' gc' ms nn,Has W w (uniL ⟨r,hv,nv,ub,mb,sb,rb,root,m,ga,gc⟩ ns mm (uniL ⟨r,hv,nv,vb,mb',sb',rb',root',n,ga',gc'⟩ ms nn C)) ∧
  (Is r.S ns 201 root (mid 200 F)∧ns.length≤bu∧Kept r ns mm)∧Is r.S ms 201 root' (mid 200 G)∧ms.length≤bv∧Kept r ms nn
section
variable {W w w1 w2:World} {C:List Res} {r:Rule} {hv nv:Value} {ub vb:Nat} {F G:Fld} {m n bu bv:Nat}
theorem PSt.swap (h:PSt W w C r hv nv ub vb F G m n bu bv):PSt W w C r hv nv vb ub G F n m bv bu:=by obtain⟨mb,sb,rb,root,ga,gc,ns,mm,mb',sb',rb',root',ga',gc',ms,nn,h1,h2,h3⟩:=h;exact⟨_,_,_,_,_,_,_,_,_,_,_,_,_,_,_,_,Has.ord 10 [5,6,7,8,9,0,1,2,3,4] h1,h3,h2⟩
theorem PSt.step (h:PSt W w C r hv nv ub vb F G m n bu bv) (hf:Fr [] w w1):PSt W w1 C r hv nv ub vb F G m n bu bv:=by obtain⟨mb,sb,rb,root,ga,gc,ns,mm,mb',sb',rb',root',ga',gc',ms,nn,h1,h2⟩:=h;exact⟨_,_,_,_,_,_,_,_,_,_,_,_,_,_,_,_,h1.step hf,h2⟩
theorem PSt.fr (h:PSt W w C r hv nv ub vb F G m n bu bv):Fr [] W w:=by obtain⟨mb,sb,rb,root,ga,gc,ns,mm,mb',sb',rb',root',ga',gc',ms,nn,h1,h2⟩:=h;exact h1.fr
theorem PSt.blk (h:PSt W w C r hv nv ub vb F G m n bu bv) {b:Nat} {o:Obj} (hm:Hp.blk b o∈C):w.heap[b]?=some o:=by obtain⟨mb,sb,rb,root,ga,gc,ns,mm,mb',sb',rb',root',ga',gc',ms,nn,h1,h2⟩:=h;exact hBk_ h1 (um_ (um_ hm))
theorem PSt.big (h:PSt W w C r hv nv ub vb F G m n bu bv) {L:List (Value×Int)} (hm:zp_ L∈C) {v:Value} {z:Int} (he:(v,z)∈L):BigZ w (fun _=>True) v z:=by obtain⟨mb,sb,rb,root,ga,gc,ns,mm,mb',sb',rb',root',ga',gc',ms,nn,h1,h2⟩:=h;exact zi_ h1 (um_ (um_ hm)) he
theorem PSt.ptr (h:PSt W w C r hv nv ub vb F G m n bu bv):ub<w.heap.size:=by obtain⟨mb,sb,rb,root,ga,gc,ns,mm,mb',sb',rb',root',ga',gc',ms,nn,h1,h2⟩:=h;exact lBk (uH_ h1)
theorem put_P {p:List PC} {a:Option Addr} {c:Nat} {z:Value} (h:PSt W w C r hv nv ub vb (fun _ _=>0) G m n 201 bv) (ok:PartOk r p) (hp:CellsAt W (.slice a p.length c) p) (hz:zp_ [(z,0)]∈C) :
  Calls Tryz.prog 14 #[.pointer (some ⟨ub,0,none⟩),.slice a p.length c,z,z] w fun e w'=>e=.returned (.int .i64 0)∧PSt W w' C r hv nv ub vb (fP p) G m n 13000 bv:=by
 obtain⟨mb,sb,rb,root,ga,gc,ns,mm,mb',sb',rb',root',ga',gc',ms,nn,h1,⟨h2,h3,h5⟩,h4⟩:=h;have hbz:bZ_ W (uniL ⟨r,hv,nv,vb,mb',sb',rb',root',n,ga',gc'⟩ ms nn C) z 0:=fun w1 Qs h1 hm=>zi_ (e:=(z,0)) h1 (hm _ (um_ hz)) i_;have e:(64:Int)≤p2 200:=by decide +kernel
 have hlp:=ok.len;refine (put_u (R:=p2 200) h1 h2 (fun w1 Qs h1 hm=>hp.fr h1.fr) ok.right ok.st (right_S (quiet_parts ok.quiet).1).1 hbz hbz (zok_int o_ o_) (zok_int o_ o_) rfl (fun c hc=>by have:=ok.box c hc;unfold inV;omega) o_).mono ?_;rintro e w' ⟨rfl,root2,ns2,h6,h7,h8,h9⟩;exact⟨rfl,_,_,_,_,_,_,_,_,_,_,_,_,_,_,_,_,h6,⟨h9,o_,h5.grow h7⟩,h4⟩
theorem put_Q {p:List PC} {a:Option Addr} {c:Nat} {z:Value} (h:PSt W w C r hv nv ub vb F G m n bu bv) (hlen:p.length≤60) (hbad:rightP p=true→¬ topP p<r.S) (hp:CellsAt W (.slice a p.length c) p) (hz:zp_ [(z,0)]∈C) :
  Calls Tryz.prog 14 #[.pointer (some ⟨ub,0,none⟩),.slice a p.length c,z,z] w fun e w'=>∃ k,e=.returned (.int .i64 k)∧k≠0∧Fr [] W w':=by
 obtain⟨mb,sb,rb,root,ga,gc,ns,mm,mb',sb',rb',root',ga',gc',ms,nn,h1,h2⟩:=h;have hbz:bZ_ W (uniL ⟨r,hv,nv,vb,mb',sb',rb',root',n,ga',gc'⟩ ms nn C) z 0:=fun w1 Qs h1 hm=>zi_ (e:=(z,0)) h1 (hm _ (um_ hz)) i_;refine (put_bad h1 (fun w1 Qs h1 hm=>hp.fr h1.fr) hlen hbad hbz hbz (zok_int o_ o_) (zok_int o_ o_)).mono ?_;rintro e w' ⟨k,rfl,h3,h4⟩;exact⟨k,rfl,h3,h4.fr⟩
theorem run_P {ha na:Option Addr} {hc nc:Nat} {v:Value} {q:Nat} {x:Int} {B:Nat} (h:PSt W w C r (.slice ha r.hood.length hc) (.slice na r.nodes.length nc) ub vb F G m n bu bv) (hq:quietB r=true) (hru:RuleAt W (.slice ha r.hood.length hc) (.slice na r.nodes.length nc) r)
  (hb:BigZ w1 (w.heap.size≤·) v (q:Int)) (hf:Fr [] w w1) (hB:1≤B) (hF:Hold ⟨x,x,B,B⟩ F) (hF3:Hold ⟨-30,-30,61,61⟩ F) (hFn:Hold ⟨-30,-30,61,61⟩ (it (gen r) q F)) (hn:q≤10) (hlen:(runL r F x x B q).length≤61000) (hbu:bu≤13000) (hm:m≤100) :
  Calls Tryz.prog 15 #[.pointer (some ⟨ub,0,none⟩),v] w1 fun e w'=>e=.returned (.int .i64 0)∧PSt W w' C r (.slice ha r.hood.length hc) (.slice na r.nodes.length nc) ub vb (it (gen r) q F) G (m+q) n 90000 bv:=by
 obtain⟨mb,sb,rb,root,ga,gc,ns,mm,mb',sb',rb',root',ga',gc',ms,nn,h1,⟨h2,h3,h5⟩,h4⟩:=h;have hz:=ui_ (zm_ (zpool_nil h1) hf hb (zok_int o_ o_));refine (run_u hz hq rfl rfl (RuleSrc.base hru) h2 (hold_in hF3) o_ (fun w2 Qs h2 hm=>zi_ (e:=(v,(q:Int))) h2 (hm (zp_ [(v,(q:Int))]) i_) i_) (hold_in hFn) (fun k hk hb u hu=>run_need hq hB hF hk hb u hu) (roomC_of o_) h5 (show m+q<2 ^ 200 from Nat.lt_of_le_of_lt (show m+q≤110 by omega) (by decide +kernel))).mono ?_;rintro e w' ⟨rfl,root2,ga2,gc2,ns2,mm2,h6,h7,h8,h9,h10⟩;have h11:=has_good (uS_ h6);exact⟨rfl,_,_,_,_,_,_,_,_,_,_,_,_,_,_,_,_,(uni_out h6).drop,⟨h10,by have:=roomC_len h11 h8;omega,h9⟩,h4⟩
theorem coll_P {ha na:Option Addr} {hc nc:Nat} {p:List PC} {q:Nat} (h:PSt W w C r (.slice ha r.hood.length hc) (.slice na r.nodes.length nc) ub vb (it (gen r) q (fP p)) G m n bu bv) (ok:PartOk r p) (hq5:q≤5) (hru:RuleAt W (.slice ha r.hood.length hc) (.slice na r.nodes.length nc) r) :
  Calls Tryz.prog 26 #[.pointer (some ⟨ub,0,none⟩)] w fun e w'=>e=.returned (.int .i64 0)∧PSt W w' C r (.slice ha r.hood.length hc) (.slice na r.nodes.length nc) ub vb (it (gen r) q (fP p)) G m n 2000 bv:=by
 obtain⟨mb,sb,rb,root,ga,gc,ns,mm,mb',sb',rb',root',ga',gc',ms,nn,h1,⟨h2,h3,h5⟩,h4⟩:=h;refine (Collect_u h1 ok.quiet rfl rfl ok.hood ok.nodes (RuleSrc.base hru) h2 (ok.hold5 hq5)).mono ?_;rintro e w' ⟨rfl,root2,mb2,sb2,rb2,ns2,h6,h7,h8⟩;exact⟨rfl,_,_,_,_,_,_,_,_,_,_,_,_,_,_,_,_,h6,⟨h8,h7,fun id k v h=>by simp [get?] at h⟩,h4⟩
theorem view_P {vx vy:Value} {q:List PC} (h:PSt W w C r hv nv ub vb F G m n bu bv) (hbx:BigZ w1 (w.heap.size≤·) vx (-64)) (hf1:Fr [] w w1) (hby:BigZ w2 (w1.heap.size≤·) vy (-64)) (hf2:Fr [] w1 w2)
  (hfrom:fromP (visL ⟨-64,-64,128,128⟩ 201 (mid 200 F) (-p2 200) (-p2 200))=(q,0)) (hlen:(visL ⟨-64,-64,128,128⟩ 201 (mid 200 F) (-p2 200) (-p2 200)).length≤5000) :
  Calls Tryz.prog 18 #[.pointer (some ⟨ub,0,none⟩),vx,vy,.int .i64 128,.int .i64 128] w2 fun e w'=>∃ v,e=.returned (.tuple #[v,.int .i64 0])∧PSt W w' (Hp.row 41 3 v q.length (pcs q)::C) r hv nv ub vb F G m n bu bv:=by
 obtain⟨mb,sb,rb,root,ga,gc,ns,mm,mb',sb',rb',root',ga',gc',ms,nn,h1,⟨h2,h3,h5⟩,h4⟩:=h;have z:Zok (-64):=zok_int o_ o_;have h6:=ui_ (zm_ (zm_ (zpool_nil h1) hf1 hbx z) hf2 hby z);have e:(64:Int)≤p2 200:=by decide +kernel
 have e1:=p2_201;refine (view_u h6 h2 (X:=-64) (Y:=-64) (fun w3 Qs h3 hm=>zi_ (e:=(vx,-64)) h3 (hm (zp_ [(vy,-64),(vx,-64)]) i_) i_) (fun w3 Qs h3 hm=>zi_ (e:=(vy,-64)) h3 (hm (zp_ [(vy,-64),(vx,-64)]) i_) i_)
  o_ o_ (some_z (zi_ (L:=[(vy,-64),(vx,-64)]) (e:=(vx,-64)) h6 (um_ i_) i_) o_) (some_z (zi_ (L:=[(vy,-64),(vx,-64)]) (e:=(vy,-64)) h6 (um_ i_) i_) o_) o_ o_ hfrom (Nat.le_trans hlen o_)).mono ?_
 rintro e w' ⟨v,rfl,h7⟩;exact⟨v,rfl,_,_,_,_,_,_,_,_,_,_,_,_,_,_,_,_,Has.ord 12 [1,2,3,4,5,7,8,9,10,11,0] h7,⟨h2,h3,h5⟩,h4⟩
end
end Go.Proofs.YtebolidfbflkmaaGreat
end
