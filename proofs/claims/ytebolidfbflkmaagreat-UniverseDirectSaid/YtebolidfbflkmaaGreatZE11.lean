/- Own texts of this claim, part 12: no condition. -/
import Derived.Test.YtebolidfbflkmaaGreatZE10
set_option linter.unusedVariables false
set_option linter.unusedSimpArgs false
set_option maxHeartbeats 16000000
set_option maxRecDepth 100000
namespace Go.Proofs.YtebolidfbflkmaaGreat
open Go Go.RowKit Rg Mp Hp Qs Ev
variable {W:World}{r:Rule}{ha na:Option Addr}{hc nc mb sb rb:Nat}{L:List Tr}
theorem direct_four (hR:Ar r=true) (hlo:A1 (A3 r.hood)=2):Qj W r (.slice ha r.hood.length hc) (.slice na r.nodes.length nc) mb sb rb L 2:=by
 intro w Ps ns mm id t h hroom hkept hi hL hru;show Calls Tryz.prog 131 #[.pointer (some ⟨mb,0,none⟩),.int .i64 id,.int .i64 2] w _;have HRU:=q_ hru;have H:=q_ h;have Hroom:=q_ hroom;have Hkept:=q_ hkept;have HI:=q_ hi;have HL:=q_ hL;have hmk:=make_rows4;have HLO:=q_ hlo;clear hru h hroom hkept hi hL hlo;go_enter Tryz.func131,Tryz.ntmps131;go_upto_region 2 with fail
 go_cut [9,10] (fun s9 s10 wx=>∃ oa ob:Nat,s9=.slice (some ⟨oa,0,none⟩) 4 4∧s10=.slice (some ⟨ob,0,none⟩) 4 4∧Hid (Has W wx (A9 r (.slice ha r.hood.length hc) (.slice na r.nodes.length nc) mb sb rb ns mm (Ay oa 4 []::Ay ob 4 []::Ps))));case first =>
  go_region;all_goals
   go_wp2_with fail;go_meet
  ·exact⟨_,_,rfl,rfl,q_ ((Lp (m:=4) (X:=#[.slice none 0 0,.slice none 0 0,.slice none 0 0,.slice none 0 0]) H.o rfl).step ((Fr.refl [] _).drew))⟩
  ·exact⟨_,_,rfl,rfl,q_ ((Lp (m:=4) (X:=#[.slice none 0 0,.slice none 0 0,.slice none 0 0,.slice none 0 0]) H.o rfl).fifth.step ((Fr.refl [] _).drew))⟩
 case rest =>
  obtain⟨oa,ob,rfl,rfl,HT⟩:=hcut;clear hmk H;have hmk:=make_row4;go_wp2;go_loopw [25] (fun x wr=>∃ (i:Nat) (aL bs:List Nat),x=.int .i64 i∧i≤4∧aL.length=i∧bs.length=i∧Hid (Has W wr (A9 r (.slice ha r.hood.length hc) (.slice na r.nodes.length nc) mb sb rb ns mm (Ay oa 4 aL::Ay ob 4 bs::Ps)))) (fun x _=>4 - (intOf x).toNat);case atStart=>exact⟨0,[],[],rfl,o_,rfl,rfl,HT⟩
  case round =>
   clear HT;obtain⟨i,aL,bs,rfl,hi4,hal,hbl,HT⟩:=hrel;have Hal:=q_ hal;have Hbl:=q_ hbl;by_cases hlt:i<4;·
    obtain⟨⟨va,ca,hva⟩,za,la⟩:=Kb HT.o.fourth o_;have hne:=V7 HT.o;have hne':=Ne.symm hne;obtain⟨⟨vb,cb,hvb⟩,zb,lb⟩:=Kb HT.o.fifth.fourth o_;rw [hal] at ca za;rw [hbl] at cb zb;clear hal hbl hva hvb;go_wp2;go_region;all_goals
     go_wp2
    all_goals
     go_roundw;case rel =>
      first
       | exact⟨i+1,aL++[wr.heap.size],bs++[wr.heap.size+1],by go_num,o_,by simp [Hal.o],by simp [Hbl.o],q_ ((K5 (X:=#[.int .i64 0,.int .i64 0,.int .i64 0,.int .i64 0]) HT.o rfl Hal.o Hbl.o hlt).step ((Fr.refl [] _).drew))⟩
       | exact⟨i+1,aL++[wr.heap.size+1],bs++[wr.heap.size],by go_num,o_,by simp [Hal.o],by simp [Hbl.o],q_ ((Lx wr hne' _ _▸K5 (X:=#[.int .i64 0,.int .i64 0,.int .i64 0,.int .i64 0]) HT.o.fifth rfl Hbl.o Hal.o hlt).fifth.step ((Fr.refl [] _).drew))⟩
       | (trace_state;sorry)
     case measure=>simp [intOf];omega
   ·obtain rfl:i=4:=o_;have h4:=Ka (Ka HT.o.fourth Hal.o).back4.fifth.fourth Hbl.o;have HT4:=q_ h4.back4.fifth;have hl2:=D3 (Aa r.hood).1 (Aa r.hood).2;have HFI:=q_ (fun w1 (hf:Fr [] wr w1)=>Pw (W:=W) (r:=r) (hv:=.slice ha r.hood.length hc) (nv:=.slice na r.nodes.length nc) (mb:=mb) (sb:=sb) (rb:=rb) (ns:=ns) (mm:=mm) (ob:=oa) (m:=4) (bs:=aL) (Ps:=E4 ob 4 bs (fun _ _=>0)::Ps) o_ (Px o_ (O1 o_)) w1 (fun _ _=>0) id t 0 0 2 0 0 rfl rfl rfl (HT4.o.step hf) HI.o o_ o_);clear h4 hal hbl HT;go_wp2_with fail;refine (HFI.o _ (Fr.t)).mono ?_;rintro e w5 ⟨rfl,h⟩;have H5:=q_ h;clear h HFI HT4;have HF0:=q_ (fun (i j:Int) (h1:0≤i) (h2:i<4) (h3:0≤j) (h4:j<4)=>show Bu (fun _ _=>0) 2 t 0 0 i j=cell 2 t i j by
     unfold Bu
     rw [if_pos (by show 0≤i∧i<0+4∧0≤j∧j<0+4;omega),Int.sub_zero,Int.sub_zero])
    have HFOK:=q_ (fun (i j:Int) (h1:0≤i) (h2:i<4) (h3:0≤j) (h4:j<4)=>show 0≤Bu (fun _ _=>0) 2 t 0 0 i j∧Bu (fun _ _=>0) 2 t 0 0 i j<r.S by
     rw [HF0.o i j h1 h2 h3 h4]
     exact Kl 2 HI.o.2.2.1 HI.o.2.2.2 h1 h2 h3 h4)
    have H5':=q_ (show Has W w5 (A9 r (.slice ha r.hood.length hc) (.slice na r.nodes.length nc) mb sb rb ns mm (E4 oa 4 aL (Bu (fun _ _=>0) 2 t 0 0)::E4 ob 4 bs (fun _ _=>0)::Ps)) from H5.o);clear H5;generalize Bu (fun _ _=>0) 2 t 0 0=F0 at H5' HF0 HFOK;have hrad:A3 r.hood≤1:=(by have:=HLO.o;unfold A1 at this;omega);have HRAD:=q_ hrad;clear hrad;go_wp2;go_loopw [12] (fun x' wr=>∃ (y:Nat) (G:Fld),x'=.int .i64 y∧1≤y∧y≤3∧Hid (NextSt W wr r (.slice ha r.hood.length hc) (.slice na r.nodes.length nc) mb sb rb ns mm Ps oa ob 4 aL bs F0 G 1 y 0)) (fun x _=>3 - (intOf x).toNat);case atStart=>exact⟨1,_,rfl,o_,o_,q_ ⟨H5'.o,fun i j h1 h2 h3 h4 h5=>by omega⟩⟩
    case round =>
     clear H5';obtain⟨y,G,rfl,hy1,hy3,HS⟩:=hrel;by_cases hy:y<3;·
      have hdy:decide ((y:Int)<3)=true:=u_';go_wp2;go_loopw [13] (fun x' wr=>∃ (x:Nat) (G:Fld),x'=.int .i64 x∧1≤x∧x≤3∧Hid (NextSt W wr r (.slice ha r.hood.length hc) (.slice na r.nodes.length nc) mb sb rb ns mm Ps oa ob 4 aL bs F0 G 1 y x)) (fun x _=>3 - (intOf x).toNat);case atStart=>exact⟨1,_,rfl,o_,o_,q_ ⟨HS.o.has,fun i j h1 h2 h3 h4 h5=>HS.o.done i j h1 h2 h3 h4 o_⟩⟩
      case round =>
       clear HS;obtain⟨x,G,rfl,hx1,hx3,HS⟩:=hrel;by_cases hx:x<3;·
        have hdx:decide ((x:Int)<3)=true:=u_';obtain⟨m0,m1,m2,m3,_,_,ml⟩:=mC_ HS.o.has;have HRN:=q_ (HRU.o wr _ HS.o.has (fun P hP=>by unfold A9;simp [hP]));have hnl:=K8 hR;have hhl:=G3 hR;obtain⟨wq,hwq⟩:∃ wq,wq=wr:=⟨_,rfl⟩;go_wp2;rw [← hwq] at HS HRN m0 m1 m2 m3 ml ⊢;go_loopw [14,75] (fun k' h' wl=>∃ hh:Nat,h'=.int .i64 hh∧hh≤r.hood.length∧k'=.int .i64 (down r ((r.hood.take hh).map fun p=>F0 (x+p.1) (y+p.2)))∧Fr [] wq wl) (fun _ x _=>r.hood.length - (intOf x).toNat);case atStart=>exact⟨0,rfl,o_,rfl,Fr.refl _ _⟩
        case round =>
         obtain⟨hh,rfl,hh1,rfl,hf⟩:=hrel;have Hf:=q_ hf;clear hf m0 m1 m2 m3 ml;have hs9:=HS.o.has.step Hf.o;by_cases hlt:hh<r.hood.length;·
          obtain⟨⟨ox,oy⟩,hp⟩:∃ p,r.hood[hh]?=some p:=⟨_,List.getElem?_eq_getElem hlt⟩;obtain⟨o1,o2,o3,o4⟩:=Fp (Cy hR) (List.mem_of_getElem? hp);have hrad:=HRAD.o;simp only at o1 o2 o3 o4;have b1:-1≤ox:=o_;have b2:ox≤1:=o_;have b3:-1≤oy:=o_;have b4:oy≤1:=o_;clear o1 o2 o3 o4 hrad;obtain⟨gh,oh,heh,hgh,p0,p1⟩:=(HRN.o.1.fr Hf.o).cell hp;simp only at p0 p1;have hok:=HFOK.o (x+ox) (y+oy) o_ o_ o_ o_;have hst:∀ s∈(r.hood.take hh).map (fun p=>F0 (x+p.1) (y+p.2)),0≤s∧s<r.S:=by intro s hs;obtain⟨q,hq,rfl⟩:=List.mem_map.1 hs;have hq':=Fp (Cy hR) (List.mem_of_mem_take hq);have hrad:=HRAD.o;exact HFOK.o _ _ o_ o_ o_ o_
          have hsn:=Kk r ((r.hood.take hh).map fun p=>F0 (x+p.1) (y+p.2)) (F0 (x+ox) (y+oy));rw [← Kt hp (fun p=>F0 (x+p.1) (y+p.2))] at hsn;obtain⟨k,gn,on,g2,off2,rl,rc,hk,hkl,hen,hgn,n1,hrl,hg2,n2⟩:=Nf hR (HRN.o.2.fr Hf.o) hst u_' hok.1 hok.2;obtain⟨b,hb,c0,c1,_,cl,ol⟩:=Ke hs9.fourth (y:=(y+oy).toNat) o_
          replace c1:=c1 (x+ox).toNat o_
          rw [show (((x+ox).toNat:Nat):Int)=x+ox by omega,show (((y+oy).toNat:Nat):Int)=y+oy by omega] at c1;obtain⟨m0,m1,m2,m3,_,_,ml⟩:=mC_ hs9;rw [hk] at hsn ⊢;have HSN:=q_ hsn;generalize F0 (x+ox) (y+oy)=s at c1 n2 hok HSN;obtain⟨s0,s1⟩:=hok;have e1:(0:Int)≤y+oy:=o_;have e2:(0:Int)≤x+ox:=o_;have e3:(y:Int)+oy<4:=o_;have e4:(x:Int)+ox<4:=o_;subst heh;subst hen;clear hp hst hsn hk hb hs9;go_wp2;(refine wT ?_);have s2:s<(rl:Int):=o_;clear hrl s1;go_wp2;refine sT_ rfl ?_;go_wp2;go_roundw;case rel=>exact⟨hh+1,by go_num,o_,by rw [HSN.o],by have:=Hf.o;exact Fr.t⟩
          case measure=>simp [intOf];omega
         ·have hhe:hh=r.hood.length:=o_;subst hhe;rw [List.take_length];obtain⟨b,hb,c0,c1,cf,cl,ol⟩:=Ke hs9.fifth.fourth (y:=y) o_;have c1x:=c1 x o_;have cfx:=cf x;go_wp2;go_roundw;case rel =>obtain⟨G',hG⟩:=NextSt.put HS.o Hf.o o_ hb (v:=down r (r.hood.map fun p=>F0 (x+p.1) (y+p.2))) rfl;exact⟨x+1,G',by go_num,o_,o_,q_ hG⟩
          case measure=>simp [intOf];omega
       ·obtain rfl:x=3:=o_;go_wp2;go_roundw;case rel=>exact⟨y+1,G,by go_num,o_,o_,q_ ⟨HS.o.has,fun i j h1 h2 h3 h4 h5=>HS.o.done i j h1 h2 h3 h4 o_⟩⟩
        case measure=>simp [intOf];omega
     ·obtain rfl:y=3:=o_;have hG:∀ i j:Nat,1≤i→i<3→1≤j→j<3→G i j=gen r F0 i j:=fun i j h1 h2 h3 h4=>HS.o.done i j h1 o_ h3 o_ o_;have hrad:=HRAD.o;have hE:mk 1 G ((1:Nat):Int) ((1:Nat):Int)=stp (gen r) 2 0 t:=by
       refine C9 1 fun i j h1 h2 h3 h4=>?_;rw [Ac,Gi] at h2 h4;have h5:=hG (1+i).toNat (1+j).toNat o_ o_ o_ o_;rw [show (((1+i).toNat:Nat):Int)=1+i by omega,show (((1+j).toNat:Nat):Int)=1+j by omega] at h5;refine h5.trans (Eg hR fun p q a1 a2 a3 a4=>?_);exact HF0.o _ _ o_ o_ o_ o_
      have HSQ:=q_ (Lu (W:=W) (r:=r) (hv:=.slice ha r.hood.length hc) (nv:=.slice na r.nodes.length nc) (mb:=mb) (sb:=sb) (rb:=rb) (L:=L) (mm:=mm) (ob:=ob) (m:=4) (bs:=bs) (F:=G) o_ (Ku o_) wr (E4 oa 4 aL F0::Ps) ns 1 1 1 1 1 rfl rfl rfl HS.o.has.fifth Hroom.o o_ o_ (fun i j h1 h2 h3 h4=>by
       rw [hG i j h1 o_ h3 o_]
       exact gen_ok hR fun p q a1 a2 a3 a4=>HFOK.o _ _ o_ o_ o_ o_) (fun u hu=>HL.o u (hE▸hu)))
      rw [hE] at HSQ;clear hG hE hrad;go_wp2_with fail;refine HSQ.o.mono ?_;rintro e w6 ⟨res,ns',rfl,h1,h2,h3,h4⟩;have H6:=q_ (And.intro h1 (And.intro h2 (And.intro h3 h4)));clear h1 h2 h3 h4 HSQ;go_wp2;go_ret2;exact⟨res,ns',mm,rfl,H6.o.1.fourth.drop.fourth.drop,H6.o.2.1,H6.o.2.2.1,Hkept.o.grow H6.o.2.1,H6.o.2.2.2,Keeps.refl mm⟩
theorem make_rows8 (w:World):(Instr.makeSlice 217 (.int .i64 8) (.int .i64 8)).run Tryz.prog w=.ok (.slice (some ⟨w.heap.size,0,none⟩) 8 8) (w.alloc (.cells #[.slice none 0 0,.slice none 0 0,.slice none 0 0,.slice none 0 0,.slice none 0 0,.slice none 0 0,.slice none 0 0,.slice none 0 0] 72 (0,0))):=by kernel_rfl
theorem make_row8 (w:World):(Instr.makeSlice 72 (.int .i64 8) (.int .i64 8)).run Tryz.prog w=.ok (.slice (some ⟨w.heap.size,0,none⟩) 8 8) (w.alloc (.cells #[.int .i64 0,.int .i64 0,.int .i64 0,.int .i64 0,.int .i64 0,.int .i64 0,.int .i64 0,.int .i64 0] 3 (0,0))):=by kernel_rfl
theorem direct_eight (hR:Ar r=true) (hlo:A1 (A3 r.hood)=3):Qj W r (.slice ha r.hood.length hc) (.slice na r.nodes.length nc) mb sb rb L 3:=by
 intro w Ps ns mm id t h hroom hkept hi hL hru;show Calls Tryz.prog 131 #[.pointer (some ⟨mb,0,none⟩),.int .i64 id,.int .i64 3] w _;have HRU:=q_ hru;have H:=q_ h;have Hroom:=q_ hroom;have Hkept:=q_ hkept;have HI:=q_ hi;have HL:=q_ hL;have hmk:=make_rows8;have HLO:=q_ hlo;clear hru h hroom hkept hi hL hlo;go_enter Tryz.func131,Tryz.ntmps131;go_upto_region 2 with fail
 go_cut [9,10] (fun s9 s10 wx=>∃ oa ob:Nat,s9=.slice (some ⟨oa,0,none⟩) 8 8∧s10=.slice (some ⟨ob,0,none⟩) 8 8∧Hid (Has W wx (A9 r (.slice ha r.hood.length hc) (.slice na r.nodes.length nc) mb sb rb ns mm (Ay oa 8 []::Ay ob 8 []::Ps))));case first =>
  go_region;all_goals
   go_wp2_with fail;go_meet
  ·exact⟨_,_,rfl,rfl,q_ ((Lp (m:=8) (X:=#[.slice none 0 0,.slice none 0 0,.slice none 0 0,.slice none 0 0,.slice none 0 0,.slice none 0 0,.slice none 0 0,.slice none 0 0]) H.o rfl).step ((Fr.refl [] _).drew))⟩
  ·exact⟨_,_,rfl,rfl,q_ ((Lp (m:=8) (X:=#[.slice none 0 0,.slice none 0 0,.slice none 0 0,.slice none 0 0,.slice none 0 0,.slice none 0 0,.slice none 0 0,.slice none 0 0]) H.o rfl).fifth.step ((Fr.refl [] _).drew))⟩
 case rest =>
  obtain⟨oa,ob,rfl,rfl,HT⟩:=hcut;clear hmk H;have hmk:=make_row8;go_wp2;go_loopw [25] (fun x wr=>∃ (i:Nat) (aL bs:List Nat),x=.int .i64 i∧i≤8∧aL.length=i∧bs.length=i∧Hid (Has W wr (A9 r (.slice ha r.hood.length hc) (.slice na r.nodes.length nc) mb sb rb ns mm (Ay oa 8 aL::Ay ob 8 bs::Ps)))) (fun x _=>8 - (intOf x).toNat);case atStart=>exact⟨0,[],[],rfl,o_,rfl,rfl,HT⟩
  case round =>
   clear HT;obtain⟨i,aL,bs,rfl,hi4,hal,hbl,HT⟩:=hrel;have Hal:=q_ hal;have Hbl:=q_ hbl;by_cases hlt:i<8;·
    obtain⟨⟨va,ca,hva⟩,za,la⟩:=Kb HT.o.fourth o_;have hne:=V7 HT.o;have hne':=Ne.symm hne;obtain⟨⟨vb,cb,hvb⟩,zb,lb⟩:=Kb HT.o.fifth.fourth o_;rw [hal] at ca za;rw [hbl] at cb zb;clear hal hbl hva hvb;go_wp2;go_region;all_goals
     go_wp2
    all_goals
     go_roundw;case rel =>
      first
       | exact⟨i+1,aL++[wr.heap.size],bs++[wr.heap.size+1],by go_num,o_,by simp [Hal.o],by simp [Hbl.o],q_ ((K5 (X:=#[.int .i64 0,.int .i64 0,.int .i64 0,.int .i64 0,.int .i64 0,.int .i64 0,.int .i64 0,.int .i64 0]) HT.o rfl Hal.o Hbl.o hlt).step ((Fr.refl [] _).drew))⟩
       | exact⟨i+1,aL++[wr.heap.size+1],bs++[wr.heap.size],by go_num,o_,by simp [Hal.o],by simp [Hbl.o],q_ ((Lx wr hne' _ _▸K5 (X:=#[.int .i64 0,.int .i64 0,.int .i64 0,.int .i64 0,.int .i64 0,.int .i64 0,.int .i64 0,.int .i64 0]) HT.o.fifth rfl Hbl.o Hal.o hlt).fifth.step ((Fr.refl [] _).drew))⟩
       | (trace_state;sorry)
     case measure=>simp [intOf];omega
   ·obtain rfl:i=8:=o_;have h4:=Ka (Ka HT.o.fourth Hal.o).back4.fifth.fourth Hbl.o;have HT4:=q_ h4.back4.fifth;have hl2:=D3 (Aa r.hood).1 (Aa r.hood).2;have HFI:=q_ (fun w1 (hf:Fr [] wr w1)=>fillAt_three (W:=W) (r:=r) (hv:=.slice ha r.hood.length hc) (nv:=.slice na r.nodes.length nc) (mb:=mb) (sb:=sb) (rb:=rb) (ns:=ns) (mm:=mm) (ob:=oa) (m:=8) (bs:=aL) (Ps:=E4 ob 8 bs (fun _ _=>0)::Ps) o_ (Pw o_ (Px o_ (O1 o_))) w1 (fun _ _=>0) id t 0 0 3 0 0 rfl rfl rfl (HT4.o.step hf) HI.o o_ o_);clear h4 hal hbl HT;go_wp2_with fail;refine (HFI.o _ (Fr.t)).mono ?_;rintro e w5 ⟨rfl,h⟩;have H5:=q_ h;clear h HFI HT4;have HF0:=q_ (fun (i j:Int) (h1:0≤i) (h2:i<8) (h3:0≤j) (h4:j<8)=>show Bu (fun _ _=>0) 3 t 0 0 i j=cell 3 t i j by
     unfold Bu
     rw [if_pos (by show 0≤i∧i<0+8∧0≤j∧j<0+8;omega),Int.sub_zero,Int.sub_zero])
    have HFOK:=q_ (fun (i j:Int) (h1:0≤i) (h2:i<8) (h3:0≤j) (h4:j<8)=>show 0≤Bu (fun _ _=>0) 3 t 0 0 i j∧Bu (fun _ _=>0) 3 t 0 0 i j<r.S by
     rw [HF0.o i j h1 h2 h3 h4]
     exact Kl 3 HI.o.2.2.1 HI.o.2.2.2 h1 h2 h3 h4)
    have H5':=q_ (show Has W w5 (A9 r (.slice ha r.hood.length hc) (.slice na r.nodes.length nc) mb sb rb ns mm (E4 oa 8 aL (Bu (fun _ _=>0) 3 t 0 0)::E4 ob 8 bs (fun _ _=>0)::Ps)) from H5.o);clear H5;generalize Bu (fun _ _=>0) 3 t 0 0=F0 at H5' HF0 HFOK;have hrad:A3 r.hood≤2:=(by have:=HLO.o;unfold A1 at this;omega);have HRAD:=q_ hrad;clear hrad;go_wp2;go_loopw [12] (fun x' wr=>∃ (y:Nat) (G:Fld),x'=.int .i64 y∧2≤y∧y≤6∧Hid (NextSt W wr r (.slice ha r.hood.length hc) (.slice na r.nodes.length nc) mb sb rb ns mm Ps oa ob 8 aL bs F0 G 2 y 0)) (fun x _=>6 - (intOf x).toNat);case atStart=>exact⟨2,_,rfl,o_,o_,q_ ⟨H5'.o,fun i j h1 h2 h3 h4 h5=>by omega⟩⟩
    case round =>
     clear H5';obtain⟨y,G,rfl,hy1,hy3,HS⟩:=hrel;by_cases hy:y<6;·
      have hdy:decide ((y:Int)<6)=true:=u_';go_wp2;go_loopw [13] (fun x' wr=>∃ (x:Nat) (G:Fld),x'=.int .i64 x∧2≤x∧x≤6∧Hid (NextSt W wr r (.slice ha r.hood.length hc) (.slice na r.nodes.length nc) mb sb rb ns mm Ps oa ob 8 aL bs F0 G 2 y x)) (fun x _=>6 - (intOf x).toNat);case atStart=>exact⟨2,_,rfl,o_,o_,q_ ⟨HS.o.has,fun i j h1 h2 h3 h4 h5=>HS.o.done i j h1 h2 h3 h4 o_⟩⟩
      case round =>
       clear HS;obtain⟨x,G,rfl,hx1,hx3,HS⟩:=hrel;by_cases hx:x<6;·
        have hdx:decide ((x:Int)<6)=true:=u_';obtain⟨m0,m1,m2,m3,_,_,ml⟩:=mC_ HS.o.has;have HRN:=q_ (HRU.o wr _ HS.o.has (fun P hP=>by unfold A9;simp [hP]));have hnl:=K8 hR;have hhl:=G3 hR;obtain⟨wq,hwq⟩:∃ wq,wq=wr:=⟨_,rfl⟩;go_wp2;rw [← hwq] at HS HRN m0 m1 m2 m3 ml ⊢;go_loopw [14,75] (fun k' h' wl=>∃ hh:Nat,h'=.int .i64 hh∧hh≤r.hood.length∧k'=.int .i64 (down r ((r.hood.take hh).map fun p=>F0 (x+p.1) (y+p.2)))∧Fr [] wq wl) (fun _ x _=>r.hood.length - (intOf x).toNat);case atStart=>exact⟨0,rfl,o_,rfl,Fr.refl _ _⟩
        case round =>
         obtain⟨hh,rfl,hh1,rfl,hf⟩:=hrel;have Hf:=q_ hf;clear hf m0 m1 m2 m3 ml;have hs9:=HS.o.has.step Hf.o;by_cases hlt:hh<r.hood.length;·
          obtain⟨⟨ox,oy⟩,hp⟩:∃ p,r.hood[hh]?=some p:=⟨_,List.getElem?_eq_getElem hlt⟩;obtain⟨o1,o2,o3,o4⟩:=Fp (Cy hR) (List.mem_of_getElem? hp);have hrad:=HRAD.o;simp only at o1 o2 o3 o4;have b1:-2≤ox:=o_;have b2:ox≤2:=o_;have b3:-2≤oy:=o_;have b4:oy≤2:=o_;clear o1 o2 o3 o4 hrad;obtain⟨gh,oh,heh,hgh,p0,p1⟩:=(HRN.o.1.fr Hf.o).cell hp;simp only at p0 p1;have hok:=HFOK.o (x+ox) (y+oy) o_ o_ o_ o_;have hst:∀ s∈(r.hood.take hh).map (fun p=>F0 (x+p.1) (y+p.2)),0≤s∧s<r.S:=by intro s hs;obtain⟨q,hq,rfl⟩:=List.mem_map.1 hs;have hq':=Fp (Cy hR) (List.mem_of_mem_take hq);have hrad:=HRAD.o;exact HFOK.o _ _ o_ o_ o_ o_
          have hsn:=Kk r ((r.hood.take hh).map fun p=>F0 (x+p.1) (y+p.2)) (F0 (x+ox) (y+oy));rw [← Kt hp (fun p=>F0 (x+p.1) (y+p.2))] at hsn;obtain⟨k,gn,on,g2,off2,rl,rc,hk,hkl,hen,hgn,n1,hrl,hg2,n2⟩:=Nf hR (HRN.o.2.fr Hf.o) hst u_' hok.1 hok.2;obtain⟨b,hb,c0,c1,_,cl,ol⟩:=Ke hs9.fourth (y:=(y+oy).toNat) o_
          replace c1:=c1 (x+ox).toNat o_
          rw [show (((x+ox).toNat:Nat):Int)=x+ox by omega,show (((y+oy).toNat:Nat):Int)=y+oy by omega] at c1;obtain⟨m0,m1,m2,m3,_,_,ml⟩:=mC_ hs9;rw [hk] at hsn ⊢;have HSN:=q_ hsn;generalize F0 (x+ox) (y+oy)=s at c1 n2 hok HSN;obtain⟨s0,s1⟩:=hok;have e1:(0:Int)≤y+oy:=o_;have e2:(0:Int)≤x+ox:=o_;have e3:(y:Int)+oy<8:=o_;have e4:(x:Int)+ox<8:=o_;subst heh;subst hen;clear hp hst hsn hk hb hs9;go_wp2;(refine wT ?_);have s2:s<(rl:Int):=o_;clear hrl s1;go_wp2;refine sT_ rfl ?_;go_wp2;go_roundw;case rel=>exact⟨hh+1,by go_num,o_,by rw [HSN.o],by have:=Hf.o;exact Fr.t⟩
          case measure=>simp [intOf];omega
         ·have hhe:hh=r.hood.length:=o_;subst hhe;rw [List.take_length];obtain⟨b,hb,c0,c1,cf,cl,ol⟩:=Ke hs9.fifth.fourth (y:=y) o_;have c1x:=c1 x o_;have cfx:=cf x;go_wp2;go_roundw;case rel =>obtain⟨G',hG⟩:=NextSt.put HS.o Hf.o o_ hb (v:=down r (r.hood.map fun p=>F0 (x+p.1) (y+p.2))) rfl;exact⟨x+1,G',by go_num,o_,o_,q_ hG⟩
          case measure=>simp [intOf];omega
       ·obtain rfl:x=6:=o_;go_wp2;go_roundw;case rel=>exact⟨y+1,G,by go_num,o_,o_,q_ ⟨HS.o.has,fun i j h1 h2 h3 h4 h5=>HS.o.done i j h1 h2 h3 h4 o_⟩⟩
        case measure=>simp [intOf];omega
     ·obtain rfl:y=6:=o_;have hG:∀ i j:Nat,2≤i→i<6→2≤j→j<6→G i j=gen r F0 i j:=fun i j h1 h2 h3 h4=>HS.o.done i j h1 o_ h3 o_ o_;have hrad:=HRAD.o;have hE:mk 2 G ((2:Nat):Int) ((2:Nat):Int)=stp (gen r) 3 0 t:=by
       refine C9 2 fun i j h1 h2 h3 h4=>?_;rw [Ac,Ac,Gi] at h2 h4;have h5:=hG (2+i).toNat (2+j).toNat o_ o_ o_ o_;rw [show (((2+i).toNat:Nat):Int)=2+i by omega,show (((2+j).toNat:Nat):Int)=2+j by omega] at h5;refine h5.trans (Eg hR fun p q a1 a2 a3 a4=>?_);exact HF0.o _ _ o_ o_ o_ o_
      have HSQ:=q_ (squareAt_two (W:=W) (r:=r) (hv:=.slice ha r.hood.length hc) (nv:=.slice na r.nodes.length nc) (mb:=mb) (sb:=sb) (rb:=rb) (L:=L) (mm:=mm) (ob:=ob) (m:=8) (bs:=bs) (F:=G) o_ (Lu o_ (Ku o_)) wr (E4 oa 8 aL F0::Ps) ns 2 2 2 2 2 rfl rfl rfl HS.o.has.fifth Hroom.o o_ o_ (fun i j h1 h2 h3 h4=>by
       rw [hG i j h1 o_ h3 o_]
       exact gen_ok hR fun p q a1 a2 a3 a4=>HFOK.o _ _ o_ o_ o_ o_) (fun u hu=>HL.o u (hE▸hu)))
      rw [hE] at HSQ;clear hG hE hrad;go_wp2_with fail;refine HSQ.o.mono ?_;rintro e w6 ⟨res,ns',rfl,h1,h2,h3,h4⟩;have H6:=q_ (And.intro h1 (And.intro h2 (And.intro h3 h4)));clear h1 h2 h3 h4 HSQ;go_wp2;go_ret2;exact⟨res,ns',mm,rfl,H6.o.1.fourth.drop.fourth.drop,H6.o.2.1,H6.o.2.2.1,Hkept.o.grow H6.o.2.1,H6.o.2.2.2,Keeps.refl mm⟩
end Go.Proofs.YtebolidfbflkmaaGreat
namespace Go.Proofs.Mp
open Go Go.RowKit Go.MapKept

end Go.Proofs.Mp
namespace Go.Proofs.YtebolidfbflkmaaGreat
open Go Go.RowKit Rg Mp Hp Qs Ev
theorem Sw {W:World} {r:Rule} {ha na:Option Addr} {hc nc:Nat} {mb sb rb:Nat} {L:List Tr} (hR:Ar r=true) :
  ∀ n,n≤250→StepAt W r (.slice ha r.hood.length hc) (.slice na r.nodes.length nc) mb sb rb L n
 | 0,_=>by intro w Ps ns mm id k t _ _ _ _ h4;have:=D3 (Aa r.hood).1 (Aa r.hood).2;omega
 | n+1,hn=>by
  have hl:=D3 (Aa r.hood).1 (Aa r.hood).2;have ih:=Sw (W:=W) (ha:=ha) (na:=na) (hc:=hc) (nc:=nc) (L:=L) (mb:=mb) (sb:=sb) (rb:=rb) hR n o_;refine step_at o_ hR (fun e=>?_) (fun hlt=>?_);·
   rcases (show A1 (A3 r.hood)=2∨A1 (A3 r.hood)=3 by omega) with h|h
   ·obtain rfl:n=1:=o_;exact direct_four hR h
   ·obtain rfl:n=2:=o_;exact direct_eight hR h
  ·obtain⟨m,rfl⟩:∃ m,n=m+2:=⟨n - 2,o_⟩;intro w Ps ns mm id k t h hroom hkept hi hk hL hsrc;exact parts_calls h hroom hkept hi o_ hR hlt hk rfl hL ih hsrc
def Jp (r:Rule) (n:Int):Int:=if n<0∨256<n then -1 else max (n - (A1 (A3 r.hood):Nat)) (-1)
variable {W w:World}{r:Rule}{mb sb rb:Nat}{ns:List K4}{mm:List ((Int×Int)×Int)}{Ps:List Res}
theorem MMost_calls {hv nv:Value} (h:Has W w (A9 r hv nv mb sb rb ns mm Ps)) (n:Int) :
  Calls Tryz.prog 99 #[.pointer (some ⟨mb,0,none⟩),.int .i64 n] w fun e w'=>e=.returned (.int .i64 (Jp r n))∧w=w':=by
 obtain⟨_,_,_,_,_,m5,ml⟩:=mC_ h;have hl:=D3 (Aa r.hood).1 (Aa r.hood).2;clear h;generalize hlo:A1 (A3 r.hood)=lo at m5 hl;have HM:=q_ (show Jp r n=if n<0∨256<n then -1 else max (n - (lo:Nat)) (-1) by rw [← hlo];rfl);clear hlo;by_cases h1:n<0;·
  go_enter Tryz.func99,Tryz.ntmps99;go_wp2;all_goals
   go_ret;exact⟨Dy (by rw [HM.o,if_pos (.inl h1)]),rfl⟩
 ·by_cases h2:256<n;·
   go_enter Tryz.func99,Tryz.ntmps99;go_wp2;all_goals
    go_ret;exact⟨Dy (by rw [HM.o,if_pos (.inr h2)]),rfl⟩
  ·go_enter Tryz.func99,Tryz.ntmps99;go_wp2;all_goals
    go_ret;exact⟨Dy (by rw [HM.o,if_neg o_];try omega),rfl⟩
def StepEnd (W:World) (r:Rule) (hv nv:Value) (mb sb rb:Nat) (L:List Tr) (ns:List K4) (mm:List ((Int×Int)×Int)) (id k:Int) (Ps:List Res) (e:Ending) (w':World):Prop :=
 (¬ Kn r.S ns id∧e=.returned (.tuple #[.int .i64 0,.int .i64 13])∧Has W w' (A9 r hv nv mb sb rb ns mm Ps)) ∨
 (∃ n t,Is r.S ns n id t∧(k<0∨Jp r n<k)∧e=.returned (.tuple #[.int .i64 0,.int .i64 18])∧Has W w' (A9 r hv nv mb sb rb ns mm Ps)) ∨
 (∃ n t,∃ k':Nat,Is r.S ns n id t∧k=k'∧A1 (A3 r.hood)≤n∧k'≤n - A1 (A3 r.hood)∧Qd W r hv nv mb sb rb L ns mm n k' id (stp (gen r) n k' t) Ps e w')
theorem MStep_calls {ha na:Option Addr} {hc nc:Nat} {L:List Tr} (hR:Ar r=true) (hsrc:RuleSrc W (.slice ha r.hood.length hc) (.slice na r.nodes.length nc) r Ps)
  (h:Has W w (A9 r (.slice ha r.hood.length hc) (.slice na r.nodes.length nc) mb sb rb ns mm Ps)) (hroom:room r.S ns L) (hkept:Kept r ns mm) (id k:Int)
  (hL:∀ (n k':Nat) (t:Tr),Is r.S ns n id t→k=k'→A1 (A3 r.hood)≤n→k'≤n - A1 (A3 r.hood)→n≤250∧∀ u∈Da (gen r) (A1 (A3 r.hood)) n k' t,u∈L) :
  Calls Tryz.prog 55 #[.pointer (some ⟨mb,0,none⟩),.int .i64 id,.int .i64 k] w (StepEnd W r (.slice ha r.hood.length hc) (.slice na r.nodes.length nc) mb sb rb L ns mm id k Ps):=by
 have hg:=A4 h;have hlv:=Dq h id;obtain⟨_,_,_,m3,_,_,ml⟩:=mC_ h;by_cases hk:Kn r.S ns id;·
  have hi:Is r.S ns (tr r.S ns id).ht id (tr r.S ns id):=Is.of_lvl hg (G8 hg ns.length (by have:=hk.2;omega) hk);generalize (tr r.S ns id).ht=n at hi;generalize tr r.S ns id=t at hi;have hlv:=Fe h hi;have HLV:=q_ hlv;have HI:=q_ hi;have hne:((n:Int)<0)=False:=by simp
  have hlt:decide ((n:Int)<0)=false:=by simp
  clear h hlv;by_cases h0:k<0;·
   clear hroom hkept hL hi;go_enter Tryz.func55,Tryz.ntmps55;go_wp2_with fail;refine HLV.o.mono ?_;rintro e w5 ⟨rfl,h5,hf⟩;have H5:=q_ h5;clear h5 hf m3 ml;go_wp2;all_goals
    go_ret2;exact .inr (.inl ⟨n,t,HI.o,.inl h0,rfl,H5.o⟩)
  ·obtain⟨k',rfl⟩:∃ k':Nat,k=k':=⟨k.toNat,o_⟩;have hk0:((k':Int)<0)=False:=i_;have hk0':decide ((k':Int)<0)=false:=i_;have HM:=q_ (fun w1 (h1:Has W w1 (A9 r (.slice ha r.hood.length hc) (.slice na r.nodes.length nc) mb sb rb ns mm Ps))=>MMost_calls h1 n);have hl:=D3 (Aa r.hood).1 (Aa r.hood).2;by_cases hm:Jp r n<k';·
    have hmd:decide ((k':Int) > Jp r n)=true:=u_';have HM2:=q_ hm;clear hroom hkept hL hi hm hl;go_enter Tryz.func55,Tryz.ntmps55;go_wp2_with fail;refine HLV.o.mono ?_;rintro e w5 ⟨rfl,h5,hf⟩;have H5:=q_ h5;clear h5 hf m3 ml;go_wp2_with fail;refine (HM.o _ H5.o).mono ?_;rintro e w5 ⟨rfl,rfl⟩;go_wp2;all_goals
     go_ret2;exact .inr (.inl ⟨n,t,HI.o,.inr HM2.o,rfl,H5.o⟩)
   ·have hmd:decide ((k':Int) > Jp r n)=false:=u_';have hmk:A1 (A3 r.hood)≤n∧k'≤n - A1 (A3 r.hood):=by
     unfold Jp at hm;split at hm<;>omega
    obtain⟨hn,hL⟩:=hL n k' t hi rfl hmk.1 hmk.2;have HST:=q_ (fun w1 (h1:Has W w1 (A9 r (.slice ha r.hood.length hc) (.slice na r.nodes.length nc) mb sb rb ns mm Ps))=>Sw (L:=L) (mb:=mb) (sb:=sb) (rb:=rb) hR n hn w1 Ps ns mm id k' t h1 hroom hkept hi hmk.1 hmk.2 hL hsrc);have HMK:=q_ hmk;clear hroom hkept hL hi hm hl hmk;go_enter Tryz.func55,Tryz.ntmps55;go_wp2_with fail;refine HLV.o.mono ?_;rintro e w5 ⟨rfl,h5,hf⟩;have H5:=q_ h5;clear h5 hf m3 ml;go_wp2_with fail;refine (HM.o _ H5.o).mono ?_;rintro e w5 ⟨rfl,rfl⟩;go_wp2_with fail;refine (HST.o _ H5.o).mono ?_;rintro e w6 ⟨res,ns',mm',rfl,h6⟩;have H6:=q_ h6;clear h6;go_wp2;all_goals
     go_ret2;exact .inr (.inr ⟨n,t,k',HI.o,rfl,HMK.o.1,HMK.o.2,res,ns',mm',rfl,H6.o⟩)
 ·have hlt:¬ 0≤lvl r.S (A8 r.S ns) id:=fun h=>hk ((S6 hg id).1 h);generalize lvl r.S (A8 r.S ns) id=v at hlv hlt;have HLV:=q_ hlv;have hv:decide (v<0)=true:=by simp;omega
  clear h hlv hroom hkept hL hg;go_enter Tryz.func55,Tryz.ntmps55;go_wp2_with fail;refine HLV.o.mono ?_;rintro e w5 ⟨rfl,h5,hf⟩;have H5:=q_ h5;clear h5 hf m3 ml;go_wp2;all_goals
   go_ret2;exact .inl ⟨hk,rfl,H5.o⟩
end Go.Proofs.YtebolidfbflkmaaGreat
namespace Go.Proofs.Mp
open Go Go.RowKit
theorem M4 {κ:Type} [DecidableEq κ] {ν:Type} {l:List (κ×ν)} {k:κ} {v:ν} {x:κ×ν} (h:x∈put l k v):x∈l∨x=(k,v):=by
 unfold put at h;split at h;·
  rw [List.mem_iff_getElem?] at h;obtain⟨i,hi⟩:=h;rw [List.getElem?_set] at hi;split at hi;·
   split at hi;·exact .inr (Option.some.inj hi).symm
   ·cases hi
  ·exact .inl (List.mem_iff_getElem?.2 ⟨i,hi⟩)
 ·rw [List.mem_append,List.mem_singleton] at h;exact h
theorem M3 {κ:Type} [DecidableEq κ] {ν:Type} (l:List (κ×ν)) (k:κ) (v:ν):(k,v)∈put l k v:=by
 unfold put;split;·
  rename_i i hi;rw [List.idxOf?_eq_some_iff] at hi;have h1:=hi.1;rw [List.length_map] at h1;exact List.mem_iff_getElem?.2 ⟨i,by rw [List.getElem?_set_self h1]⟩
 ·simp
theorem Ma {κ:Type} [DecidableEq κ] {ν:Type} {l:List (κ×ν)} {k:κ} {v:ν} (h:get? l k=some v):(k,v)∈l:=by
 unfold get? at h;rw [Option.bind_eq_some_iff] at h;obtain⟨i,hi,h⟩:=h;rw [Option.map_eq_some_iff] at h;obtain⟨p,hp,rfl⟩:=h;rw [List.idxOf?_eq_some_iff] at hi;obtain⟨h1,h2,_⟩:=hi;have:(l.map (·.1))[i]?=some k:=by rw [List.getElem?_eq_getElem h1];simpa using h2
 rw [List.getElem?_map,hp] at this;simp only [Option.map_some,Option.some.injEq] at this;rw [← this];exact List.mem_iff_getElem?.2 ⟨i,hp⟩
end Go.Proofs.Mp
namespace Go.Proofs.Hp
open Go Go.RowKit
theorem Has.merge {W w w':World} {P Q R:Res} {Ps:List Res} (h:Has W w (P::Q::Ps)) (hc:∀ F G,P.holds w F→Q.holds w G→(∀ x∈F,x∉G)→∃ H,R.holds w' H∧Fr F w w'∧∀ x∈H,x∈F∨x∈G):Has W w' (R::Ps):=by
 obtain⟨F,⟨F1,F2,h1,⟨G1,G2,g1,g2,g3,rfl⟩,h3,rfl⟩,hf,hge⟩:=h;obtain⟨H,r1,r2,r3⟩:=hc F1 G1 h1 g1 fun x hx hx'=>h3 x hx (by simp [hx']);refine⟨H++G2,⟨H,G2,r1,g2.keep fun x hx=>r2.block x (g2.lt x hx) fun hx'=>h3 x hx' (by simp [hx]),fun x hx hx'=>?_,rfl⟩,hf.trans r2 fun x hx=>.inr (hge x (by simp [hx])),fun x hx=>?_⟩;·
  rcases r3 x hx with h|h
  ·exact h3 x h (by simp [hx'])
  ·exact g3 x h hx'
 ·rw [List.mem_append] at hx;rcases hx with hx|hx
  ·rcases r3 x hx with h|h
   ·exact hge x (by simp [h])
   ·exact hge x (by simp [h])
  ·exact hge x (by simp [hx])
end Go.Proofs.Hp
namespace Go.Proofs.YtebolidfbflkmaaGreat
open Go Go.RowKit Rg Mp Hp Qs Ev Bn
abbrev BV:=Nat×Option Addr×Nat
def bvV (p:BV):Value:=.agg #[.bool false,.slice p.2.1 (zd (p.1:Int)).length p.2.2]
def bvF (p:BV):List Nat:=if (zd (p.1:Int)).length=0 then [] else (Value.slice p.2.1 (zd (p.1:Int)).length p.2.2).ownBlock.toList
variable {w:World}{neg:Bool}{ds:List Nat}{a:Option Addr}{c:Nat}
theorem big_lt (h:BigIn w neg ds a c):∀ x∈(if ds.length=0 then [] else (Value.slice a ds.length c).ownBlock.toList),x<w.heap.size :=
 fun x hx=>(B4 neg ds a c).lt (w:=w) ⟨h,rfl⟩ x hx
theorem Mk {w':World} (h:BigIn w neg ds a c) (hk:∀ x∈(if ds.length=0 then [] else (Value.slice a ds.length c).ownBlock.toList),w'.heap[x]?=w.heap[x]?):BigIn w' neg ds a c :=
 ((B4 neg ds a c).keep (w:=w) ⟨h,rfl⟩ hk).1
def Uo (rb:Nat) (s:Int) (ns:List K4) (mm:List (Int×BV)):Res where
 holds w F:=MapIs w rb (Value.int .i64) bvV mm∧(∀ e∈mm,(e.2.1=B0 (tr s ns e.1)∧rb∉bvF e.2)∧BigIn w false (zd (e.2.1:Int)) e.2.2.1 e.2.2.2)∧F=rb::mm.flatMap fun e=>bvF e.2
 keep:=fun ⟨h1,h2,h3⟩ hk=>⟨h1.of_block (hk _ (by simp [h3])),fun e he=>⟨(h2 e he).1,Mk (h2 e he).2 fun x hx=>hk x (by rw [h3];simp only [List.mem_cons,List.mem_flatMap];exact .inr ⟨e,he,hx⟩)⟩,h3⟩
 lt:=fun ⟨h1,h2,h3⟩ x hx=>by
  rw [h3] at hx;simp only [List.mem_cons,List.mem_flatMap] at hx;rcases hx with rfl|⟨e,he,hx⟩
  ·exact h1.lt
  ·exact big_lt (h2 e he).2 x hx
variable {W:World}{s id:Int}{ns:List K4}{mm:List (Int×BV)}{V:Nat}{Ps:List Res}
theorem pop_put {rb:Nat} {q:Obj} (h:Has W w (Uo rb s ns mm::B4 false (zd (V:Int)) a c::Ps)) (hV:B0 (tr s ns id)=V)
  (hq:MapIs { w with heap:=w.heap.setIfInBounds rb q } rb (Value.int .i64) bvV (put mm id (V,a,c))):Has W { w with heap:=w.heap.setIfInBounds rb q } (Uo rb s ns (put mm id (V,a,c))::Ps):=by
 subst hV;refine h.merge fun F G hF hG hd=>?_;obtain⟨h1,h2,h3⟩:=hF;obtain⟨g1,g2⟩:=hG;have hrb:rb∈F:=by rw [h3];simp
 have hfr:Fr [rb] w { w with heap:=w.heap.setIfInBounds rb q }:=(Fr.refl [rb] w).setBlock (.inl i_) q;have hne:∀ x,x≠rb→({ w with heap:=w.heap.setIfInBounds rb q }:World).heap[x]?=w.heap[x]?:=fun x hx=>by show (w.heap.setIfInBounds rb q)[x]?=_;rw [Array.getElem?_setIfInBounds_ne (fun e=>hx e.symm)]
 refine⟨rb::(put mm id (B0 (tr s ns id),a,c)).flatMap fun e=>bvF e.2,⟨hq,fun e he=>?_,rfl⟩,hfr.mono (by simpa using hrb),fun x hx=>?_⟩;·
  rcases M4 he with h|rfl
  ·obtain⟨⟨e1,e2⟩,e3⟩:=h2 e h;exact⟨⟨e1,e2⟩,Mk e3 fun x hx=>hne x fun e=>e2 (e▸hx)⟩
  ·have hrg:rb∉G:=hd rb hrb;rw [g2] at hrg;exact⟨⟨rfl,hrg⟩,Mk g1 fun x hx=>hne x fun e=>hrg (e▸hx)⟩
 ·simp only [List.mem_cons,List.mem_flatMap] at hx;rcases hx with rfl|⟨e,he,hx⟩
  ·exact .inl hrb
  ·rcases M4 he with h|rfl
   ·left;rw [h3];simp only [List.mem_cons,List.mem_flatMap];exact .inr ⟨e,h,hx⟩
   ·right;rw [g2];exact hx
theorem J8:KeysBy Tryz.prog 3 (Value.int .i64):=KeysBy.int Tryz.underlying3
def Uv (b rb:Nat) (ob:Obj):Prop:=∃ cs ty,ob=.cells cs ty (0,0)∧cs[0]?=some (.pointer (some ⟨b,0,none⟩))∧cs[1]?=some (.map (some rb))
variable {b cb:Nat}{ob:Obj}
theorem Sk {rb:Nat} (ho:Uv b rb ob) (h:w.heap[cb]?=some ob):w.cell? ⟨cb,0,none⟩=some (.pointer (some ⟨b,0,none⟩)):=by obtain⟨cs,ty,rfl,h0,h1⟩:=ho;rw [hEC h];exact h0
theorem Sj {rb:Nat} (ho:Uv b rb ob) (h:w.heap[cb]?=some ob):w.cell? ⟨cb,1,none⟩=some (.map (some rb)):=by obtain⟨cs,ty,rfl,h0,h1⟩:=ho;rw [hEC h];exact h1
def Ks (ob:Obj) (b cb rb:Nat) (s:Int) (ns:List K4) (mm:List (Int×BV)) (Ps:List Res):List Res :=
 Uo rb s ns mm::Hp.blk cb ob::sTR b s ns::Ps
def Kq (ob:Obj) (W:World) (b cb rb:Nat) (s:Int) (ns:List K4) (id:Int) (V:Nat) (Ps:List Res) (e:Ending) (w':World):Prop :=
 ∃ a c mm',e=.returned (bvV (V,a,c))∧Has W w' (Ks ob b cb rb s ns mm' Ps)∧(id,(V,a,c))∈mm'
theorem Si {rb:Nat} (h:Has W w (Ks ob b cb rb s ns mm Ps)) (hm:(id,(V,a,c))∈mm):BigIn w false (zd (V:Int)) a c:=by obtain⟨F,_,h2,_⟩:=h.head;exact (h2 _ hm).2
theorem cnt_take {rb:Nat} (h:Has W w (Uo rb s ns mm::Ps)) (hm:(id,(V,a,c))∈mm):Has W w (B4 false (zd (V:Int)) a c::Ps) :=
 h.turn fun F ⟨_,h2,h3⟩=>⟨_,⟨(h2 _ hm).2,rfl⟩,Fr.refl _ _,fun x hx=>.inl (by rw [h3];simp only [List.mem_cons,List.mem_flatMap];exact .inr ⟨_,hm,hx⟩)⟩
def X4 (ob:Obj) (W:World) (b cb rb:Nat) (s:Int) (ns:List K4) (n:Nat):Prop :=
 ∀ (w:World) (Ps:List Res) (mm:List (Int×BV)) (id:Int) (t:Tr),Has W w (Ks ob b cb rb s ns mm Ps)→Is s ns n id t →
  Calls Tryz.prog 111 #[.pointer (some ⟨cb,0,none⟩),.int .i64 id] w (Kq ob W b cb rb s ns id (B0 t) Ps)
theorem Ng {rb:Nat} (ho:Uv b rb ob) (h:Has W w (Ks ob b cb rb s ns mm Ps)) :
  w.cell? ⟨cb,0,none⟩=some (.pointer (some ⟨b,0,none⟩))∧w.cell? ⟨cb,1,none⟩=some (.map (some rb))∧cb<w.heap.size :=
 ⟨Sk ho h.swap.blk,Sj ho h.swap.blk,lBk h.swap.blk⟩
theorem Sg {rb:Nat} (h:Has W w (Ks ob b cb rb s ns mm Ps)):MapIs w rb (Value.int .i64) bvV mm∧rb<w.heap.size∧∀ e∈mm,e.2.1=B0 (tr s ns e.1)∧BigIn w false (zd (e.2.1:Int)) e.2.2.1 e.2.2.2:=by obtain⟨F,h1,h2,_⟩:=h.head;exact⟨h1,h1.lt,fun e he=>⟨(h2 e he).1.1,(h2 e he).2⟩⟩
variable {n:Nat}{t:Tr}
theorem Oi (hn:n≤256) (h:Full n t):Zok (B0 t:Int):=by unfold Zok;rw [Int.natAbs_natCast];refine Nat.lt_of_le_of_lt (K9 h) ?_;rw [show (4:Nat)=2 ^ 2 from rfl,← Nat.pow_mul];exact Fy (a:=32) (k:=64) o_
def Cc (t:Tr):Nat→Nat
 | 0=>0
 | q+1=>Cc t q+B0 (Tr.q t q)
theorem count_hit {rb:Nat} (ho:Uv b rb ob) (h:Has W w (Ks ob b cb rb s ns mm Ps)) (hi:Is s ns n id t) {p:BV} (hg:get? mm id=some p) :
  Calls Tryz.prog 111 #[.pointer (some ⟨cb,0,none⟩),.int .i64 id] w (Kq ob W b cb rb s ns id (B0 t) Ps):=by
 obtain⟨V,a,c⟩:=p;obtain⟨hm,hml,hmv⟩:=Sg h;obtain⟨c0,c1,cl⟩:=Ng ho h;have hv:=hmv _ (Ma hg);simp only at hv;have hV:V=B0 t:=by rw [hv.1,hi.2.1]
 have HV:=q_ (And.intro hV hv.2);have HM:=q_ hm;have HG:=q_ hg;have H:=q_ h;clear h hi hg hm hmv hv hV;go_enter Tryz.func111,Tryz.ntmps111;go_wp2_with (at_lookup;refine Bc (f:=Value.int .i64) (g:=bvV) (k:=id) (z:=.agg #[.bool false,.slice none 0 0]) rfl rfl rfl rfl (HM.o.of_block (hAE _ _ _ hml)) Tryz.underlying162 J8 k_ HG.o ?_;simp only [bvV]);refine bodyPost_ret (Ai rfl (b:=w.heap.size) (x:=.bool false) (y:=.slice a (zd (V:Int)).length c) rfl ?_) rfl ⟨a,c,mm,?_,?_,?_⟩;·exact hpT
 ·rw [← HV.o.1];rfl
 ·exact H.o.step (Fr.t)
 ·rw [← HV.o.1];exact Ma HG.o
variable {P:Res}{Ys:List Res}
theorem _root_.Go.Proofs.Hp.Has.front {Xs:List Res} (h:Has W w (Xs++P::Ys)):Has W w (P::(Xs++Ys)):=h.perm List.perm_middle
variable {A B:Res}
theorem _root_.Go.Proofs.Hp.Has.f2 (h:Has W w (A::B::P::Ys)):Has W w (P::A::B::Ys):=h.front (Xs:=[A,B])
variable {C:Res}
theorem _root_.Go.Proofs.Hp.Has.f3 (h:Has W w (A::B::C::P::Ys)):Has W w (P::A::B::C::Ys):=h.front (Xs:=[A,B,C])
variable {D:Res}
theorem _root_.Go.Proofs.Hp.Has.f4 (h:Has W w (A::B::C::D::P::Ys)):Has W w (P::A::B::C::D::Ys):=h.front (Xs:=[A,B,C,D])
variable {E:Res}
theorem _root_.Go.Proofs.Hp.Has.f5 (h:Has W w (A::B::C::D::E::P::Ys)):Has W w (P::A::B::C::D::E::Ys):=h.front (Xs:=[A,B,C,D,E])
theorem _root_.Go.Proofs.Hp.Has.f6 {F:Res} (h:Has W w (A::B::C::D::E::F::P::Ys)):Has W w (P::A::B::C::D::E::F::Ys):=h.front (Xs:=[A,B,C,D,E,F])
theorem Ux {ops:Array Oper} {rest:List Oper} {o:Oper} {act:Act} {Q:Exit→Act→World→Prop} {rb:Nat} {m x u:Operand}
  (hg:o.guard=none) (ho:o.op=.mapUpdate 162 m x u) (hm:act.eval m=.map (some rb)) (hx:act.eval x=.int .i64 id) (hu:act.eval u=bvV (V,a,c)) (h:Has W w (Uo rb s ns mm::B4 false (zd (V:Int)) a c::Ps)) (hV:B0 (tr s ns id)=V)
  (hnext:∀ w',Has W w' (Uo rb s ns (put mm id (V,a,c))::Ps)→wpList Tryz.prog ops Q rest (act.put o.dst undef) w'):wpList Tryz.prog ops Q (o::rest) act w:=by
 obtain⟨F8,hM,_⟩:=h.head;exact Br (f:=Value.int .i64) (g:=bvV) (k:=id) (v:=(V,a,c)) hg ho hm hx hu hM Tryz.underlying162 J8 fun q hq=>hnext _ (pop_put h hV hq)
theorem Uz {n:Nat} {t:Tr} (h:∀ q,q<4→Full n (Tr.q t q)):∀ {q:Nat},q≤4→Cc t q≤q*4 ^ n
 | 0,_=>by simp [Cc]
 | q+1,hq=>by have:=Uz h (q:=q) o_;have:=K9 (h q o_);rw [Cc,Nat.succ_mul];omega
theorem Cm (hn:n+1≤256) (h:∀ q,q<4→Full n (Tr.q t q)) {q:Nat} (hq:q≤4):Zok ((Cc t q:Nat):Int):=by
 unfold Zok;rw [Int.natAbs_natCast];have h1:=Uz h hq;have h2:q*4 ^ n≤4 ^ (n+1):=by rw [Nat.pow_succ,Nat.mul_comm];exact Nat.mul_le_mul_left _ hq
 refine Nat.lt_of_le_of_lt (Nat.le_trans h1 h2) ?_;rw [show (4:Nat)=2 ^ 2 from rfl,← Nat.pow_mul];exact Fy (a:=32) (k:=64) o_
theorem N8 (h:BigIn w false (zd (V:Int)) a c):BigZ w (fun _=>True) (.agg #[.bool false,.slice a (zd (V:Int)).length c]) (V:Int) :=
 ⟨a,c,by rw [show decide ((V:Int)<0)=false by simp],h.len,fun _ _=>trivial,h.rd⟩
theorem count_leaf {rb:Nat} (ho:Uv b rb ob) (h:Has W w (Ks ob b cb rb s ns mm Ps)) (hi:Is s ns 0 id t) (hg:get? mm id=none) :
  Calls Tryz.prog 111 #[.pointer (some ⟨cb,0,none⟩),.int .i64 id] w (Kq ob W b cb rb s ns id (B0 t) Ps):=by
 obtain⟨h0,h1,ht⟩:=hi.zero (A4 h.third);have hp:(B0 t:Int)=min id 1:=by rw [ht];unfold B0;split<;>omega
 have HK:=q_ (fun w1 Qs (h1:Has W w1 (sTR b s ns::Qs))=>E6 h1 hi);have HT:=q_ (congrArg B0 hi.2.1);obtain⟨V,hV⟩:∃ V,B0 t=V:=⟨_,rfl⟩;rw [hV] at hp HT ⊢;have HP:=q_ hp;clear ht hi hV hp;obtain⟨hm,hml,_⟩:=Sg h;obtain⟨c0,c1,cl⟩:=Ng ho h;have HM:=q_ hm;have HG:=q_ hg;have H:=q_ h;clear hm h hg;obtain⟨z1,hz1⟩:∃ z1,min id 1=z1:=⟨_,rfl⟩;obtain⟨r4,hr4⟩:∃ r4,w.heap.size=r4:=⟨_,rfl⟩;rw [hr4] at cl hml;go_enter Tryz.func111,Tryz.ntmps111;go_wp2_with (at_lookup;refine Ad (f:=Value.int .i64) (g:=bvV) (k:=id) (z:=.agg #[.bool false,.slice none 0 0]) rfl rfl rfl rfl (HM.o.of_block (hAE _ _ _ o_)) Tryz.underlying162 J8 k_ HG.o ?_);have h1:=(hAL H.o #[.bool false,.slice none 0 0] 30);rw [hr4] at h1;refine (J5 (x:=z1) o_ o_).mono ?_;rintro e w1 ⟨v1,rfl,hb1,hf⟩;obtain⟨a1,k1,rfl,h2⟩:=Bj (h1.step (Fr.t)) hf hb1 (Bb o_ o_);clear h1 hf hb1 H HM HG c0 c1 cl hml;have hzV:z1=(V:Nat):=by rw [HP.o,hz1]
 subst hzV;have hdf:decide (((V:Nat):Int)<0)=false:=by simp
 rw [hdf] at h2 ⊢;clear hz1;obtain⟨s7,hs7⟩:∃ s7,w1.heap.size=s7:=⟨_,rfl⟩;have h3:=hAL h2 #[.bool false,.slice a1 (zd (V:Int)).length k1] 30;rw [hs7] at h3;have hcb:=h3.f4.blk;have c0:=Sk ho hcb;have c1:=Sj ho hcb;have cl:=lBk hcb;have H3:=q_ h3;clear h2 h3 hcb;go_wp2_with fail;refine (HK.o _ _ H3.o.f5).mono ?_;rintro e w2 ⟨rfl,h,hf⟩;clear hf c0 c1 cl H3 hs7;have h:=h.f2.f4;have hcb:=h.f5.blk;have c0:=Sk ho hcb;have c1:=Sj ho hcb;have cl:=lBk hcb;have hsb:=h.f3.blk;obtain⟨s0,s1,sl⟩:=l2_ hsb;have H4:=q_ h;clear h hcb hsb;go_wp2;(refine wT ?_);go_wp2_with (at_mapUpdate;refine Ux (id:=id) (V:=V) (a:=a1) (c:=k1) rfl rfl rfl rfl rfl (H4.o.step (Fr.t)) HT.o ?_);clear c0 c1 cl s0 s1 sl;intro w8 h5;have hsb:=h5.f2.blk;have hr4:=h5.f3.blk;obtain⟨s0,s1,sl⟩:=l2_ hsb;obtain⟨r0,r1⟩:=e2_ hr4;have rz0:=hEF hr4 0;have rz1:=hEF hr4 1;have rl:=lBk hr4;have H5:=q_ h5;clear h5 hsb hr4 H4;go_wp2;refine sT_ rfl ?_;go_wp2;refine bodyPost_ret (Ai rfl (b:=r4) (x:=.bool false) (y:=.slice a1 (zd (V:Int)).length k1) rfl ?_) rfl ⟨a1,k1,put mm id (V,a1,k1),rfl,?_,?_⟩;·exact (hST (hST H5.o.f3 0 (.bool false)) 1 (.slice a1 (zd (V:Int)).length k1)).blk
 ·exact ((hST (hST H5.o.f3 0 (.bool false)) 1 (.slice a1 (zd (V:Int)).length k1)).drop.f2.drop.f2).swap
 ·exact M3 _ _ _
theorem count_node {rb:Nat} (ho:Uv b rb ob) (hn:n+1≤256) (ih:X4 ob W b cb rb s ns n) (h:Has W w (Ks ob b cb rb s ns mm Ps)) (hi:Is s ns (n+1) id t) (hg:get? mm id=none) :
  Calls Tryz.prog 111 #[.pointer (some ⟨cb,0,none⟩),.int .i64 id] w (Kq ob W b cb rb s ns id (B0 t) Ps):=by
 have hgd:=A4 h.third;obtain⟨hs,_,hq⟩:=hi.node hgd;have h2s:=hgd.1;obtain⟨kk,hkk⟩:∃ kk,A0 s ns id=kk:=⟨_,rfl⟩;have HQ:=q_ (hkk▸hq);have HK:=q_ (fun w1 Qs (h1:Has W w1 (sTR b s ns::Qs))=>hkk▸Bg h1 hi);have HT:=q_ (congrArg B0 hi.2.1);have HMIN:=q_ (show min id 1=1 by omega);have hid0:0≤id:=o_
 have HI:=q_ ih;have HFu:=q_ (fun q (hq:q<4)=>show Full n (Tr.q t q) from (hi.node hgd).2.2 q hq |>.2.2.1);have hpop:B0 t=Cc t 4:=by obtain⟨i,k,_,_,_,_,_,_,ht⟩:=hi.kids hgd;rw [ht];simp only [Cc,B0,Tr.q];omega
 have HPOP:=q_ hpop;obtain⟨V,hV⟩:∃ V,B0 t=V:=⟨_,rfl⟩;rw [hV] at HT HPOP ⊢;clear hi hs hq hgd h2s hkk ih hV hpop;obtain⟨hm,hml,_⟩:=Sg h;obtain⟨c0,c1,cl⟩:=Ng ho h;have HM:=q_ hm;have HG:=q_ hg;have H:=q_ h;clear hm h hg;obtain⟨z1,hz1⟩:∃ z1,min id 1=z1:=⟨_,rfl⟩;obtain⟨r4,hr4⟩:∃ r4,w.heap.size=r4:=⟨_,rfl⟩;rw [hr4] at cl hml;go_enter Tryz.func111,Tryz.ntmps111;go_wp2_with (at_lookup;refine Ad (f:=Value.int .i64) (g:=bvV) (k:=id) (z:=.agg #[.bool false,.slice none 0 0]) rfl rfl rfl rfl (HM.o.of_block (hAE _ _ _ o_)) Tryz.underlying162 J8 k_ HG.o ?_);have h1:=(hAL H.o #[.bool false,.slice none 0 0] 30);rw [hr4] at h1;refine (J5 (x:=z1) o_ o_).mono ?_;rintro e w1 ⟨v1,rfl,hb1,hf⟩;obtain⟨a1,k1,rfl,h2⟩:=Bj (h1.step (Fr.t)) hf hb1 (Bb o_ o_);clear h1 hf hb1 H HM HG c0 c1 cl hml;obtain rfl:z1=1:=by have:=HMIN.o;omega
 have hdf:decide ((1:Int)<0)=false:=by simp
 rw [hdf] at h2 ⊢;clear hz1;obtain⟨s7,hs7⟩:∃ s7,w1.heap.size=s7:=⟨_,rfl⟩;have h3:=hAL h2.drop #[.bool false,.slice a1 (zd 1).length k1] 30;rw [hs7] at h3;have hcb:=h3.f3.blk;have c0:=Sk ho hcb;have c1:=Sj ho hcb;have cl:=lBk hcb;have H3:=q_ h3;clear h2 h3 hcb;go_wp2_with fail;refine (HK.o _ _ H3.o.f4).mono ?_;rintro e w2 ⟨rfl,h,hf⟩;clear hf c0 c1 cl H3 hs7;have H4:=q_ h;have hsb:=h.swap.blk;obtain⟨s0,s1,sl⟩:=l2_ hsb;have sz0:=hEF hsb 0;have sz1:=hEF hsb 1;clear h hsb;go_wp2_with fail;refine (J5 (x:=0) o_ o_).mono ?_;rintro e w3 ⟨v1,rfl,hb1,hf⟩;obtain⟨a2,k2,rfl,h2⟩:=Bj (H4.o.step (Fr.t)) hf hb1 (Bb o_ o_);have hd0:decide ((0:Int)<0)=false:=by simp
 rw [hd0] at h2 ⊢;have hsb:=h2.f2.blk;have hs72:s7<w2.heap.size:=sl;clear s0 s1 sl sz0 sz1;obtain⟨s0,s1,sl⟩:=l2_ hsb;have sz0:=hEF hsb 0;have sz1:=hEF hsb 1;have hj_:=(hf.block (w2.heap.size) f_' i_).trans (show _=some (.cells #[.int .i64 kk.a,.int .i64 kk.b,.int .i64 kk.c,.int .i64 kk.d] 132 (0,0)) from hpT);obtain⟨j0,j1,j2,j3,jl⟩:=l4_ hj_;have Hj:=q_ hj_;clear hj_;have H5:=q_ (show Has W w3 (Ks ob b cb rb s ns mm (B4 false (zd ((Cc t 0:Nat):Int)) a2 k2::Hp.blk s7 (.cells #[.bool false,.slice a1 (zd 1).length k1] 30 (0,0))::Hp.blk r4 (.cells #[.bool false,.slice none 0 0] 30 (0,0))::Ps)) from h2.swap.f5.f5);clear hsb h2 hf hb1 H4;go_wp2;go_loopw [38] (fun x wr=>∃ z:Int,x=.int .i64 z∧At5 (fun q=>∃ a c mm',Has W wr (Ks ob b cb rb s ns mm' (B4 false (zd ((Cc t q:Nat):Int)) a c::Hp.blk s7 (.cells #[.bool false,.slice a (zd ((Cc t q:Nat):Int)).length c] 30 (0,0))::Hp.blk r4 (.cells #[.bool false,.slice none 0 0] 30 (0,0))::Ps))) z) (fun x _=>4 - (intOf x).toNat);case atStart =>refine⟨0,rfl,.inl ⟨rfl,a2,k2,mm,?_⟩⟩;exact (hST (hST H5.o.f4 0 (.bool false)) 1 (.slice a2 (zd (0:Int)).length k2)).f4.f4.f4.f4
 case round =>
  clear H5 s0 s1 sl sz0 sz1 j0 j1 j2 j3 jl Hj;obtain⟨z,rfl,hz⟩:=hrel;rcases hz with ⟨rfl,a5,c5,mm5,h⟩|⟨rfl,a5,c5,mm5,h⟩|⟨rfl,a5,c5,mm5,h⟩|⟨rfl,a5,c5,mm5,h⟩|⟨rfl,a5,c5,mm5,h⟩
  ·have hcb:=h.swap.blk;have c0:=Sk ho hcb;have c1:=Sj ho hcb;have cl:=lBk hcb;have hsb:=h.f4.blk;obtain⟨s0,s1,sl⟩:=l2_ hsb;have H:=q_ h;clear h hcb hsb;go_wp2;refine wS [([0,1,2,3],[0]),([4,5,6,7,8],[])] ?_;(simp only [A2,pick,aq_,bq_,cq_,dq_,eq_]);go_wp2_with fail;refine (HI.o _ _ _ _ _ (H.o.step (Fr.t)) (HQ.o 0 o_)).mono ?_;rintro e w5 ⟨a6,c6,mm6,rfl,h5,hm5⟩;have hb5:=Si h5 hm5;clear c0 c1 cl s0 s1 sl;have hsb:=h5.f4.blk;obtain⟨s0,s1,sl⟩:=l2_ hsb;have sz0:=hEF hsb 0;have sz1:=hEF hsb 1;have Hsb:=q_ hsb;obtain⟨F5,hsum,_⟩:=h5.f3.head;have HSU:=q_ (N8 hsum);have HB5:=q_ (N8 hb5);have H5:=q_ h5;clear h5 hsb hsum hb5 hm5;simp only [bvV];go_wp2;refine mD_ ⟨⟨aGR (T:=30) (cs:=[.bool false,.slice a5 (zd ((Cc t 0:Nat):Int)).length c5]) rfl rfl rfl Tryz.underlying30 rfl k_ (fun j v hj=>?rng0) rfl,trivial⟩,?_⟩;case rng0 =>rw [Nat.zero_add,hEC Hsb.o,← hj];exact (Array.getElem?_toList (xs:=#[Value.bool false,.slice a5 (zd ((Cc t 0:Nat):Int)).length c5])).symm
   go_wp2_with fail;refine (Ja HSU.o HB5.o (Cm hn HFu.o o_) (Oi o_ (HFu.o 0 o_)) (by rw [← Int.natCast_add];exact Cm (q:=0+1) hn HFu.o o_)).mono ?_;rintro e w6 ⟨v7,rfl,hb7,hf⟩;rw [← Int.natCast_add] at hb7;obtain⟨a7,c7,rfl,h7⟩:=Bj (z:=((Cc t (0+1):Nat):Int)) H5.o.f3.drop hf hb7 (Cm (q:=0+1) hn HFu.o o_);rw [show decide (((Cc t (0+1):Nat):Int)<0)=false by simp] at h7 ⊢;obtain⟨S,hS⟩:∃ S,Cc t (0+1)=S:=⟨_,rfl⟩;have HE:=q_ (show Has W _ (Ks ob b cb rb s ns mm6 (B4 false (zd ((Cc t (0+1):Nat):Int)) a7 c7::Hp.blk s7 (.cells #[.bool false,.slice a7 (zd ((Cc t (0+1):Nat):Int)).length c7] 30 (0,0))::Hp.blk r4 (.cells #[.bool false,.slice none 0 0] 30 (0,0))::Ps)) from
    (hST (hST h7.f4 0 (.bool false)) 1 (.slice a7 (zd ((Cc t (0+1):Nat):Int)).length c7)).swap.f4.f4.f4)
   rw [hS] at HE h7 ⊢;have HSS:=q_ hS;have hsb:=h7.f4.blk;clear s0 s1 sl sz0 sz1 hS;obtain⟨s0,s1,sl⟩:=l2_ hsb;have sz0:=hEF hsb 0;have sz1:=hEF hsb 1;clear h7 hf hb7 hsb;go_wp2;refine mD_ ⟨trivial,sT_ rfl ?_⟩;go_wp2;go_roundw;case rel=>exact⟨1,rfl,(.inr (.inl ⟨rfl,_,_,_,(by rw [HSS.o];exact HE.o)⟩))⟩
   case measure=>simp [intOf]
  ·have hcb:=h.swap.blk;have c0:=Sk ho hcb;have c1:=Sj ho hcb;have cl:=lBk hcb;have hsb:=h.f4.blk;obtain⟨s0,s1,sl⟩:=l2_ hsb;have H:=q_ h;clear h hcb hsb;go_wp2;refine wS [([0,1,2,3],[0]),([4,5,6,7,8],[])] ?_;(simp only [A2,pick,aq_,bq_,cq_,dq_,eq_]);go_wp2_with fail;refine (HI.o _ _ _ _ _ (H.o.step (Fr.t)) (HQ.o 1 o_)).mono ?_;rintro e w5 ⟨a6,c6,mm6,rfl,h5,hm5⟩;have hb5:=Si h5 hm5;clear c0 c1 cl s0 s1 sl;have hsb:=h5.f4.blk;obtain⟨s0,s1,sl⟩:=l2_ hsb;have sz0:=hEF hsb 0;have sz1:=hEF hsb 1;have Hsb:=q_ hsb;obtain⟨F5,hsum,_⟩:=h5.f3.head;have HSU:=q_ (N8 hsum);have HB5:=q_ (N8 hb5);have H5:=q_ h5;clear h5 hsb hsum hb5 hm5;simp only [bvV];go_wp2;refine mD_ ⟨⟨aGR (T:=30) (cs:=[.bool false,.slice a5 (zd ((Cc t 1:Nat):Int)).length c5]) rfl rfl rfl Tryz.underlying30 rfl k_ (fun j v hj=>?rng1) rfl,trivial⟩,?_⟩;case rng1 =>rw [Nat.zero_add,hEC Hsb.o,← hj];exact (Array.getElem?_toList (xs:=#[Value.bool false,.slice a5 (zd ((Cc t 1:Nat):Int)).length c5])).symm
   go_wp2_with fail;refine (Ja HSU.o HB5.o (Cm hn HFu.o o_) (Oi o_ (HFu.o 1 o_)) (by rw [← Int.natCast_add];exact Cm (q:=1+1) hn HFu.o o_)).mono ?_;rintro e w6 ⟨v7,rfl,hb7,hf⟩;rw [← Int.natCast_add] at hb7;obtain⟨a7,c7,rfl,h7⟩:=Bj (z:=((Cc t (1+1):Nat):Int)) H5.o.f3.drop hf hb7 (Cm (q:=1+1) hn HFu.o o_);rw [show decide (((Cc t (1+1):Nat):Int)<0)=false by simp] at h7 ⊢;obtain⟨S,hS⟩:∃ S,Cc t (1+1)=S:=⟨_,rfl⟩;have HE:=q_ (show Has W _ (Ks ob b cb rb s ns mm6 (B4 false (zd ((Cc t (1+1):Nat):Int)) a7 c7::Hp.blk s7 (.cells #[.bool false,.slice a7 (zd ((Cc t (1+1):Nat):Int)).length c7] 30 (0,0))::Hp.blk r4 (.cells #[.bool false,.slice none 0 0] 30 (0,0))::Ps)) from
    (hST (hST h7.f4 0 (.bool false)) 1 (.slice a7 (zd ((Cc t (1+1):Nat):Int)).length c7)).swap.f4.f4.f4)
   rw [hS] at HE h7 ⊢;have HSS:=q_ hS;have hsb:=h7.f4.blk;clear s0 s1 sl sz0 sz1 hS;obtain⟨s0,s1,sl⟩:=l2_ hsb;have sz0:=hEF hsb 0;have sz1:=hEF hsb 1;clear h7 hf hb7 hsb;go_wp2;refine mD_ ⟨trivial,sT_ rfl ?_⟩;go_wp2;go_roundw;case rel=>exact⟨2,rfl,(.inr (.inr (.inl ⟨rfl,_,_,_,(by rw [HSS.o];exact HE.o)⟩)))⟩
   case measure=>simp [intOf]
  ·have hcb:=h.swap.blk;have c0:=Sk ho hcb;have c1:=Sj ho hcb;have cl:=lBk hcb;have hsb:=h.f4.blk;obtain⟨s0,s1,sl⟩:=l2_ hsb;have H:=q_ h;clear h hcb hsb;go_wp2;refine wS [([0,1,2,3],[0]),([4,5,6,7,8],[])] ?_;(simp only [A2,pick,aq_,bq_,cq_,dq_,eq_]);go_wp2_with fail;refine (HI.o _ _ _ _ _ (H.o.step (Fr.t)) (HQ.o 2 o_)).mono ?_;rintro e w5 ⟨a6,c6,mm6,rfl,h5,hm5⟩;have hb5:=Si h5 hm5;clear c0 c1 cl s0 s1 sl;have hsb:=h5.f4.blk;obtain⟨s0,s1,sl⟩:=l2_ hsb;have sz0:=hEF hsb 0;have sz1:=hEF hsb 1;have Hsb:=q_ hsb;obtain⟨F5,hsum,_⟩:=h5.f3.head;have HSU:=q_ (N8 hsum);have HB5:=q_ (N8 hb5);have H5:=q_ h5;clear h5 hsb hsum hb5 hm5;simp only [bvV];go_wp2;refine mD_ ⟨⟨aGR (T:=30) (cs:=[.bool false,.slice a5 (zd ((Cc t 2:Nat):Int)).length c5]) rfl rfl rfl Tryz.underlying30 rfl k_ (fun j v hj=>?rng2) rfl,trivial⟩,?_⟩;case rng2 =>rw [Nat.zero_add,hEC Hsb.o,← hj];exact (Array.getElem?_toList (xs:=#[Value.bool false,.slice a5 (zd ((Cc t 2:Nat):Int)).length c5])).symm
   go_wp2_with fail;refine (Ja HSU.o HB5.o (Cm hn HFu.o o_) (Oi o_ (HFu.o 2 o_)) (by rw [← Int.natCast_add];exact Cm (q:=2+1) hn HFu.o o_)).mono ?_;rintro e w6 ⟨v7,rfl,hb7,hf⟩;rw [← Int.natCast_add] at hb7;obtain⟨a7,c7,rfl,h7⟩:=Bj (z:=((Cc t (2+1):Nat):Int)) H5.o.f3.drop hf hb7 (Cm (q:=2+1) hn HFu.o o_);rw [show decide (((Cc t (2+1):Nat):Int)<0)=false by simp] at h7 ⊢;obtain⟨S,hS⟩:∃ S,Cc t (2+1)=S:=⟨_,rfl⟩;have HE:=q_ (show Has W _ (Ks ob b cb rb s ns mm6 (B4 false (zd ((Cc t (2+1):Nat):Int)) a7 c7::Hp.blk s7 (.cells #[.bool false,.slice a7 (zd ((Cc t (2+1):Nat):Int)).length c7] 30 (0,0))::Hp.blk r4 (.cells #[.bool false,.slice none 0 0] 30 (0,0))::Ps)) from
    (hST (hST h7.f4 0 (.bool false)) 1 (.slice a7 (zd ((Cc t (2+1):Nat):Int)).length c7)).swap.f4.f4.f4)
   rw [hS] at HE h7 ⊢;have HSS:=q_ hS;have hsb:=h7.f4.blk;clear s0 s1 sl sz0 sz1 hS;obtain⟨s0,s1,sl⟩:=l2_ hsb;have sz0:=hEF hsb 0;have sz1:=hEF hsb 1;clear h7 hf hb7 hsb;go_wp2;refine mD_ ⟨trivial,sT_ rfl ?_⟩;go_wp2;go_roundw;case rel=>exact⟨3,rfl,(.inr (.inr (.inr (.inl ⟨rfl,_,_,_,(by rw [HSS.o];exact HE.o)⟩))))⟩
   case measure=>simp [intOf]
  ·have hcb:=h.swap.blk;have c0:=Sk ho hcb;have c1:=Sj ho hcb;have cl:=lBk hcb;have hsb:=h.f4.blk;obtain⟨s0,s1,sl⟩:=l2_ hsb;have H:=q_ h;clear h hcb hsb;go_wp2;refine wS [([0,1,2,3],[0]),([4,5,6,7,8],[])] ?_;(simp only [A2,pick,aq_,bq_,cq_,dq_,eq_]);go_wp2_with fail;refine (HI.o _ _ _ _ _ (H.o.step (Fr.t)) (HQ.o 3 o_)).mono ?_;rintro e w5 ⟨a6,c6,mm6,rfl,h5,hm5⟩;have hb5:=Si h5 hm5;clear c0 c1 cl s0 s1 sl;have hsb:=h5.f4.blk;obtain⟨s0,s1,sl⟩:=l2_ hsb;have sz0:=hEF hsb 0;have sz1:=hEF hsb 1;have Hsb:=q_ hsb;obtain⟨F5,hsum,_⟩:=h5.f3.head;have HSU:=q_ (N8 hsum);have HB5:=q_ (N8 hb5);have H5:=q_ h5;clear h5 hsb hsum hb5 hm5;simp only [bvV];go_wp2;refine mD_ ⟨⟨aGR (T:=30) (cs:=[.bool false,.slice a5 (zd ((Cc t 3:Nat):Int)).length c5]) rfl rfl rfl Tryz.underlying30 rfl k_ (fun j v hj=>?rng3) rfl,trivial⟩,?_⟩;case rng3 =>rw [Nat.zero_add,hEC Hsb.o,← hj];exact (Array.getElem?_toList (xs:=#[Value.bool false,.slice a5 (zd ((Cc t 3:Nat):Int)).length c5])).symm
   go_wp2_with fail;refine (Ja HSU.o HB5.o (Cm hn HFu.o o_) (Oi o_ (HFu.o 3 o_)) (by rw [← Int.natCast_add];exact Cm (q:=3+1) hn HFu.o o_)).mono ?_;rintro e w6 ⟨v7,rfl,hb7,hf⟩;rw [← Int.natCast_add] at hb7;obtain⟨a7,c7,rfl,h7⟩:=Bj (z:=((Cc t (3+1):Nat):Int)) H5.o.f3.drop hf hb7 (Cm (q:=3+1) hn HFu.o o_);rw [show decide (((Cc t (3+1):Nat):Int)<0)=false by simp] at h7 ⊢;obtain⟨S,hS⟩:∃ S,Cc t (3+1)=S:=⟨_,rfl⟩;have HE:=q_ (show Has W _ (Ks ob b cb rb s ns mm6 (B4 false (zd ((Cc t (3+1):Nat):Int)) a7 c7::Hp.blk s7 (.cells #[.bool false,.slice a7 (zd ((Cc t (3+1):Nat):Int)).length c7] 30 (0,0))::Hp.blk r4 (.cells #[.bool false,.slice none 0 0] 30 (0,0))::Ps)) from
    (hST (hST h7.f4 0 (.bool false)) 1 (.slice a7 (zd ((Cc t (3+1):Nat):Int)).length c7)).swap.f4.f4.f4)
   rw [hS] at HE h7 ⊢;have HSS:=q_ hS;have hsb:=h7.f4.blk;clear s0 s1 sl sz0 sz1 hS;obtain⟨s0,s1,sl⟩:=l2_ hsb;have sz0:=hEF hsb 0;have sz1:=hEF hsb 1;clear h7 hf hb7 hsb;go_wp2;refine mD_ ⟨trivial,sT_ rfl ?_⟩;go_wp2;go_roundw;case rel=>exact⟨4,rfl,(.inr (.inr (.inr (.inr ⟨rfl,_,_,_,(by rw [HSS.o];exact HE.o)⟩))))⟩
   case measure=>simp [intOf]
  ·rw [show Cc t 4=V from HPOP.o.symm] at h;have h:=h.f5.f5.f4.f5.f4;have hcb:=h.f5.blk;have c0:=Sk ho hcb;have c1:=Sj ho hcb;have cl:=lBk hcb;have hsb:=h.f3.blk;obtain⟨s0,s1,sl⟩:=l2_ hsb;have H4:=q_ h;clear h hcb hsb;go_wp2;(refine wT ?_);go_wp2_with (at_mapUpdate;refine Ux (id:=id) (V:=V) (a:=a5) (c:=c5) rfl rfl rfl rfl rfl (H4.o.step (Fr.t)) HT.o ?_);clear c0 c1 cl s0 s1 sl;intro w8 h5;have hsb:=h5.f2.blk;have hr4:=h5.f3.blk;obtain⟨s0,s1,sl⟩:=l2_ hsb;obtain⟨r0,r1⟩:=e2_ hr4;have rz0:=hEF hr4 0;have rz1:=hEF hr4 1;have rl:=lBk hr4;have H5:=q_ h5;clear h5 hsb hr4 H4;go_wp2;refine sT_ rfl ?_;go_wp2;refine bodyPost_ret (Ai rfl (b:=r4) (x:=.bool false) (y:=.slice a5 (zd (V:Int)).length c5) rfl ?_) rfl ⟨a5,c5,put mm5 id (V,a5,c5),rfl,?_,?_⟩;·exact (hST (hST H5.o.f3 0 (.bool false)) 1 (.slice a5 (zd (V:Int)).length c5)).blk
   ·exact ((hST (hST H5.o.f3 0 (.bool false)) 1 (.slice a5 (zd (V:Int)).length c5)).drop.f2.drop.f2).swap
   ·exact M3 _ _ _
theorem count_q {rb:Nat} (ho:Uv b rb ob):∀ n:Nat,n≤256→X4 ob W b cb rb s ns n:=by
 intro n
 induction n with
 | zero =>
  intro _ w Ps mm id t h hi;cases hg:get? mm id with
  | some p=>exact count_hit ho h hi hg
  | none=>exact count_leaf ho h hi hg
 | succ n ih =>
  intro hn w Ps mm id t h hi;cases hg:get? mm id with
  | some p=>exact count_hit ho h hi hg
  | none=>exact count_node ho hn (ih o_) h hi hg
theorem zd0:zd ((0:Nat):Int)=[]:=by simp [zd,Bd]
theorem zero_in (w:World):BigIn w false (zd ((0:Nat):Int)) none 0:=by rw [zd0];exact⟨⟨rfl,none,0,rfl,fun h=>by simp at h⟩,Dig.nil,i_,i_⟩
theorem U1 (h:Has W w Ps):Has W w (B4 false (zd ((0:Nat):Int)) none 0::Ps) :=
 h.new (Fr.refl [] w) (F:=[]) ⟨zero_in w,by rw [zd0];rfl⟩ i_
theorem has_popmap (h:Has W w Ps):Has W (w.alloc (.map #[] 0)) (Uo w.heap.size s ns []::Ps) :=
 h.new (F:=[w.heap.size]) ((Fr.refl [] w).alloc _) ⟨MapIs.made w,i_,i_⟩ i_
theorem has_counter (h:Has W w (sTR b s ns::Ps)):Has W ((w.alloc (.map #[] 0)).alloc (.cells #[.pointer (some ⟨b,0,none⟩),.map (some w.heap.size)] 164 (0,0))) (Ks (.cells #[.pointer (some ⟨b,0,none⟩),.map (some w.heap.size)] 164 (0,0)) b (w.heap.size+1) w.heap.size s ns [] Ps):=by have h2:=(hAL (has_popmap (s:=s) (ns:=ns) h) #[.pointer (some ⟨b,0,none⟩),.map (some w.heap.size)] 164).swap;rw [show (w.alloc (.map #[] 0)).heap.size=w.heap.size+1 by simp] at h2;exact h2
def popQ (s:Int) (ns:List K4) (id:Int):Nat:=if lvl s (A8 s ns) id<0 then 0 else B0 (tr s ns id)
theorem Population_q (h:Has W w (sTR b s ns::Ps)) (id:Int) :
  Calls Tryz.prog 68 #[.pointer (some ⟨b,0,none⟩),.int .i64 id] w fun e w' =>
   ∃ a c,e=.returned (.tuple #[bvV (popQ s ns id,a,c),.int .i64 (kQ_ s ns id)])∧Has W w' (sTR b s ns::B4 false (zd ((popQ s ns id:Nat):Int)) a c::Ps):=by
 have hg:=A4 h;have HN:=q_ (fun w1 Qs (h1:Has W w1 (sTR b s ns::Qs))=>M6 h1 id);have H:=q_ h;unfold kQ_ at HN;unfold kQ_ popQ;by_cases h0:lvl s (A8 s ns) id<0;·
  simp only [if_pos h0] at HN ⊢;clear h hg;go_enter Tryz.func68,Tryz.ntmps68;go_wp2_with fail;have h1:=(hAL H.o #[.bool false,.slice none 0 0] 30).swap;refine (HN.o _ _ h1).mono ?_;rintro e w1 ⟨rfl,hs,hf⟩;obtain⟨r4,hr4⟩:∃ r4,w.heap.size=r4:=⟨_,rfl⟩;rw [hr4] at hs ⊢;have hr:=hs.swap.blk;obtain⟨r0,r1⟩:=e2_ hr;have rz0:=hEF hr 0;have rz1:=hEF hr 1;have rl:=lBk hr;have H1:=q_ hs;clear hs hf hr h1 hr4;go_wp2;refine bodyPost_ret (bRS rfl (b:=r4) (x:=.bool false) (y:=.slice none 0 0) rfl ?_ rfl) rfl ⟨none,0,?_,?_⟩;·exact (hST (hST H1.o.swap 0 (.bool false)) 1 (.slice none 0 0)).blk
  ·simp only [bvV,zd0];rfl
  ·exact (U1 (hST (hST H1.o.swap 0 (.bool false)) 1 (.slice none 0 0)).drop).swap
 ·simp only [if_neg h0] at HN ⊢;obtain⟨n,hn,hn256,hi⟩:=Fv hg (id:=id) o_;obtain⟨V,hV⟩:∃ V,B0 (tr s ns id)=V:=⟨_,rfl⟩;rw [hV];have HC:=q_ (fun cb rb w1 Qs mm (h1:Has W w1 (Ks (.cells #[.pointer (some ⟨b,0,none⟩),.map (some rb)] 164 (0,0)) b cb rb s ns mm Qs))=>hV▸count_q (W:=W) (ob:=.cells #[.pointer (some ⟨b,0,none⟩),.map (some rb)] 164 (0,0)) ⟨_,_,rfl,rfl,rfl⟩ n hn256 w1 Qs mm id _ h1 hi);clear h hg h0 hn hn256 hi hV;have hmm:=@run_makeMap Tryz.prog;go_enter Tryz.func68,Tryz.ntmps68;go_wp2_with fail;have h1:=(hAL H.o #[.bool false,.slice none 0 0] 30).swap;refine (HN.o _ _ h1).mono ?_;rintro e w1 ⟨rfl,hs,hf⟩;obtain⟨r4,hr4⟩:∃ r4,w.heap.size=r4:=⟨_,rfl⟩;rw [hr4] at hs ⊢;have hr:=hs.swap.blk;obtain⟨r0,r1⟩:=e2_ hr;have rz0:=hEF hr 0;have rz1:=hEF hr 1;have rl:=lBk hr;have H1:=q_ hs;clear hs hf hr h1 hr4;go_wp2_with fail;have h2:=has_counter H1.o;refine (HC.o _ _ _ _ _ h2).mono ?_;rintro e w2 ⟨a5,c5,mm5,rfl,h5,hm5⟩;have h5:=(cnt_take h5 hm5).swap.drop.f2;have hr:=h5.blk;clear r0 r1 rz0 rz1 rl h2;obtain⟨r0,r1⟩:=e2_ hr;have rz0:=hEF hr 0;have rz1:=hEF hr 1;have rl:=lBk hr;have H5:=q_ h5;clear h5 hm5 hr;simp only [bvV];go_wp2;refine bodyPost_ret (bRS rfl (b:=r4) (x:=.bool false) (y:=.slice a5 (zd (V:Int)).length c5) rfl ?_ rfl) rfl ⟨a5,c5,rfl,?_⟩;·exact (hST (hST H5.o 0 (.bool false)) 1 (.slice a5 (zd (V:Int)).length c5)).blk
  ·exact (hST (hST H5.o 0 (.bool false)) 1 (.slice a5 (zd (V:Int)).length c5)).drop.swap
open Uni
structure UP where
 r:Rule
 hv:Value
 nv:Value
 ub:Nat
 mb:Nat
 sb:Nat
 rb:Nat
 root:Int
 G:Nat
 ga:Option Addr
 gc:Nat
def L1 (U:UP):Array Value:=#[.int .i64 U.r.S,U.hv,U.nv,.pointer (some ⟨U.sb,0,none⟩),.pointer (some ⟨U.mb,0,none⟩),.int .i64 U.root,.bool false,.slice U.ga (zd (U.G:Int)).length U.gc]
def Ow (U:UP):Res:=Hp.blk U.ub (.cells (L1 U) 85 (0,0))
def A6 (U:UP) (ns:List K4) (mm:List ((Int×Int)×Int)) (Ps:List Res):List Res :=
 A9 U.r U.hv U.nv U.mb U.sb U.rb ns mm (Ow U::B4 false (zd (U.G:Int)) U.ga U.gc::Ps)
variable {U:UP}
theorem uS_ {mm:List ((Int×Int)×Int)} (h:Has W w (A6 U ns mm Ps)):Has W w (sTR U.sb U.r.S ns::Iv U.rb mm::Hp.blk U.mb (.cells (De U.r U.hv U.nv U.sb U.rb) 140 (0,0))::Ow U::B4 false (zd (U.G:Int)) U.ga U.gc::Ps):=h
theorem Of {mm:List ((Int×Int)×Int)} (h:Has W w (A6 U ns mm Ps)):Has W w (Ow U::sTR U.sb U.r.S ns::Iv U.rb mm::Hp.blk U.mb (.cells (De U.r U.hv U.nv U.sb U.rb) 140 (0,0))::B4 false (zd (U.G:Int)) U.ga U.gc::Ps):=(uS_ h).f3
theorem uC_ {mm:List ((Int×Int)×Int)} (h:Has W w (A6 U ns mm Ps)) :
  (w.cell? ⟨U.ub,0,none⟩=some (.int .i64 U.r.S)∧w.cell? ⟨U.ub,1,none⟩=some U.hv∧w.cell? ⟨U.ub,2,none⟩=some U.nv)∧w.cell? ⟨U.ub,3,none⟩=some (.pointer (some ⟨U.sb,0,none⟩))∧w.cell? ⟨U.ub,4,none⟩=some (.pointer (some ⟨U.mb,0,none⟩))∧w.cell? ⟨U.ub,5,none⟩=some (.int .i64 U.root) ∧
   (w.cell? ⟨U.ub,6,none⟩=some (.bool false)∧w.cell? ⟨U.ub,7,none⟩=some (.slice U.ga (zd (U.G:Int)).length U.gc))∧U.ub<w.heap.size:=by
 obtain⟨h1,_,h3⟩:=hCE (Of h);exact⟨⟨h1 0,h1 1,h1 2⟩,h1 3,h1 4,h1 5,⟨h1 6,h1 7⟩,h3⟩
variable {F:Fld}
theorem U6 {mm:List ((Int×Int)×Int)} (h:Has W w (A6 U ns mm Ps)) {m:Nat} (hi:Is U.r.S ns (n+1) id (mid n F)) (hF:Inside n F) (hn:n+m+1≤250) (hl:ns.length+300*m≤88000) :
  Calls Tryz.prog 52 #[.pointer (some ⟨U.ub,0,none⟩),.int .i64 id,.int .i64 m] w fun e w' =>
   ∃ x ns',e=.returned (.tuple #[.int .i64 x,.int .i64 0])∧Has W w' (A6 U ns' mm Ps)∧ns <+: ns'∧ns'.length≤ns.length+300*m∧Is U.r.S ns' (n+m+1) x (mid (n+m) F):=by
 have H0:=q_ h;have HI:=q_ hi;have HFF:=q_ hF;have HN:=q_ (And.intro hn hl);have hm6:m≤250:=o_
 clear hi hF hn hl h;go_enter Tryz.func52,Tryz.ntmps52;go_wp2;go_loopg [1,11] m (fun gg y z wr=>∃ (k:Nat) (x:Int) (ns':List K4),k≤m∧m - k≤gg∧y=.int .i64 x∧z=.int .i64 (k:Int)∧Hid (Has W wr (A6 U ns' mm Ps))∧Hid (ns <+: ns'∧ns'.length≤ns.length+300*k∧Is U.r.S ns' (n+k+1) x (mid (n+k) F)));case atStart=>exact⟨0,id,ns,o_,o_,rfl,rfl,H0,q_ ⟨List.prefix_refl _,o_,HI.o⟩⟩
 case round =>
  obtain⟨k,x,ns',hk,hgg,rfl,rfl,H,HS⟩:=hrel;clear H0;obtain⟨_,u3,_,_,_,ul⟩:=uC_ H.o;by_cases hkm:k<m;·
   obtain⟨x',ms,hq,hg',hp',hl',hi'⟩:=expand_mid (A4 (uS_ H.o)) (by have:=HN.o;have:=HS.o.2.1;omega) HS.o.2.2 (HFF.o.more o_) (by have:=HN.o;omega);have HE:=q_ (Expand_q (uS_ H.o) x);rw [hq] at HE;have HG:=q_ (And.intro hp' (And.intro hl' hi'));have hlt:k<m:=hkm;clear hq hg' hp' hl' hi' hkm;go_wp2_with fail;refine (HE.o).mono ?_;rintro e w5 ⟨rfl,h5⟩;have H5:=q_ h5;clear h5 HE u3 ul;go_wp2;go_roundg (m - (k+1));case measure=>omega
   case rel=>exact⟨k+1,x',ms,o_,Nat.le_refl _,rfl,i_,q_ H5.o,q_ ⟨HS.o.1.trans HG.o.1,by have:=HG.o.2.1;have:=HS.o.2.1;omega,by have:=HG.o.2.2;exact this⟩⟩
  ·obtain rfl:k=m:=o_;go_wp2;go_ret2;first|exact⟨x,ns',rfl,H.o,HS.o⟩|exact⟨x,rfl,ns',H.o,HS.o⟩
theorem centre_u {mm:List ((Int×Int)×Int)} (h:Has W w (A6 U ns mm Ps)) (hi:Is U.r.S ns 206 id (mid 205 F)) (hl:ns.length≤89000) :
  Calls Tryz.prog 57 #[.pointer (some ⟨U.ub,0,none⟩),.int .i64 id] w fun e w' =>
   ∃ x ns',e=.returned (.tuple #[.int .i64 x,.int .i64 0])∧Has W w' (A6 U ns' mm Ps)∧ns <+: ns'∧ns'.length≤ns.length+5∧Is U.r.S ns' 201 x (mid 200 F):=by
 have H0:=q_ h;have HI:=q_ hi;have HN:=q_ hl;clear hi hl h;go_enter Tryz.func57,Tryz.ntmps57;go_wp2;go_loopg [1,8] 5 (fun gg y z wr=>∃ (k j:Nat) (x:Int) (ns':List K4),k+j=5∧j≤gg∧y=.int .i64 x∧z=.int .i64 (k:Int)∧Hid (Has W wr (A6 U ns' mm Ps))∧Hid (ns <+: ns'∧ns'.length≤ns.length+k∧Is U.r.S ns' (201+j) x (mid (200+j) F)));case atStart=>exact⟨0,5,id,ns,o_,o_,rfl,rfl,H0,q_ ⟨List.prefix_refl _,o_,HI.o⟩⟩
 case round =>
  obtain⟨k,j,x,ns',hk,hgg,rfl,rfl,H,HS⟩:=hrel;clear H0;obtain⟨_,u3,_,_,_,ul⟩:=uC_ H.o;rcases j with _|j
  ·obtain rfl:k=5:=o_;go_wp2;go_ret2;first|exact⟨x,ns',rfl,H.o,HS.o⟩|exact⟨x,rfl,ns',H.o,HS.o⟩
  ·obtain⟨x',ms,hq,hg',hp',hl',hi'⟩:=centre_mid (n:=200+j) (A4 (uS_ H.o)) (by have:=HN.o;have:=HS.o.2.1;omega) (by have:=HS.o.2.2;rwa [show 201+(j+1)=200+j+2 by omega] at this) o_;have HE:=q_ (Centre_q (uS_ H.o) x);rw [hq] at HE;have HG:=q_ (And.intro hp' (And.intro hl' hi'));have hlt:k<5:=o_;clear hq hg' hp' hl' hi';go_wp2_with fail;refine (HE.o).mono ?_;rintro e w5 ⟨rfl,h5⟩;have H5:=q_ h5;clear h5 HE u3 ul;go_wp2;go_roundg j;case measure=>omega
   case rel=>exact⟨k+1,j,x',ms,o_,Nat.le_refl _,rfl,i_,q_ H5.o,q_ ⟨HS.o.1.trans HG.o.1,by have:=HG.o.2.1;have:=HS.o.2.1;omega,by have:=HG.o.2.2;rwa [show 200+j+1=201+j by omega] at this⟩⟩
variable {u p q:Value}
theorem try_set {s t:Value} {Q:Int→World→Prop}
  (hc:Calls Tryz.prog 93 #[.int .i64 id,p,q,s,t] w fun e w'=>∃ r,e=.returned (.tuple #[.int .i64 r,.int .i64 0])∧Q r w') :
  Calls Tryz.prog 50 #[u,.int .i64 id,.func (.func 93) #[] #[p,q,s,t]] w fun e w'=>∃ r,e=.returned (.tuple #[.int .i64 r,.int .i64 0])∧Q r w':=by
 have HC:=q_ hc;clear hc;go_enter Tryz.func50,Tryz.ntmps50;go_wp2_with fail;refine HC.o.mono ?_;rintro e w1 ⟨r,rfl,hQ⟩;have HQ:=q_ hQ;clear hQ HC;go_wp2;go_ret2;first|exact⟨r,rfl,HQ.o⟩|exact HQ.o
theorem try_run1 {Q:Int→World→Prop}
  (hc:Calls Tryz.prog 51 #[.int .i64 id,p] w fun e w'=>∃ r,e=.returned (.tuple #[.int .i64 r,.int .i64 0])∧Q r w') :
  Calls Tryz.prog 50 #[u,.int .i64 id,.func (.func 51) #[] #[p]] w fun e w'=>∃ r,e=.returned (.tuple #[.int .i64 r,.int .i64 0])∧Q r w':=by
 have HC:=q_ hc;clear hc;go_enter Tryz.func50,Tryz.ntmps50;go_wp2_with fail;refine HC.o.mono ?_;rintro e w1 ⟨r,rfl,hQ⟩;have HQ:=q_ hQ;clear hQ HC;go_wp2;go_ret2;first|exact⟨r,rfl,HQ.o⟩|exact HQ.o
theorem try_run2 {Q:Int→World→Prop}
  (hc:Calls Tryz.prog 54 #[.int .i64 id,p,q] w fun e w'=>∃ r,e=.returned (.tuple #[.int .i64 r,.int .i64 0])∧Q r w') :
  Calls Tryz.prog 50 #[u,.int .i64 id,.func (.func 54) #[] #[p,q]] w fun e w'=>∃ r,e=.returned (.tuple #[.int .i64 r,.int .i64 0])∧Q r w':=by
 have HC:=q_ hc;clear hc;go_enter Tryz.func50,Tryz.ntmps50;go_wp2_with fail;refine HC.o.mono ?_;rintro e w1 ⟨r,rfl,hQ⟩;have HQ:=q_ hQ;clear hQ HC;go_wp2;go_ret2;first|exact⟨r,rfl,HQ.o⟩|exact HQ.o
theorem try_centre {Q:Int→World→Prop}
  (hc:Calls Tryz.prog 57 #[p,.int .i64 id] w fun e w'=>∃ r,e=.returned (.tuple #[.int .i64 r,.int .i64 0])∧Q r w') :
  Calls Tryz.prog 50 #[u,.int .i64 id,.func (.func 57) #[p] #[]] w fun e w'=>∃ r,e=.returned (.tuple #[.int .i64 r,.int .i64 0])∧Q r w':=by
 have HC:=q_ hc;clear hc;go_enter Tryz.func50,Tryz.ntmps50;go_wp2_with fail;refine HC.o.mono ?_;rintro e w1 ⟨r,rfl,hQ⟩;have HQ:=q_ hQ;clear hQ HC;go_wp2;go_ret2;first|exact⟨r,rfl,HQ.o⟩|exact HQ.o
end Go.Proofs.YtebolidfbflkmaaGreat
namespace Go.Proofs.YtebolidfbflkmaaGreat
open Go Go.RowKit Rg Mp Hp Qs Ev Bn Uni
variable {W w:World}{U:UP}{ns:List K4}{mm:List ((Int×Int)×Int)}{Ps:List Res}
theorem uH_ (h:Has W w (A6 U ns mm Ps)) :
  w.heap[U.ub]?=some (.cells #[.int .i64 U.r.S,U.hv,U.nv,.pointer (some ⟨U.sb,0,none⟩),.pointer (some ⟨U.mb,0,none⟩),.int .i64 U.root,.bool false,.slice U.ga (zd (U.G:Int)).length U.gc] 85 (0,0)):=(Of h).blk
theorem R9 {A B P:Res} (h:Has W w (P::A::B::Ps)):Has W w (P::Ps):=h.swap.drop.swap.drop
def bZ_ (W:World) (Ps:List Res) (v:Value) (x:Int):Prop:=∀ w Qs,Has W w Qs→(∀ P∈Ps,P∈Qs)→BigZ w (fun _=>True) v x
theorem ab_ {P:Program} {ops:Array Oper} {k:Nat} {o:Oper} {a:Act} {T:TypeId} {x:Operand} {b:Nat} {p q:Value} {d:TypeDesc} (hk:ops[k]?=some o) (ho:o.op=.load T x)
  (hx:a.eval x=.pointer (some ⟨b,0,none⟩)) (hT:P.underlying T=some d) (hd:d.isRow=true) (hi:(P.info? T).map (·.size)=some 2) {T':TypeId} (h:w.heap[b]?=some (.cells #[p,q] T' (0,0)))
  (hv:(a.put o.dst (.agg #[p,q])).tmps=a.tmps):again P ops k a w :=
 aGR (cs:=[p,q]) hk ho hx hT hd hi (fun j v hj=>by rw [Nat.zero_add,hEC h,← hj];exact (Array.getElem?_toList (xs:=#[p,q])).symm) hv
variable {id x y st R:Int}{F:Fld}
theorem set1_u (h:Has W w (A6 U ns mm Ps)) (hi:Is U.r.S ns 201 id (mid 200 F)) (hl:ns.length≤88000) (hR:((2 ^ 200:Nat):Int)=R)
  (hx:inV R x) (hy:inV R y) (zx:Zok x) (zy:Zok y) (h0:0≤st) (h1:st<U.r.S) {a1 a2:Option Addr} {c1 c2:Nat} (bx:BigZ w (fun _=>True) (.agg #[.bool (decide (x<0)),.slice a1 (zd x).length c1]) x) (by':BigZ w (fun _=>True) (.agg #[.bool (decide (y<0)),.slice a2 (zd y).length c2]) y) {ux xb yb sb:Nat}
  (k0:w.heap[ux]?=some (.cells #[.pointer (some ⟨U.ub,0,none⟩)] 44 (0,0))) (k1:w.heap[xb]?=some (.cells #[.bool (decide (x<0)),.slice a1 (zd x).length c1] 30 (0,0)))
  (k2:w.heap[yb]?=some (.cells #[.bool (decide (y<0)),.slice a2 (zd y).length c2] 30 (0,0))) (k3:w.heap[sb]?=some (.cells #[.int .i64 st] 3 (0,0))) :
  Calls Tryz.prog 93 #[.int .i64 id,.pointer (some ⟨ux,0,none⟩),.pointer (some ⟨xb,0,none⟩),.pointer (some ⟨yb,0,none⟩),.pointer (some ⟨sb,0,none⟩)] w fun e w' =>
   ∃ id',e=.returned (.tuple #[.int .i64 id',.int .i64 0])∧∃ ns',Has W w' (A6 U ns' mm Ps)∧ns <+: ns'∧ns'.length≤ns.length+201∧Is U.r.S ns' 201 id' (mid 200 (Um F x y st)):=by
 have hRp:p2 200=R:=hR;have hzR:Zok R:=hR▸Bh (n:=200) o_;have hz1:Zok (x+R):=by
  have:=Bh (n:=201) o_;refine E7 this ?_;have e:((2 ^ 201:Nat):Int)=R+R:=by rw [← hRp];exact Ac 200
  unfold inV at hx;omega
 have hz2:Zok (y+R):=by
  have:=Bh (n:=201) o_;refine E7 this ?_;have e:((2 ^ 201:Nat):Int)=R+R:=by rw [← hRp];exact Ac 200
  unfold inV at hy;omega
 obtain⟨id',ms,hq,hg',hp',hl',hi'⟩:=change_mid (n:=200) (A4 (uS_ h)) o_ hi o_ (x:=x) (y:=y) (st:=st) (by rw [hRp];exact hx) (by rw [hRp];exact hy) (by rw [hRp];exact hz1) (by rw [hRp];exact hz2) h0 h1;rw [hRp] at hq;have HG:=q_ (And.intro hp' (And.intro hl' hi'));have HPW:=q_ (fun w1=>(hR▸Dz w1 (k:=200) (H:=2 ^ 200) rfl o_:Calls Tryz.prog 49 #[.int .i64 200] w1 (D2 w1 R)));have HP1:=q_ (fun w1 (hf:Fr [] w w1) (A:Nat→Prop) v (hv:BigZ w1 A v R)=>Co (bx.fr0 hf) hv zx hzR hz1);have HP2:=q_ (fun w1 (hf:Fr [] w w1) (A:Nat→Prop) v (hv:BigZ w1 A v R)=>Co (by'.fr0 hf) hv zy hzR hz2);have HZ:=q_ (And.intro hz1 hz2);have H:=q_ h;have HQ:=q_ hq;have Hu:=q_ (uH_ h);have Ha:=q_ k0;have Hx:=q_ k1;have Hy:=q_ k2;have Hs:=q_ k3;clear hRp hzR hz1 hz2 hq hg' hp' hl' hi' bx by' h k0 k1 k2 k3 hi hl hx hy zx zy h0 h1 hR;have u3:=hEC Hu.o 3;have ul:=lBk Hu.o;have a0:=hEC Ha.o 0;have al:=lBk Ha.o;have x0:=hEC Hx.o 0;have x1:=hEC Hx.o 1;have xl:=lBk Hx.o;have y0:=hEC Hy.o 0;have y1:=hEC Hy.o 1;have yl:=lBk Hy.o;have s0:=hEC Hs.o 0;have sl:=lBk Hs.o;go_enter Tryz.func93,Tryz.ntmps93;go_wp2;refine wS [([0,1,2,3,4,5,8,11,6],[0,3,5,8,11]),([7],[0,3,8,11]),([9],[0,3,8,11]),([10],[0,3,11]),([12,13,14,15,16],[])] ?_;(simp only [A2,pick,aq_,bq_,cq_,dq_,eq_]);go_wp2_with fail;refine (HPW.o _).mono ?_;rintro e w1 ⟨v1,rfl,hb1,hf⟩;(try clear u0 u1 u2 u3 u4 u5 u6 u7 ul);have hu_:=tk hf Hu;clear Hu;obtain⟨u0,u1,u2,u3,u4,u5,u6,u7,ul⟩:=l8_ hu_;have Hu:=q_ hu_;clear hu_;(try clear a0 al);have ha_:=tk hf Ha;clear Ha;have a0:=hEC ha_ 0;have al:=lBk ha_;have Ha:=q_ ha_;clear ha_;(try clear x0 x1 xl);have hx_:=tk hf Hx;clear Hx;obtain⟨x0,x1,xl⟩:=l2_ hx_;have Hx:=q_ hx_
 clear hx_;(try clear y0 y1 yl);have hy_:=tk hf Hy;clear Hy;obtain⟨y0,y1,yl⟩:=l2_ hy_;have Hy:=q_ hy_;clear hy_;(try clear s0 sl);have hs_:=tk hf Hs;clear Hs;have s0:=hEC hs_ 0;have sl:=lBk hs_;have Hs:=q_ hs_;clear hs_;have Hf1:=q_ (Fr.trans0 (Fr.t:Fr [] w _) hf);have HQ1:=q_ (HP1.o _ Hf1.o _ _ hb1);clear hf hb1;go_wp2;refine mD_ ⟨⟨ac_ (T:=44) rfl rfl rfl Tryz.underlying44 rfl a0 rfl,
  ac_ (T:=82) rfl rfl rfl Tryz.underlying82 rfl u3 rfl,
  ab_ (T:=30) rfl rfl rfl Tryz.underlying30 rfl k_ Hx.o rfl,
  ab_ (T:=30) rfl rfl rfl Tryz.underlying30 rfl k_ Hy.o rfl,
  ac_ (T:=3) rfl rfl rfl Tryz.underlying3 rfl s0 rfl,trivial⟩,?_⟩
 go_wp2_with fail;refine HQ1.o.mono ?_;rintro e w2 ⟨v2,rfl,hb2,hf⟩;(try clear u0 u1 u2 u3 u4 u5 u6 u7 ul);have hu_:=tk hf Hu;clear Hu;obtain⟨u0,u1,u2,u3,u4,u5,u6,u7,ul⟩:=l8_ hu_;have Hu:=q_ hu_;clear hu_;(try clear a0 al);have ha_:=tk hf Ha;clear Ha;have a0:=hEC ha_ 0;have al:=lBk ha_;have Ha:=q_ ha_;clear ha_;(try clear x0 x1 xl);have hx_:=tk hf Hx;clear Hx;obtain⟨x0,x1,xl⟩:=l2_ hx_;have Hx:=q_ hx_;clear hx_;(try clear y0 y1 yl);have hy_:=tk hf Hy;clear Hy;obtain⟨y0,y1,yl⟩:=l2_ hy_;have Hy:=q_ hy_;clear hy_;(try clear s0 sl);have hs_:=tk hf Hs;clear Hs;have s0:=hEC hs_ 0;have sl:=lBk hs_;have Hs:=q_ hs_;clear hs_;have Hf2:=q_ (Hf1.o.trans0 hf);obtain⟨p1,q1,rfl,h2⟩:=Bj (H.o.step Hf1.o) hf hb2 HZ.o.1;have H2:=q_ h2;clear hf hb2 h2 HQ1;go_wp2;refine mD_ ⟨⟨ac_ (T:=44) rfl rfl rfl Tryz.underlying44 rfl a0 rfl,
  ac_ (T:=82) rfl rfl rfl Tryz.underlying82 rfl u3 rfl,
  ab_ (T:=30) rfl rfl rfl Tryz.underlying30 rfl k_ Hy.o rfl,
  ac_ (T:=3) rfl rfl rfl Tryz.underlying3 rfl s0 rfl,trivial⟩,?_⟩
 go_wp2_with fail;refine (HPW.o _).mono ?_;rintro e w3 ⟨v3,rfl,hb3,hf⟩;(try clear u0 u1 u2 u3 u4 u5 u6 u7 ul);have hu_:=tk hf Hu;clear Hu;obtain⟨u0,u1,u2,u3,u4,u5,u6,u7,ul⟩:=l8_ hu_;have Hu:=q_ hu_;clear hu_;(try clear a0 al);have ha_:=tk hf Ha;clear Ha;have a0:=hEC ha_ 0;have al:=lBk ha_;have Ha:=q_ ha_;clear ha_;(try clear x0 x1 xl);have hx_:=tk hf Hx;clear Hx;obtain⟨x0,x1,xl⟩:=l2_ hx_;have Hx:=q_ hx_;clear hx_;(try clear y0 y1 yl);have hy_:=tk hf Hy;clear Hy;obtain⟨y0,y1,yl⟩:=l2_ hy_;have Hy:=q_ hy_;clear hy_;(try clear s0 sl);have hs_:=tk hf Hs;clear Hs;have s0:=hEC hs_ 0;have sl:=lBk hs_;have Hs:=q_ hs_;clear hs_;have Hf3:=q_ (Hf2.o.trans0 hf);have HQ3:=q_ (HP2.o _ Hf3.o _ _ hb3);have H3:=q_ (H2.o.step hf);clear hf hb3;go_wp2;refine mD_ ⟨⟨ac_ (T:=44) rfl rfl rfl Tryz.underlying44 rfl a0 rfl,
  ac_ (T:=82) rfl rfl rfl Tryz.underlying82 rfl u3 rfl,
  ab_ (T:=30) rfl rfl rfl Tryz.underlying30 rfl k_ Hy.o rfl,
  ac_ (T:=3) rfl rfl rfl Tryz.underlying3 rfl s0 rfl,trivial⟩,?_⟩
 go_wp2_with fail;refine HQ3.o.mono ?_;rintro e w4 ⟨v4,rfl,hb4,hf⟩;(try clear u0 u1 u2 u3 u4 u5 u6 u7 ul);have hu_:=tk hf Hu;clear Hu;obtain⟨u0,u1,u2,u3,u4,u5,u6,u7,ul⟩:=l8_ hu_;have Hu:=q_ hu_;clear hu_;(try clear a0 al);have ha_:=tk hf Ha;clear Ha;have a0:=hEC ha_ 0;have al:=lBk ha_;have Ha:=q_ ha_;clear ha_;(try clear x0 x1 xl);have hx_:=tk hf Hx;clear Hx;obtain⟨x0,x1,xl⟩:=l2_ hx_;have Hx:=q_ hx_;clear hx_;(try clear y0 y1 yl);have hy_:=tk hf Hy;clear Hy;obtain⟨y0,y1,yl⟩:=l2_ hy_;have Hy:=q_ hy_;clear hy_;(try clear s0 sl);have hs_:=tk hf Hs;clear Hs;have s0:=hEC hs_ 0;have sl:=lBk hs_;have Hs:=q_ hs_;clear hs_;obtain⟨p2,q2,rfl,h4⟩:=Bj H3.o hf hb4 HZ.o.2;have h5:=(Has.f2 h4);have HS:=q_ (Set_q h5 id (BigSrc.thing (neg:=decide (x+R<0)) (ds:=zd (x+R)) (a:=p1) (c:=q1) i_) (BigSrc.thing (neg:=decide (y+R<0)) (ds:=zd (y+R)) (a:=p2) (c:=q2) i_) st);rw [HQ.o] at HS;clear hf hb4 h4 h5 HQ3;go_wp2;refine mD_ ⟨⟨ac_ (T:=44) rfl rfl rfl Tryz.underlying44 rfl a0 rfl,
  ac_ (T:=82) rfl rfl rfl Tryz.underlying82 rfl u3 rfl,
  ac_ (T:=3) rfl rfl rfl Tryz.underlying3 rfl s0 rfl,trivial⟩,?_⟩
 go_wp2_with fail;refine HS.o.mono ?_;rintro e w5 ⟨rfl,h5⟩;have H5:=q_ (R9 h5);clear h5 HS;go_wp2;refine mD_ ⟨trivial,sT_ rfl ?_⟩;go_wp2;go_ret2;first|exact⟨id',rfl,ms,H5.o,HG.o⟩|exact⟨ms,H5.o,HG.o⟩
theorem set_u (h:Has W w (A6 U ns mm Ps)) (hi:Is U.r.S ns 201 id (mid 200 F)) (hl:ns.length≤88000) (hR:((2 ^ 200:Nat):Int)=R)
  (hx:inV R x) (hy:inV R y) (zx:Zok x) (zy:Zok y) (h0:0≤st) (h1:st<U.r.S) {A B:Nat→Prop} {va vb:Value} (bx:BigZ w A va x) (by':BigZ w B vb y) :
  Calls Tryz.prog 47 #[.pointer (some ⟨U.ub,0,none⟩),.int .i64 id,va,vb,.int .i64 st] w fun e w' =>
   ∃ id',e=.returned (.tuple #[.int .i64 id',.int .i64 0])∧∃ ns',Has W w' (A6 U ns' mm Ps)∧ns <+: ns'∧ns'.length≤ns.length+201∧Is U.r.S ns' 201 id' (mid 200 (Um F x y st)):=by
 have bx:=bx.mono (B:=fun _=>True) fun _ _=>trivial;have by':=by'.mono (B:=fun _=>True) fun _ _=>trivial;obtain⟨a1,c1,rfl,hh1⟩:=_root_.id bx;obtain⟨a2,c2,rfl,hh2⟩:=_root_.id by';clear hh1 hh2;have HX:=q_ bx;have HY:=q_ by';have H:=q_ h;have HI:=q_ (And.intro hi (And.intro hl (And.intro hR (And.intro hx (And.intro hy (And.intro zx (And.intro zy (And.intro h0 h1))))))));clear bx by' h hi hl hR hx hy zx zy h0 h1;go_enter Tryz.func47,Tryz.ntmps47;go_wp2_with fail;refine (try_set (set1_u (H.o.step (Fr.t)) HI.o.1 HI.o.2.1 HI.o.2.2.1 HI.o.2.2.2.1 HI.o.2.2.2.2.1 HI.o.2.2.2.2.2.1 HI.o.2.2.2.2.2.2.1 HI.o.2.2.2.2.2.2.2.1 HI.o.2.2.2.2.2.2.2.2 (HX.o.fr0 (Fr.t)) (HY.o.fr0 (Fr.t)) ?k0 ?k1 ?k2 ?k3)).mono ?_;case k0=>(repeat first|rw [if_pos o_]|rw [if_neg o_]|rw [hDR]|rw [hDN]|rw [hAz]|rw [hSz]|rw [hAC]|rw [hSC]|rw [oMS]|rw [uPC]|rw [lSZ]|rw [lSS]|rfl)
 case k1=>(repeat first|rw [if_pos o_]|rw [if_neg o_]|rw [hDR]|rw [hDN]|rw [hAz]|rw [hSz]|rw [hAC]|rw [hSC]|rw [oMS]|rw [uPC]|rw [lSZ]|rw [lSS]|rfl)
 case k2=>(repeat first|rw [if_pos o_]|rw [if_neg o_]|rw [hDR]|rw [hDN]|rw [hAz]|rw [hSz]|rw [hAC]|rw [hSC]|rw [oMS]|rw [uPC]|rw [lSZ]|rw [lSS]|rfl)
 case k3=>(repeat first|rw [if_pos o_]|rw [if_neg o_]|rw [hDR]|rw [hDN]|rw [hAz]|rw [hSz]|rw [hAC]|rw [hSC]|rw [oMS]|rw [uPC]|rw [lSZ]|rw [lSS]|rfl)
 rintro e w1 ⟨id',rfl,h1⟩;have H1:=q_ h1;clear h1;go_wp2;go_ret2;first|exact⟨id',rfl,H1.o⟩|exact H1.o
end Go.Proofs.YtebolidfbflkmaaGreat
namespace Go.Proofs.Hp
open Go Go.RowKit
theorem wpList_makeK {P:Program} {ops:Array Oper} {rest:List Oper} {o:Oper} {a:Act} {W:World} {Q:Exit→Act→World→Prop} (hgd:o.guard=none) {l c:Operand} {t e:TypeId} (ho:o.op=.makeSlice t l c) {n:Nat}
  (hl:a.eval l=.int .i64 n) (hc:a.eval c=.int .i64 n) {z:Value} {k bytes:Nat} (ht:P.underlying t=some (.slice e)) (hinfo:(P.info? e).map (fun i=>(i.zero,i.size,i.bytes))=some (some z,k,bytes))
  (hb:bytes*n≤281474976710656) (h63:n≤maxLen)
  (h:∀ w' xs,w'.ownsRow W.heap.size e k (.slice (some ⟨W.heap.size,0,none⟩) n n) n xs→Fr [] W w'→W.heap.size<w'.heap.size→wpList P ops Q rest (a.put o.dst (.slice (some ⟨W.heap.size,0,none⟩) n n)) w'):wpList P ops Q (o::rest) a W:=by
 obtain⟨i,hi,hz0,hz1,hz2⟩:=info_parts hinfo;obtain⟨w',hr,ho',hg⟩:=run_make_full W W.heap.size t e i z k ht hi hz0 hz1 .i64 .i64 n (by rw [hz2];exact hb) h63 (Nat.le_refl _) (P:=P);refine Mp.wpList_run hgd (w':=w') (v:=.slice (some ⟨W.heap.size,0,none⟩) n n) ?_ (h w' _ ho' ((Fr.refl _ _).grown hg i_) (oLT ho' rfl));unfold execOp;simp only [ho,hl,hc,Sem.run_bind,hr,Result.andThen_ok];rfl
end Go.Proofs.Hp
namespace Go.Proofs.YtebolidfbflkmaaGreat
open Go Go.RowKit Rg Mp Hp Qs Ev Bn Uni
def ZIn (w:World) (F:List Nat) (v:Value) (z:Int):Prop:=∃ a c G,v=.agg #[.bool (decide (z<0)),.slice a (zd z).length c]∧(B4 (decide (z<0)) (zd z) a c).holds w G∧∀ x∈G,x∈F
def zp_ (L:List (Value×Int)):Res where
 holds w F:=(∀ e∈L,ZIn w F e.1 e.2)∧∀ x∈F,x<w.heap.size
 keep:=fun {w w' F} ⟨h1,h2⟩ hk=>⟨fun e he=>by
   obtain⟨a,c,G,h3,h4,h5⟩:=h1 e he
   exact⟨a,c,G,h3,(B4 _ _ a c).keep h4 fun x hx=>hk x (h5 x hx),h5⟩,fun x hx=>by
  obtain⟨o,ho⟩:∃ o,w.heap[x]?=some o:=⟨_,Array.getElem?_eq_getElem (h2 x hx)⟩
  exact lBk ((hk x hx).trans ho)⟩
 lt:=fun ⟨_,h2⟩=>h2
variable {W w:World}{Ps:List Res}
theorem Ah (h:Has W w Ps):Has W w (zp_ []::Ps):=h.new (Fr.refl [] w) (F:=[]) ⟨i_,i_⟩ i_
theorem zi_ {L:List (Value×Int)} (h:Has W w Ps) (hm:zp_ L∈Ps) {e:Value×Int} (he:e∈L):BigZ w (fun _=>True) e.1 e.2:=by obtain⟨F,h1,_⟩:=M9 h hm;obtain⟨a,c,G,h3,h4,h5⟩:=h1 e he;obtain⟨⟨k1,k2,k3,k4⟩,k5⟩:=h4;exact⟨a,c,h3,k3,fun _ _=>trivial,k1⟩
variable {z:Int}
theorem zpool_add {L:List (Value×Int)} {a:Option Addr} {c:Nat} (h:Has W w (B4 (decide (z<0)) (zd z) a c::zp_ L::Ps)) :
  Has W w (zp_ ((.agg #[.bool (decide (z<0)),.slice a (zd z).length c],z)::L)::Ps) :=
 h.merge fun F G hF hG hd=>by
  obtain⟨g1,g2⟩:=hG;refine⟨F++G,⟨fun e he=>?_,fun x hx=>?_⟩,Fr.refl _ _,fun x hx=>List.mem_append.1 hx⟩;·
   rw [List.mem_cons] at he;rcases he with rfl|he
   ·exact⟨a,c,F,rfl,hF,fun x hx=>List.mem_append.2 (.inl hx)⟩
   ·obtain⟨a',c',G',h3,h4,h5⟩:=g1 e he;exact⟨a',c',G',h3,h4,fun x hx=>List.mem_append.2 (.inr (h5 x hx))⟩
  ·rw [List.mem_append] at hx;rcases hx with hx|hx
   ·exact (B4 _ _ a c).lt hF x hx
   ·exact g2 x hx
theorem zm_ {w':World} {L:List (Value×Int)} {v:Value} (h:Has W w (zp_ L::Ps)) (hf:Fr [] w w') (hb:BigZ w' (w.heap.size≤·) v z) (hz:Zok z):Has W w' (zp_ ((v,z)::L)::Ps):=by obtain⟨a,c,rfl,h2⟩:=Bj h hf hb hz;exact zpool_add h2
def PairsAt (xs:List Value) (L:List (Value×Int)) (Z:Nat→Int×Int) (k:Nat):Prop :=
 ∀ j,j<k→∃ p q s t,(Value.agg #[p,q],(Z j).1)∈L∧(Value.agg #[s,t],(Z j).2)∈L∧xs[j*4]?=some p∧xs[j*4+1]?=some q∧xs[j*4+2]?=some s∧xs[j*4+3]?=some t
theorem PairsAt.more {xs:List Value} {L:List (Value×Int)} {Z:Nat→Int×Int} {k:Nat} (h:PairsAt xs L Z k) {p q s t:Value} (hk:k*4+3<xs.length) {x y:Int} (hx:(Z k).1=x) (hy:(Z k).2=y) :
  PairsAt ((((xs.set (k*4) p).set (k*4+1) q).set (k*4+2) s).set (k*4+3) t) ((.agg #[s,t],y)::(.agg #[p,q],x)::L) Z (k+1):=fun j hj=>by
 by_cases e:j=k;·
  subst e;refine⟨p,q,s,t,by rw [hx];simp,by rw [hy];simp,?_⟩;simp only [List.getElem?_set,List.length_set];refine⟨?_,?_,?_,?_⟩<;>(repeat' split)<;>first|rfl|(exfalso;omega)|exact absurd trivial ‹¬True›
 ·obtain⟨p',q',s',t',h1,h2,h3,h4,h5,h6⟩:=h j o_;refine⟨p',q',s',t',by simp [h1],by simp [h2],?_⟩;simp only [List.getElem?_set,List.length_set];refine⟨?_,?_,?_,?_⟩<;>(repeat' split)<;>first|assumption|(exfalso;omega)
end Go.Proofs.YtebolidfbflkmaaGreat
namespace Go.Proofs.YtebolidfbflkmaaGreat
open Qs Ev
def dumW:Tr:=.node (.leaf 100) (.leaf 100) (.leaf 100) (.leaf 100)
variable {s:Int}{ns:List K4}
theorem dumW_not (hg:GoodQ s ns):dumW∉trs s ns:=by
 intro hm;obtain⟨i,hi,he⟩:=List.mem_iff_getElem.1 hm;have hi':i<ns.length:=by rw [← Cb s ns];exact hi
 have he:tr s ns (s+i)=dumW:=by unfold tr Je;rw [if_neg o_,show (s+(i:Int) - s).toNat=i by omega,List.getD_eq_getElem?_getD,List.getElem?_eq_getElem hi,he];rfl
 have:=(Fw hg ns.length (x:=s+i) o_ ⟨by have:=hg.1;omega,o_⟩).2;rw [he] at this;have h8:=hg.2.1;have:=this.1.2;omega
def G0 (s:Int) (ns:List K4) (L:List Tr) (c:Nat):Prop:=room s ns (List.replicate c dumW++L)
variable {L:List Tr}{c:Nat}
theorem My (hg:GoodQ s ns):G0 s ns L c↔ns.length+c+(L.filter fun t=>decide (t∉trs s ns)).length≤90000:=by unfold G0 room;rw [List.filter_append,List.length_append,List.filter_replicate,if_pos (by simpa using dumW_not hg),List.length_replicate,Nat.add_assoc]
theorem Mx (hg:GoodQ s ns) (h:G0 s ns L c):ns.length+c≤90000:=by have:=(My hg).1 h;omega
theorem roomC_of (h:ns.length+c+L.length≤90000):G0 s ns L c:=room.of_len u_'
theorem rG_ {ms:List K4} {d:Nat} (hg:GoodQ s ns) (hg':GoodQ s ms) (h:G0 s ns L c) (hp:ns <+: ms) (hl:ms.length≤ns.length+d) (hd:d≤c):G0 s ms L (c - d):=by
 have h1:=(My hg).1 h;refine (My hg').2 ?_;have h2:(L.filter fun t=>decide (t∉trs s ms)).length≤(L.filter fun t=>decide (t∉trs s ns)).length:=by obtain⟨k,rfl⟩:=hp;rw [← List.countP_eq_length_filter,← List.countP_eq_length_filter];refine List.countP_mono_left fun t _ ht=>?_;simp only [decide_eq_true_eq] at ht ⊢;intro hm;refine ht ?_;have e:=Lr s (ns++k) ns.length;rw [List.take_left] at e;rw [← e] at hm;exact List.mem_of_mem_take hm
 omega
open Go Go.RowKit Rg Mp Hp Bn
def G4 (L:List BV):Res where
 holds w F:=(∀ e∈L,BigIn w false (zd (e.1:Int)) e.2.1 e.2.2∧∀ x∈bvF e,x∈F)∧∀ x∈F,x<w.heap.size
 keep:=fun {w w' F} ⟨h1,h2⟩ hk=>⟨fun e he=>⟨Mk (h1 e he).1 fun x hx=>hk x ((h1 e he).2 x hx),(h1 e he).2⟩,fun x hx=>by
  obtain⟨o,ho⟩:∃ o,w.heap[x]?=some o:=⟨_,Array.getElem?_eq_getElem (h2 x hx)⟩
  exact lBk ((hk x hx).trans ho)⟩
 lt:=fun ⟨_,h2⟩=>h2
variable {W w:World}{Ps:List Res}
theorem T6 (h:Has W w Ps):Has W w (G4 []::Ps):=h.new (Fr.refl [] w) (F:=[]) ⟨i_,i_⟩ i_
variable {e:BV}
theorem B6 {L:List BV} (h:Has W w Ps) (hm:G4 L∈Ps) (he:e∈L):BigIn w false (zd (e.1:Int)) e.2.1 e.2.2:=by obtain⟨F,h1,_⟩:=M9 h hm;exact (h1 e he).1
theorem Jl {L:List BV} {V:Nat} {a:Option Addr} (h:Has W w (B4 false (zd (V:Int)) a c::G4 L::Ps)):Has W w (G4 ((V,a,c)::L)::Ps) :=
 h.merge fun F G hF hG hd=>by
  obtain⟨f1,f2⟩:=hF;obtain⟨g1,g2⟩:=hG;refine⟨F++G,⟨fun e he=>?_,fun x hx=>?_⟩,Fr.refl _ _,fun x hx=>List.mem_append.1 hx⟩;·
   rw [List.mem_cons] at he;rcases he with rfl|he
   ·refine⟨f1,fun x hx=>List.mem_append.2 (.inl ?_)⟩;rw [f2];exact hx
   ·exact⟨(g1 e he).1,fun x hx=>List.mem_append.2 (.inr ((g1 e he).2 x hx))⟩
  ·rw [List.mem_append] at hx;rcases hx with hx|hx
   ·exact big_lt f1 x (by rw [f2] at hx;exact hx)
   ·exact g2 x hx
def Fl (g:Bool) (x y:BV):BV:=if decide (y.1<x.1)=g then x else y
variable {x y:BV}
theorem Dk {g:Bool} {L:List BV} (hx:x∈L) (hy:y∈L):Fl g x y∈L:=by unfold Fl;split<;>assumption
theorem Dj (x y:BV):(Fl false x y).1=min x.1 y.1:=by
 unfold Fl;by_cases h:y.1<x.1;·rw [decide_eq_true h];simp only [Bool.true_eq_false,if_false];omega
 ·rw [decide_eq_false h];simp only [if_true];omega
theorem Dl (x y:BV):(Fl true x y).1=max x.1 y.1:=by
 unfold Fl;by_cases h:y.1<x.1;·rw [decide_eq_true h];simp only [if_true];omega
 ·rw [decide_eq_false h];simp only [Bool.false_eq_true,if_false];omega
theorem R7 (h:BigIn w false (zd (e.1:Int)) e.2.1 e.2.2):BigZ w (fun _=>True) (bvV e) (e.1:Int):=N8 h
theorem Jr (g:Bool) (hx:BigIn w false (zd (x.1:Int)) x.2.1 x.2.2) (hy:BigIn w false (zd (y.1:Int)) y.2.1 y.2.2) (zx:Zok (x.1:Int)) (zy:Zok (y.1:Int)) :
  Calls Tryz.prog 138 #[bvV x,bvV y,.bool g] w fun e w'=>e=.returned (bvV (Fl g x y))∧Fr [] w w':=by
 have HC:=q_ (fun w1 (hf:Fr [] w w1)=>Au (R7 (hx.fr hf)) (R7 (hy.fr hf)) zx zy);obtain⟨V,ax,cx⟩:=x;obtain⟨U,ay,cy⟩:=y;simp only [bvV] at HC ⊢;clear hx hy zx zy;obtain⟨c,hc⟩:∃ c,Bw (V:Int) (U:Int)=c:=⟨_,rfl⟩;have hcd:decide (c > 0)=decide (U<V):=by
  rw [← hc];unfold Bw;rw [decide_eq_decide];split;·omega
  ·split<;>omega
 rw [hc] at HC;clear hc;unfold Fl;simp only;by_cases hg:decide (U<V)=g;·
  rw [if_pos hg];have hb:(decide (c > 0) == g)=true:=by rw [hcd,hg];simp
  clear hcd hg;go_enter Tryz.func138,Tryz.ntmps138;go_wp2_with fail;refine (HC.o _ (Fr.t)).mono ?_;rintro e w1 ⟨rfl,hf⟩;have hx_:=(hf.block (w.heap.size) f_' i_).trans (show _=some (.cells #[.bool false,.slice ax (zd (V:Int)).length cx] 30 (0,0)) from hpT);obtain⟨x0,x1,xl⟩:=l2_ hx_;have Hx:=q_ hx_;clear hx_;have hr_:=(hf.block (w.heap.size+2) f_' i_).trans (show _=some (.cells #[.bool false,.slice none 0 0] 30 (0,0)) from hpT);have r0:=hEC hr_ 0;have r0z:=hEF hr_ 0;have r1:=hEC hr_ 1;have r1z:=hEF hr_ 1;have rl:=lBk hr_;have Hr:=q_ hr_;clear hr_;have Hf:=q_ (Fr.trans0 (Fr.t) hf:Fr [] w w1);clear hf;go_wp2;refine bodyPost_ret (Ai rfl (b:=w.heap.size+2) (x:=.bool false) (y:=.slice ax (zd (V:Int)).length cx) rfl ?_) rfl ⟨rfl,?_⟩;·have h:=Hr.o;(repeat first|rw [if_pos o_]|rw [if_neg o_]|rw [hDR]|rw [hDN]|rw [hAz]|rw [hSz]|rw [hAC]|rw [hSC]|rw [oMS]|rw [uPC]|rw [lSZ]|rw [lSS]|rfl);rw [h];(repeat first|rw [if_pos o_]|rw [if_neg o_]|rw [hDR]|rw [hDN]|rw [hAz]|rw [hSz]|rw [hAC]|rw [hSC]|rw [oMS]|rw [uPC]|rw [lSZ]|rw [lSS]|rfl)
  ·have h:=Hf.o;exact Fr.t
 ·rw [if_neg hg];have hb:(decide (c > 0) == g)=false:=by rw [hcd];simpa using hg
  clear hcd hg;go_enter Tryz.func138,Tryz.ntmps138;go_wp2_with fail;refine (HC.o _ (Fr.t)).mono ?_;rintro e w1 ⟨rfl,hf⟩;have hx_:=(hf.block (w.heap.size+1) f_' i_).trans (show _=some (.cells #[.bool false,.slice ay (zd (U:Int)).length cy] 30 (0,0)) from hpT);obtain⟨x0,x1,xl⟩:=l2_ hx_;have Hx:=q_ hx_;clear hx_;have hr_:=(hf.block (w.heap.size+2) f_' i_).trans (show _=some (.cells #[.bool false,.slice none 0 0] 30 (0,0)) from hpT);have r0:=hEC hr_ 0;have r0z:=hEF hr_ 0;have r1:=hEC hr_ 1;have r1z:=hEF hr_ 1;have rl:=lBk hr_;have Hr:=q_ hr_;clear hr_;have Hf:=q_ (Fr.trans0 (Fr.t) hf:Fr [] w w1);clear hf;go_wp2;refine bodyPost_ret (Ai rfl (b:=w.heap.size+2) (x:=.bool false) (y:=.slice ay (zd (U:Int)).length cy) rfl ?_) rfl ⟨rfl,?_⟩;·have h:=Hr.o;(repeat first|rw [if_pos o_]|rw [if_neg o_]|rw [hDR]|rw [hDN]|rw [hAz]|rw [hSz]|rw [hAC]|rw [hSC]|rw [oMS]|rw [uPC]|rw [lSZ]|rw [lSS]|rfl);rw [h];(repeat first|rw [if_pos o_]|rw [if_neg o_]|rw [hDR]|rw [hDN]|rw [hAz]|rw [hSz]|rw [hAC]|rw [hSC]|rw [oMS]|rw [uPC]|rw [lSZ]|rw [lSS]|rfl)
  ·have h:=Hf.o;exact Fr.t
variable {P:Res}
theorem _root_.Go.Proofs.Hp.Has.f7 {A B C D E F G:Res} {Ys:List Res} (h:Has W w (A::B::C::D::E::F::G::P::Ys)):Has W w (P::A::B::C::D::E::F::G::Ys):=h.front (Xs:=[A,B,C,D,E,F,G])
abbrev FV:=Bool×BV×BV×BV×BV
def fCL (f:FV):Array Value:=#[.bool false,.slice f.2.1.2.1 (zd (f.2.1.1:Int)).length f.2.1.2.2,.bool false,.slice f.2.2.1.2.1 (zd (f.2.2.1.1:Int)).length f.2.2.1.2.2,.bool false,.slice f.2.2.2.1.2.1 (zd (f.2.2.2.1.1:Int)).length f.2.2.2.1.2.2,.bool false,.slice f.2.2.2.2.2.1 (zd (f.2.2.2.2.1:Int)).length f.2.2.2.2.2.2,.bool f.1]
def fvV (f:FV):Value:=.agg (fCL f)
def coF (o:Option Frm):Frm:=o.getD (0,0,0,0)
def Jb (o:Option Frm) (f:FV):Prop:=f.1=o.isSome∧(f.2.1.1:Int)=(coF o).1∧(f.2.2.1.1:Int)=(coF o).2.1∧(f.2.2.2.1.1:Int)=(coF o).2.2.1∧(f.2.2.2.2.1:Int)=(coF o).2.2.2
def InL (L:List BV) (f:FV):Prop:=f.2.1∈L∧f.2.2.1∈L∧f.2.2.2.1∈L∧f.2.2.2.2∈L
theorem InL.mono {L M:List BV} {f:FV} (h:InL L f) (hs:∀ x∈L,x∈M):InL M f:=⟨hs _ h.1,hs _ h.2.1,hs _ h.2.2.1,hs _ h.2.2.2⟩
def zBV:BV:=(0,none,0)
def zFV (ok:Bool):FV:=(ok,zBV,zBV,zBV,zBV)
def To (rb:Nat) (mm:List (Int×FV)):Res where
 holds w F:=MapIs w rb (Value.int .i64) fvV mm∧F=[rb]
 keep:=fun ⟨h1,h2⟩ hk=>⟨h1.of_block (hk _ (by simp [h2])),h2⟩
 lt:=fun ⟨h1,h2⟩ x hx=>by rw [h2] at hx;simp at hx;subst hx;exact h1.lt
def FInv (s:Int) (ns:List K4) (L:List BV) (mm:List (Int×FV)):Prop:=∀ e∈mm,Jb (frT (tr s ns e.1).ht (tr s ns e.1)) e.2∧InL L e.2
theorem FInv.mono {s:Int} {ns:List K4} {L M:List BV} {mm:List (Int×FV)} (h:FInv s ns L mm) (hs:∀ x∈L,x∈M):FInv s ns M mm:=fun e he=>⟨(h e he).1,(h e he).2.mono hs⟩
def frL (b fb rb:Nat) (s:Int) (ns:List K4) (L:List BV) (mm:List (Int×FV)) (Ps:List Res):List Res :=
 G4 L::To rb mm::Hp.blk fb (.cells #[.pointer (some ⟨b,0,none⟩),.map (some rb)] 170 (0,0))::sTR b s ns::Ps
def Kp (W:World) (b fb rb:Nat) (s:Int) (ns:List K4) (L:List BV) (n:Nat) (t:Tr) (Ps:List Res) (e:Ending) (w':World):Prop :=
 ∃ f L' mm',e=.returned (fvV f)∧Has W w' (frL b fb rb s ns L' mm' Ps)∧FInv s ns L' mm'∧(∀ x∈L,x∈L')∧Jb (frT n t) f∧InL L' f
def X3 (W:World) (b fb rb:Nat) (s:Int) (ns:List K4) (n:Nat):Prop :=
 ∀ (w:World) (Ps:List Res) (L:List BV) (mm:List (Int×FV)) (id:Int) (t:Tr),Has W w (frL b fb rb s ns L mm Ps)→FInv s ns L mm→Is s ns n id t →
  Calls Tryz.prog 114 #[.pointer (some ⟨fb,0,none⟩),.int .i64 id] w (Kp W b fb rb s ns L n t Ps)
variable {b:Nat}
theorem Ix {fn:Func} {p:Tmp} (h:fn.results=#[.cell p 172]) {tmps:Array Value} {w':World} {f:FV} (h4:tmps.getD p undef=.pointer (some ⟨b,0,none⟩)) (hb:w'.heap[b]?=some (.cells (fCL f) 172 (0,0))) :
  (results fn tmps).run Tryz.prog w'=.ok (fvV f) w':=by
 rw [Et h,h4];simp only [asAddr,Sem.run_pure,Result.andThen];rw [run_loadVar_row w' b _ _ _ _ _ hb Tryz.underlying172 rfl k_];rfl
theorem Ci (ok:Bool):fCL (zFV ok)=#[.bool false,.slice none 0 0,.bool false,.slice none 0 0,.bool false,.slice none 0 0,.bool false,.slice none 0 0,.bool ok]:=by simp [fCL,zFV,zBV,zd,Bd]
theorem z_in {L:List BV} (h:Has W w (G4 L::Ps)):Has W w (G4 (zBV::L)::Ps):=Jl (U1 h)
variable {fb rb:Nat}
theorem Po {L:List BV} {mm:List (Int×FV)} (h:Has W w (frL b fb rb s ns L mm Ps)) :
  w.cell? ⟨fb,0,none⟩=some (.pointer (some ⟨b,0,none⟩))∧w.cell? ⟨fb,1,none⟩=some (.map (some rb))∧fb<w.heap.size :=
 ⟨hEC h.f2.blk 0,hEC h.f2.blk 1,lBk h.f2.blk⟩
theorem Uu {L:List BV} {mm:List (Int×FV)} (h:Has W w (frL b fb rb s ns L mm Ps)):MapIs w rb (Value.int .i64) fvV mm∧rb<w.heap.size:=by obtain⟨F,h1,h2⟩:=h.swap.head;exact⟨h1,h1.lt⟩
theorem fput {mm mm':List (Int×FV)} {q:Obj} (h:Has W w (To rb mm::Ps)) (hq:MapIs { w with heap:=w.heap.setIfInBounds rb q } rb (Value.int .i64) fvV mm'):Has W { w with heap:=w.heap.setIfInBounds rb q } (To rb mm'::Ps) :=
 h.turn fun F ⟨h1,h2⟩=>⟨F,⟨hq,h2⟩,(Fr.refl F w).setBlock (.inl (by simp [h2])) q,fun x hx=>.inl hx⟩
variable {id:Int}
theorem upd_fr {ops:Array Oper} {rest:List Oper} {o:Oper} {act:Act} {Q:Exit→Act→World→Prop} {mm:List (Int×FV)} {f:FV} {m x u:Operand}
  (hg:o.guard=none) (ho:o.op=.mapUpdate 168 m x u) (hm:act.eval m=.map (some rb)) (hx:act.eval x=.int .i64 id) (hu:act.eval u=fvV f) (h:Has W w (P::To rb mm::Ps))
  (hnext:∀ w',Has W w' (P::To rb (put mm id f)::Ps)→wpList Tryz.prog ops Q rest (act.put o.dst undef) w'):wpList Tryz.prog ops Q (o::rest) act w:=by
 obtain⟨F8,hM,_⟩:=h.swap.head;exact Br (f:=Value.int .i64) (g:=fvV) (k:=id) (v:=f) hg ho hm hx hu hM Tryz.underlying168 J8 fun q hq=>hnext _ (fput h.swap hq).swap
variable {t:Tr}
theorem Rc {n:Nat} {L:List BV} {mm:List (Int×FV)} (h:Has W w (frL b fb rb s ns L mm Ps)) (hI:FInv s ns L mm) (hi:Is s ns n id t) {f:FV} (hg:get? mm id=some f) :
  Calls Tryz.prog 114 #[.pointer (some ⟨fb,0,none⟩),.int .i64 id] w (Kp W b fb rb s ns L n t Ps):=by
 obtain⟨hm,hml⟩:=Uu h;obtain⟨c0,c1,cl⟩:=Po h;have hv:=hI _ (Ma hg);simp only at hv;rw [hi.2.1,Fs n hi.2.2.1] at hv;have HV:=q_ hv;have HI:=q_ hI;have HM:=q_ hm;have HG:=q_ hg;have H:=q_ h;clear h hi hg hm hv hI;go_enter Tryz.func114,Tryz.ntmps114;go_wp2_with (at_lookup;refine Bc (f:=Value.int .i64) (g:=fvV) (k:=id) (z:=fvV (zFV false)) rfl rfl rfl rfl (HM.o.of_block (hAE _ _ _ hml)) Tryz.underlying168 J8 k_ HG.o ?_;simp only [fvV,fCL]);refine bodyPost_ret (Ix rfl (b:=w.heap.size) (f:=f) rfl ?_) rfl ⟨f,L,mm,rfl,H.o.step (Fr.t),HI.o,fun _ hx=>hx,HV.o.1,HV.o.2⟩;exact hpT
theorem frame_leaf {L:List BV} {mm:List (Int×FV)} (h:Has W w (frL b fb rb s ns L mm Ps)) (hI:FInv s ns L mm) (hi:Is s ns 0 id t) (hg:get? mm id=none) :
  Calls Tryz.prog 114 #[.pointer (some ⟨fb,0,none⟩),.int .i64 id] w (Kp W b fb rb s ns L 0 t Ps):=by
 obtain⟨h0,h1,ht⟩:=hi.zero (A4 h.f3);have HK:=q_ (fun w1 Qs (h1:Has W w1 (sTR b s ns::Qs))=>E6 h1 hi);have hok:Jb (frT 0 t) (zFV (decide (id > 0))):=by
  rw [ht];unfold frT;by_cases hz:id=0;·subst hz;simp [Jb,zFV,zBV,coF]
  ·rw [if_neg hz];simp [Jb,zFV,zBV,coF];omega
 have HT:=q_ hi.2.1;have HFu:=q_ (Fs 0 hi.2.2.1);have HOK:=q_ hok;have HI:=q_ hI;obtain⟨ok,hk⟩:∃ ok,decide (id > 0)=ok:=⟨_,rfl⟩;rw [hk] at HOK;clear ht hi hok hI;obtain⟨hm,hml⟩:=Uu h;obtain⟨c0,c1,cl⟩:=Po h;have HM:=q_ hm;have HG:=q_ hg;have H:=q_ h;have c03:∀ o1 o2 o3,(((w.alloc o1).alloc o2).alloc o3).cell? ⟨fb,0,none⟩=some (.pointer (some ⟨b,0,none⟩)):=fun o1 o2 o3=>(Fr.cell (((((Fr.refl [] w).alloc o1).alloc o2).alloc o3)) (p:=⟨fb,0,none⟩) cl i_).trans c0;clear hm h hg c0;go_enter Tryz.func114,Tryz.ntmps114;go_wp2_with (at_lookup;refine Ad (f:=Value.int .i64) (g:=fvV) (k:=id) (z:=fvV (zFV false)) rfl rfl rfl rfl (HM.o.of_block (hAE _ _ _ hml)) Tryz.underlying168 J8 k_ HG.o ?_;simp only [fvV,Ci]);have h1:=hAL ((hAL H.o (fCL (zFV false)) 172).step ((Fr.refl [] _).alloc (.cells (fCL (zFV false)) 172))) (fCL (zFV ok)) 172;simp only [hAz,Ci] at h1;refine (HK.o _ _ h1.f5).mono ?_;rintro e w2 ⟨rfl,h,hf⟩;obtain⟨rq,hr4⟩:∃ rq,w.heap.size=rq:=⟨_,rfl⟩;obtain⟨s7,hs7⟩:∃ s7,rq+1+1=s7:=⟨_,rfl⟩;simp only [hr4,hs7] at h ⊢;have h:=h.f4.swap;clear hf h1 c03 c1 cl hml H HM HG hr4 hs7;have hcb:=h.f5.blk;obtain⟨c0,c1,cl⟩:=l2_ hcb;have hsb:=h.f2.blk;obtain⟨s0,s1,s2,s3,s4,s5,s6⟩:=e7_ hsb;have s7':=hEC hsb 7;have s8:=hEC hsb 8;have sl:=lBk hsb;have H4:=q_ h;clear h hcb hsb;go_wp2;(refine wT ?_);go_wp2_with (at_mapUpdate;refine upd_fr (id:=id) (f:=(zFV ok)) rfl rfl rfl rfl (by rw [show fvV (zFV ok)=_ from congrArg Value.agg (Ci ok)];rfl) (H4.o.step (Fr.t)) ?_);clear c0 c1 cl s0 s1 s2 s3 s4 s5 s6 s7' s8 sl;intro w8 h5;have hsb:=h5.f2.blk;have hr4:=h5.f3.blk;obtain⟨s0,s1,s2⟩:=e3_ hsb
 have s3:=hEC hsb 3;have s4:=hEC hsb 4;have s5:=hEC hsb 5;have s6:=hEC hsb 6;have s7':=hEC hsb 7;have s8:=hEC hsb 8;have sl:=lBk hsb;obtain⟨r0,r1,r2,r3,r4,r5,r6⟩:=e7_ hr4;have r7':=hEC hr4 7;have r8:=hEC hr4 8;have rz0:=hEF hr4 0;have rz1:=hEF hr4 1;have rz2:=hEF hr4 2;have rz3:=hEF hr4 3;have rz4:=hEF hr4 4;have rz5:=hEF hr4 5;have rz6:=hEF hr4 6;have rz7':=hEF hr4 7;have rz8:=hEF hr4 8;have rl:=lBk hr4;have H5:=q_ h5;clear h5 hsb hr4 H4;go_wp2;refine sT_ rfl ?_;go_wp2;have hF:=hST (hST (hST (hST (hST (hST (hST (hST (hST H5.o.f3 0 (.bool false)) 1 (.slice none 0 0)) 2 (.bool false)) 3 (.slice none 0 0)) 4 (.bool false)) 5 (.slice none 0 0)) 6 (.bool false)) 7 (.slice none 0 0)) 8 (.bool ok);have HF:=q_ (And.intro hF.blk (hF.drop.f2.drop.f3.f2.f3));clear hF;refine bodyPost_ret (Ix rfl (b:=rq) (f:=zFV ok) rfl ?_) rfl ⟨zFV ok,zBV::L,put mm id (zFV ok),rfl,z_in HF.o.2,?_,fun _ hx=>by simp [hx],HOK.o,?_⟩;·rw [Ci];exact HF.o.1
 ·intro e he;rcases M4 he with h|rfl
  ·exact⟨(HI.o e h).1,(HI.o e h).2.mono fun x hx=>by simp [hx]⟩
  ·refine⟨?_,?_⟩;·
    show Jb (frT (tr s ns id).ht (tr s ns id)) _;rw [HT.o,HFu.o];exact HOK.o
   ·exact⟨by simp [zFV],by simp [zFV],by simp [zFV],by simp [zFV]⟩
 ·exact⟨by simp [zFV],by simp [zFV],by simp [zFV],by simp [zFV]⟩
end Go.Proofs.YtebolidfbflkmaaGreat
namespace Go.Proofs.Hp
open Go Go.RowKit
theorem range_take {α:Type} (n:Nat) (xs:List α):(List.range n).filterMap (fun i=>xs[i]?)=xs.take n:=by
 induction n with
 | zero=>simp
 | succ n ih =>
  rw [List.range_succ,List.filterMap_append,ih];by_cases h:n<xs.length;·rw [List.take_add_one,List.getElem?_eq_getElem h];simp [h]
  ·rw [List.take_add_one];simp [List.getElem?_eq_none (by omega:xs.length≤n)]
theorem Has.drops {W w:World} {Qs:List Res}:∀ {Es:List Res},Has W w (Es++Qs)→Has W w Qs
 | [],h=>h
 | _::_,h=>Has.drops h.drop
theorem Has.ord {W w:World} {Xs:List Res} (n:Nat) (is:List Nat) (h:Has W w Xs) (hs:(is++(List.range n).filter (fun i=>!is.contains i)).isPerm (List.range n)=true:=by decide):Has W w (is.filterMap (fun i=>Xs[i]?)++Xs.drop n):=by
 have hp:=List.isPerm_iff.1 hs;have h2:=hp.filterMap (fun i=>Xs[i]?);rw [range_take,List.filterMap_append] at h2;have h3:Xs.Perm ((((List.range n).filter (fun i=>!is.contains i)).filterMap fun i=>Xs[i]?)++(is.filterMap (fun i=>Xs[i]?)++Xs.drop n)):=by refine (List.Perm.of_eq (List.take_append_drop n Xs).symm).trans ?_;refine (h2.symm.append_right _).trans ?_;rw [← List.append_assoc];exact List.perm_append_comm.append_right _
 exact Has.drops (h.perm h3)
end Go.Proofs.Hp
