/- Own texts of this claim, part 24: no condition. -/
import Derived.Test.YtebolidfbflkmaaGreatZN22
import Derived.Test.YtebolidfbflkmaaGreatZN20
import Derived.Test.YtebolidfbflkmaaGreatZN21
set_option linter.unusedVariables false
set_option linter.unusedSimpArgs false
set_option maxHeartbeats 16000000
set_option maxRecDepth 100000
section
namespace Go.Proofs.YtebolidfbflkmaaGreat
open Go Go.RowKit Rg Mp Hp Qs Ev
theorem direct_four {W:World} {r:Rule} {ha na:Option Addr} {hc nc:Nat} {mb sb rb:Nat} {L:List Tr} (hR:rightR r=true) (hlo:lostOf (radius r.hood)=2):DirectAt W r (.slice ha r.hood.length hc) (.slice na r.nodes.length nc) mb sb rb L 2:=by
 intro w Ps ns mm id t h hroom hkept hi hL hru;show Calls Tryz.prog 131 #[.pointer (some ⟨mb,0,none⟩),.int .i64 id,.int .i64 2] w _;have HRU:=q_ hru;have H:=q_ h;have Hroom:=q_ hroom;have Hkept:=q_ hkept;have HI:=q_ hi;have HL:=q_ hL;have hmk:=make_rows4;have HLO:=q_ hlo;clear hru h hroom hkept hi hL hlo;go_enter Tryz.func131,Tryz.ntmps131;go_upto_region 2 with fail
 go_cut [9,10] (fun s9 s10 wx=>∃ oa ob:Nat,s9=.slice (some ⟨oa,0,none⟩) 4 4∧s10=.slice (some ⟨ob,0,none⟩) 4 4∧Hid (Has W wx (memoL r (.slice ha r.hood.length hc) (.slice na r.nodes.length nc) mb sb rb ns mm (pmatR oa 4 []::pmatR ob 4 []::Ps))));case first =>
  go_region;all_goals
   go_wp2_with fail;go_meet
  ·exact⟨_,_,rfl,rfl,q_ ((two_tabs (m:=4) (X:=#[.slice none 0 0,.slice none 0 0,.slice none 0 0,.slice none 0 0]) H.out rfl).step ((Fr.refl [] _).drew))⟩
  ·exact⟨_,_,rfl,rfl,q_ ((two_tabs (m:=4) (X:=#[.slice none 0 0,.slice none 0 0,.slice none 0 0,.slice none 0 0]) H.out rfl).fifth.step ((Fr.refl [] _).drew))⟩
 case rest =>
  obtain⟨oa,ob,rfl,rfl,HT⟩:=hcut;clear hmk H;have hmk:=make_row4;go_wp2;go_loopw [25] (fun x wr=>∃ (i:Nat) (aL bs:List Nat),x=.int .i64 i∧i≤4∧aL.length=i∧bs.length=i∧Hid (Has W wr (memoL r (.slice ha r.hood.length hc) (.slice na r.nodes.length nc) mb sb rb ns mm (pmatR oa 4 aL::pmatR ob 4 bs::Ps)))) (fun x _=>4 - (intOf x).toNat);case atStart=>exact⟨0,[],[],rfl,o_,rfl,rfl,HT⟩
  case round =>
   clear HT;obtain⟨i,aL,bs,rfl,hi4,hal,hbl,HT⟩:=hrel;have Hal:=q_ hal;have Hbl:=q_ hbl;by_cases hlt:i<4;·
    obtain⟨⟨va,ca,hva⟩,za,la⟩:=pmat_cell HT.out.fourth o_;have hne:=pmat_ne HT.out;have hne':=Ne.symm hne;obtain⟨⟨vb,cb,hvb⟩,zb,lb⟩:=pmat_cell HT.out.fifth.fourth o_;rw [hal] at ca za;rw [hbl] at cb zb;clear hal hbl hva hvb;go_wp2;go_region;all_goals
     go_wp2
    all_goals
     go_roundw;case rel =>
      first
       | exact⟨i+1,aL++[wr.heap.size],bs++[wr.heap.size+1],by go_num,o_,by simp [Hal.out],by simp [Hbl.out],q_ ((two_rows' (X:=#[.int .i64 0,.int .i64 0,.int .i64 0,.int .i64 0]) HT.out rfl Hal.out Hbl.out hlt).step ((Fr.refl [] _).drew))⟩
       | exact⟨i+1,aL++[wr.heap.size+1],bs++[wr.heap.size],by go_num,o_,by simp [Hal.out],by simp [Hbl.out],q_ ((setCell_swap wr hne' _ _▸two_rows' (X:=#[.int .i64 0,.int .i64 0,.int .i64 0,.int .i64 0]) HT.out.fifth rfl Hbl.out Hal.out hlt).fifth.step ((Fr.refl [] _).drew))⟩
       | (trace_state;sorry)
     case measure=>simp [intOf];omega
   ·obtain rfl:i=4:=o_;have h4:=pmat_full (pmat_full HT.out.fourth Hal.out).back4.fifth.fourth Hbl.out;have HT4:=q_ h4.back4.fifth;have hl2:=lost_le (radius_le r.hood).1 (radius_le r.hood).2;have HFI:=q_ (fun w1 (hf:Fr [] wr w1)=>fillAt_two (W:=W) (r:=r) (hv:=.slice ha r.hood.length hc) (nv:=.slice na r.nodes.length nc) (mb:=mb) (sb:=sb) (rb:=rb) (ns:=ns) (mm:=mm) (ob:=oa) (m:=4) (bs:=aL) (Ps:=matR ob 4 bs (fun _ _=>0)::Ps) o_ (fillAt_one o_ (fillAt_zero o_)) w1 (fun _ _=>0) id t 0 0 2 0 0 rfl rfl rfl (HT4.out.step hf) HI.out o_ o_);clear h4 hal hbl HT;go_wp2_with fail;refine (HFI.out _ (Fr.t)).mono ?_;rintro e w5 ⟨rfl,h⟩;have H5:=q_ h;clear h HFI HT4;have HF0:=q_ (fun (i j:Int) (h1:0≤i) (h2:i<4) (h3:0≤j) (h4:j<4)=>show paste (fun _ _=>0) 2 t 0 0 i j=cell 2 t i j by
     unfold paste
     rw [if_pos (by show 0≤i∧i<0+4∧0≤j∧j<0+4;omega),Int.sub_zero,Int.sub_zero])
    have HFOK:=q_ (fun (i j:Int) (h1:0≤i) (h2:i<4) (h3:0≤j) (h4:j<4)=>show 0≤paste (fun _ _=>0) 2 t 0 0 i j∧paste (fun _ _=>0) 2 t 0 0 i j<r.S by
     rw [HF0.out i j h1 h2 h3 h4]
     exact cell_ok 2 HI.out.2.2.1 HI.out.2.2.2 h1 h2 h3 h4)
    have H5':=q_ (show Has W w5 (memoL r (.slice ha r.hood.length hc) (.slice na r.nodes.length nc) mb sb rb ns mm (matR oa 4 aL (paste (fun _ _=>0) 2 t 0 0)::matR ob 4 bs (fun _ _=>0)::Ps)) from H5.out);clear H5;generalize paste (fun _ _=>0) 2 t 0 0=F0 at H5' HF0 HFOK;have hrad:radius r.hood≤1:=(by have:=HLO.out;unfold lostOf at this;omega);have HRAD:=q_ hrad;clear hrad;go_wp2;go_loopw [12] (fun x' wr=>∃ (y:Nat) (G:Fld),x'=.int .i64 y∧1≤y∧y≤3∧Hid (NextSt W wr r (.slice ha r.hood.length hc) (.slice na r.nodes.length nc) mb sb rb ns mm Ps oa ob 4 aL bs F0 G 1 y 0)) (fun x _=>3 - (intOf x).toNat);case atStart=>exact⟨1,_,rfl,o_,o_,q_ ⟨H5'.out,fun i j h1 h2 h3 h4 h5=>by omega⟩⟩
    case round =>
     clear H5';obtain⟨y,G,rfl,hy1,hy3,HS⟩:=hrel;by_cases hy:y<3;·
      have hdy:decide ((y:Int)<3)=true:=(by simp;omega);go_wp2;go_loopw [13] (fun x' wr=>∃ (x:Nat) (G:Fld),x'=.int .i64 x∧1≤x∧x≤3∧Hid (NextSt W wr r (.slice ha r.hood.length hc) (.slice na r.nodes.length nc) mb sb rb ns mm Ps oa ob 4 aL bs F0 G 1 y x)) (fun x _=>3 - (intOf x).toNat);case atStart=>exact⟨1,_,rfl,o_,o_,q_ ⟨HS.out.has,fun i j h1 h2 h3 h4 h5=>HS.out.done i j h1 h2 h3 h4 o_⟩⟩
      case round =>
       clear HS;obtain⟨x,G,rfl,hx1,hx3,HS⟩:=hrel;by_cases hx:x<3;·
        have hdx:decide ((x:Int)<3)=true:=(by simp;omega);obtain⟨m0,m1,m2,m3,_,_,ml⟩:=mC_ HS.out.has;have HRN:=q_ (HRU.out wr _ HS.out.has (fun P hP=>by unfold memoL;simp [hP]));have hnl:=right_len hR;have hhl:=right_hlen hR;obtain⟨wq,hwq⟩:∃ wq,wq=wr:=⟨_,rfl⟩;go_wp2;rw [← hwq] at HS HRN m0 m1 m2 m3 ml ⊢;go_loopw [14,75] (fun k' h' wl=>∃ hh:Nat,h'=.int .i64 hh∧hh≤r.hood.length∧k'=.int .i64 (down r ((r.hood.take hh).map fun p=>F0 (x+p.1) (y+p.2)))∧Fr [] wq wl) (fun _ x _=>r.hood.length - (intOf x).toNat);case atStart=>exact⟨0,rfl,o_,rfl,Fr.refl _ _⟩
        case round =>
         obtain⟨hh,rfl,hh1,rfl,hf⟩:=hrel;have Hf:=q_ hf;clear hf m0 m1 m2 m3 ml;have hs9:=HS.out.has.step Hf.out;by_cases hlt:hh<r.hood.length;·
          obtain⟨⟨ox,oy⟩,hp⟩:∃ p,r.hood[hh]?=some p:=⟨_,List.getElem?_eq_getElem hlt⟩;obtain⟨o1,o2,o3,o4⟩:=hood_in (right_hood hR) (List.mem_of_getElem? hp);have hrad:=HRAD.out;simp only at o1 o2 o3 o4;have b1:-1≤ox:=o_;have b2:ox≤1:=o_;have b3:-1≤oy:=o_;have b4:oy≤1:=o_;clear o1 o2 o3 o4 hrad;obtain⟨gh,oh,heh,hgh,p0,p1⟩:=(HRN.out.1.fr Hf.out).cell hp;simp only at p0 p1;have hok:=HFOK.out (x+ox) (y+oy) o_ o_ o_ o_;have hst:∀ s∈(r.hood.take hh).map (fun p=>F0 (x+p.1) (y+p.2)),0≤s∧s<r.S:=by intro s hs;obtain⟨q,hq,rfl⟩:=List.mem_map.1 hs;have hq':=hood_in (right_hood hR) (List.mem_of_mem_take hq);have hrad:=HRAD.out;exact HFOK.out _ _ o_ o_ o_ o_
          have hsn:=down_snoc r ((r.hood.take hh).map fun p=>F0 (x+p.1) (y+p.2)) (F0 (x+ox) (y+oy));rw [← take_map_succ hp (fun p=>F0 (x+p.1) (y+p.2))] at hsn;obtain⟨k,gn,on,g2,off2,rl,rc,hk,hkl,hen,hgn,n1,hrl,hg2,n2⟩:=down_cell hR (HRN.out.2.fr Hf.out) hst (by simp;omega) hok.1 hok.2;obtain⟨b,hb,c0,c1,_,cl,ol⟩:=mat_row hs9.fourth (y:=(y+oy).toNat) o_
          replace c1:=c1 (x+ox).toNat o_
          rw [show (((x+ox).toNat:Nat):Int)=x+ox by omega,show (((y+oy).toNat:Nat):Int)=y+oy by omega] at c1;obtain⟨m0,m1,m2,m3,_,_,ml⟩:=mC_ hs9;rw [hk] at hsn ⊢;have HSN:=q_ hsn;generalize F0 (x+ox) (y+oy)=s at c1 n2 hok HSN;obtain⟨s0,s1⟩:=hok;have e1:(0:Int)≤y+oy:=o_;have e2:(0:Int)≤x+ox:=o_;have e3:(y:Int)+oy<4:=o_;have e4:(x:Int)+ox<4:=o_;subst heh;subst hen;clear hp hst hsn hk hb hs9;go_wp2;(refine wT ?_);have s2:s<(rl:Int):=o_;clear hrl s1;go_wp2;refine sT_ rfl ?_;go_wp2;go_roundw;case rel=>exact⟨hh+1,by go_num,o_,by rw [HSN.out],by have:=Hf.out;exact Fr.t⟩
          case measure=>simp [intOf];omega
         ·have hhe:hh=r.hood.length:=o_;subst hhe;rw [List.take_length];obtain⟨b,hb,c0,c1,cf,cl,ol⟩:=mat_row hs9.fifth.fourth (y:=y) o_;have c1x:=c1 x o_;have cfx:=cf x;go_wp2;go_roundw;case rel =>obtain⟨G',hG⟩:=NextSt.put HS.out Hf.out o_ hb (v:=down r (r.hood.map fun p=>F0 (x+p.1) (y+p.2))) rfl;exact⟨x+1,G',by go_num,o_,o_,q_ hG⟩
          case measure=>simp [intOf];omega
       ·obtain rfl:x=3:=o_;go_wp2;go_roundw;case rel=>exact⟨y+1,G,by go_num,o_,o_,q_ ⟨HS.out.has,fun i j h1 h2 h3 h4 h5=>HS.out.done i j h1 h2 h3 h4 o_⟩⟩
        case measure=>simp [intOf];omega
     ·obtain rfl:y=3:=o_;have hG:∀ i j:Nat,1≤i→i<3→1≤j→j<3→G i j=gen r F0 i j:=fun i j h1 h2 h3 h4=>HS.out.done i j h1 o_ h3 o_ o_;have hrad:=HRAD.out;have hE:mk 1 G ((1:Nat):Int) ((1:Nat):Int)=stp (gen r) 2 0 t:=by
       refine mk_congr 1 fun i j h1 h2 h3 h4=>?_;rw [p2_succ,p2_zero] at h2 h4;have h5:=hG (1+i).toNat (1+j).toNat o_ o_ o_ o_;rw [show (((1+i).toNat:Nat):Int)=1+i by omega,show (((1+j).toNat:Nat):Int)=1+j by omega] at h5;refine h5.trans (gen_local hR fun p q a1 a2 a3 a4=>?_);exact HF0.out _ _ o_ o_ o_ o_
      have HSQ:=q_ (squareAt_one (W:=W) (r:=r) (hv:=.slice ha r.hood.length hc) (nv:=.slice na r.nodes.length nc) (mb:=mb) (sb:=sb) (rb:=rb) (L:=L) (mm:=mm) (ob:=ob) (m:=4) (bs:=bs) (F:=G) o_ (squareAt_zero o_) wr (matR oa 4 aL F0::Ps) ns 1 1 1 1 1 rfl rfl rfl HS.out.has.fifth Hroom.out o_ o_ (fun i j h1 h2 h3 h4=>by
       rw [hG i j h1 o_ h3 o_]
       exact gen_ok hR fun p q a1 a2 a3 a4=>HFOK.out _ _ o_ o_ o_ o_) (fun u hu=>HL.out u (hE▸hu)))
      rw [hE] at HSQ;clear hG hE hrad;go_wp2_with fail;refine HSQ.out.mono ?_;rintro e w6 ⟨res,ns',rfl,h1,h2,h3,h4⟩;have H6:=q_ (And.intro h1 (And.intro h2 (And.intro h3 h4)));clear h1 h2 h3 h4 HSQ;go_wp2;go_ret2;exact⟨res,ns',mm,rfl,H6.out.1.fourth.drop.fourth.drop,H6.out.2.1,H6.out.2.2.1,Hkept.out.grow H6.out.2.1,H6.out.2.2.2,Keeps.refl mm⟩
theorem make_rows8 (w:World):(Instr.makeSlice 217 (.int .i64 8) (.int .i64 8)).run Tryz.prog w=.ok (.slice (some ⟨w.heap.size,0,none⟩) 8 8) (w.alloc (.cells #[.slice none 0 0,.slice none 0 0,.slice none 0 0,.slice none 0 0,.slice none 0 0,.slice none 0 0,.slice none 0 0,.slice none 0 0] 72 (0,0))):=by kernel_rfl
theorem make_row8 (w:World):(Instr.makeSlice 72 (.int .i64 8) (.int .i64 8)).run Tryz.prog w=.ok (.slice (some ⟨w.heap.size,0,none⟩) 8 8) (w.alloc (.cells #[.int .i64 0,.int .i64 0,.int .i64 0,.int .i64 0,.int .i64 0,.int .i64 0,.int .i64 0,.int .i64 0] 3 (0,0))):=by kernel_rfl
theorem direct_eight {W:World} {r:Rule} {ha na:Option Addr} {hc nc:Nat} {mb sb rb:Nat} {L:List Tr} (hR:rightR r=true) (hlo:lostOf (radius r.hood)=3):DirectAt W r (.slice ha r.hood.length hc) (.slice na r.nodes.length nc) mb sb rb L 3:=by
 intro w Ps ns mm id t h hroom hkept hi hL hru;show Calls Tryz.prog 131 #[.pointer (some ⟨mb,0,none⟩),.int .i64 id,.int .i64 3] w _;have HRU:=q_ hru;have H:=q_ h;have Hroom:=q_ hroom;have Hkept:=q_ hkept;have HI:=q_ hi;have HL:=q_ hL;have hmk:=make_rows8;have HLO:=q_ hlo;clear hru h hroom hkept hi hL hlo;go_enter Tryz.func131,Tryz.ntmps131;go_upto_region 2 with fail
 go_cut [9,10] (fun s9 s10 wx=>∃ oa ob:Nat,s9=.slice (some ⟨oa,0,none⟩) 8 8∧s10=.slice (some ⟨ob,0,none⟩) 8 8∧Hid (Has W wx (memoL r (.slice ha r.hood.length hc) (.slice na r.nodes.length nc) mb sb rb ns mm (pmatR oa 8 []::pmatR ob 8 []::Ps))));case first =>
  go_region;all_goals
   go_wp2_with fail;go_meet
  ·exact⟨_,_,rfl,rfl,q_ ((two_tabs (m:=8) (X:=#[.slice none 0 0,.slice none 0 0,.slice none 0 0,.slice none 0 0,.slice none 0 0,.slice none 0 0,.slice none 0 0,.slice none 0 0]) H.out rfl).step ((Fr.refl [] _).drew))⟩
  ·exact⟨_,_,rfl,rfl,q_ ((two_tabs (m:=8) (X:=#[.slice none 0 0,.slice none 0 0,.slice none 0 0,.slice none 0 0,.slice none 0 0,.slice none 0 0,.slice none 0 0,.slice none 0 0]) H.out rfl).fifth.step ((Fr.refl [] _).drew))⟩
 case rest =>
  obtain⟨oa,ob,rfl,rfl,HT⟩:=hcut;clear hmk H;have hmk:=make_row8;go_wp2;go_loopw [25] (fun x wr=>∃ (i:Nat) (aL bs:List Nat),x=.int .i64 i∧i≤8∧aL.length=i∧bs.length=i∧Hid (Has W wr (memoL r (.slice ha r.hood.length hc) (.slice na r.nodes.length nc) mb sb rb ns mm (pmatR oa 8 aL::pmatR ob 8 bs::Ps)))) (fun x _=>8 - (intOf x).toNat);case atStart=>exact⟨0,[],[],rfl,o_,rfl,rfl,HT⟩
  case round =>
   clear HT;obtain⟨i,aL,bs,rfl,hi4,hal,hbl,HT⟩:=hrel;have Hal:=q_ hal;have Hbl:=q_ hbl;by_cases hlt:i<8;·
    obtain⟨⟨va,ca,hva⟩,za,la⟩:=pmat_cell HT.out.fourth o_;have hne:=pmat_ne HT.out;have hne':=Ne.symm hne;obtain⟨⟨vb,cb,hvb⟩,zb,lb⟩:=pmat_cell HT.out.fifth.fourth o_;rw [hal] at ca za;rw [hbl] at cb zb;clear hal hbl hva hvb;go_wp2;go_region;all_goals
     go_wp2
    all_goals
     go_roundw;case rel =>
      first
       | exact⟨i+1,aL++[wr.heap.size],bs++[wr.heap.size+1],by go_num,o_,by simp [Hal.out],by simp [Hbl.out],q_ ((two_rows' (X:=#[.int .i64 0,.int .i64 0,.int .i64 0,.int .i64 0,.int .i64 0,.int .i64 0,.int .i64 0,.int .i64 0]) HT.out rfl Hal.out Hbl.out hlt).step ((Fr.refl [] _).drew))⟩
       | exact⟨i+1,aL++[wr.heap.size+1],bs++[wr.heap.size],by go_num,o_,by simp [Hal.out],by simp [Hbl.out],q_ ((setCell_swap wr hne' _ _▸two_rows' (X:=#[.int .i64 0,.int .i64 0,.int .i64 0,.int .i64 0,.int .i64 0,.int .i64 0,.int .i64 0,.int .i64 0]) HT.out.fifth rfl Hbl.out Hal.out hlt).fifth.step ((Fr.refl [] _).drew))⟩
       | (trace_state;sorry)
     case measure=>simp [intOf];omega
   ·obtain rfl:i=8:=o_;have h4:=pmat_full (pmat_full HT.out.fourth Hal.out).back4.fifth.fourth Hbl.out;have HT4:=q_ h4.back4.fifth;have hl2:=lost_le (radius_le r.hood).1 (radius_le r.hood).2;have HFI:=q_ (fun w1 (hf:Fr [] wr w1)=>fillAt_three (W:=W) (r:=r) (hv:=.slice ha r.hood.length hc) (nv:=.slice na r.nodes.length nc) (mb:=mb) (sb:=sb) (rb:=rb) (ns:=ns) (mm:=mm) (ob:=oa) (m:=8) (bs:=aL) (Ps:=matR ob 8 bs (fun _ _=>0)::Ps) o_ (fillAt_two o_ (fillAt_one o_ (fillAt_zero o_))) w1 (fun _ _=>0) id t 0 0 3 0 0 rfl rfl rfl (HT4.out.step hf) HI.out o_ o_);clear h4 hal hbl HT;go_wp2_with fail;refine (HFI.out _ (Fr.t)).mono ?_;rintro e w5 ⟨rfl,h⟩;have H5:=q_ h;clear h HFI HT4;have HF0:=q_ (fun (i j:Int) (h1:0≤i) (h2:i<8) (h3:0≤j) (h4:j<8)=>show paste (fun _ _=>0) 3 t 0 0 i j=cell 3 t i j by
     unfold paste
     rw [if_pos (by show 0≤i∧i<0+8∧0≤j∧j<0+8;omega),Int.sub_zero,Int.sub_zero])
    have HFOK:=q_ (fun (i j:Int) (h1:0≤i) (h2:i<8) (h3:0≤j) (h4:j<8)=>show 0≤paste (fun _ _=>0) 3 t 0 0 i j∧paste (fun _ _=>0) 3 t 0 0 i j<r.S by
     rw [HF0.out i j h1 h2 h3 h4]
     exact cell_ok 3 HI.out.2.2.1 HI.out.2.2.2 h1 h2 h3 h4)
    have H5':=q_ (show Has W w5 (memoL r (.slice ha r.hood.length hc) (.slice na r.nodes.length nc) mb sb rb ns mm (matR oa 8 aL (paste (fun _ _=>0) 3 t 0 0)::matR ob 8 bs (fun _ _=>0)::Ps)) from H5.out);clear H5;generalize paste (fun _ _=>0) 3 t 0 0=F0 at H5' HF0 HFOK;have hrad:radius r.hood≤2:=(by have:=HLO.out;unfold lostOf at this;omega);have HRAD:=q_ hrad;clear hrad;go_wp2;go_loopw [12] (fun x' wr=>∃ (y:Nat) (G:Fld),x'=.int .i64 y∧2≤y∧y≤6∧Hid (NextSt W wr r (.slice ha r.hood.length hc) (.slice na r.nodes.length nc) mb sb rb ns mm Ps oa ob 8 aL bs F0 G 2 y 0)) (fun x _=>6 - (intOf x).toNat);case atStart=>exact⟨2,_,rfl,o_,o_,q_ ⟨H5'.out,fun i j h1 h2 h3 h4 h5=>by omega⟩⟩
    case round =>
     clear H5';obtain⟨y,G,rfl,hy1,hy3,HS⟩:=hrel;by_cases hy:y<6;·
      have hdy:decide ((y:Int)<6)=true:=(by simp;omega);go_wp2;go_loopw [13] (fun x' wr=>∃ (x:Nat) (G:Fld),x'=.int .i64 x∧2≤x∧x≤6∧Hid (NextSt W wr r (.slice ha r.hood.length hc) (.slice na r.nodes.length nc) mb sb rb ns mm Ps oa ob 8 aL bs F0 G 2 y x)) (fun x _=>6 - (intOf x).toNat);case atStart=>exact⟨2,_,rfl,o_,o_,q_ ⟨HS.out.has,fun i j h1 h2 h3 h4 h5=>HS.out.done i j h1 h2 h3 h4 o_⟩⟩
      case round =>
       clear HS;obtain⟨x,G,rfl,hx1,hx3,HS⟩:=hrel;by_cases hx:x<6;·
        have hdx:decide ((x:Int)<6)=true:=(by simp;omega);obtain⟨m0,m1,m2,m3,_,_,ml⟩:=mC_ HS.out.has;have HRN:=q_ (HRU.out wr _ HS.out.has (fun P hP=>by unfold memoL;simp [hP]));have hnl:=right_len hR;have hhl:=right_hlen hR;obtain⟨wq,hwq⟩:∃ wq,wq=wr:=⟨_,rfl⟩;go_wp2;rw [← hwq] at HS HRN m0 m1 m2 m3 ml ⊢;go_loopw [14,75] (fun k' h' wl=>∃ hh:Nat,h'=.int .i64 hh∧hh≤r.hood.length∧k'=.int .i64 (down r ((r.hood.take hh).map fun p=>F0 (x+p.1) (y+p.2)))∧Fr [] wq wl) (fun _ x _=>r.hood.length - (intOf x).toNat);case atStart=>exact⟨0,rfl,o_,rfl,Fr.refl _ _⟩
        case round =>
         obtain⟨hh,rfl,hh1,rfl,hf⟩:=hrel;have Hf:=q_ hf;clear hf m0 m1 m2 m3 ml;have hs9:=HS.out.has.step Hf.out;by_cases hlt:hh<r.hood.length;·
          obtain⟨⟨ox,oy⟩,hp⟩:∃ p,r.hood[hh]?=some p:=⟨_,List.getElem?_eq_getElem hlt⟩;obtain⟨o1,o2,o3,o4⟩:=hood_in (right_hood hR) (List.mem_of_getElem? hp);have hrad:=HRAD.out;simp only at o1 o2 o3 o4;have b1:-2≤ox:=o_;have b2:ox≤2:=o_;have b3:-2≤oy:=o_;have b4:oy≤2:=o_;clear o1 o2 o3 o4 hrad;obtain⟨gh,oh,heh,hgh,p0,p1⟩:=(HRN.out.1.fr Hf.out).cell hp;simp only at p0 p1;have hok:=HFOK.out (x+ox) (y+oy) o_ o_ o_ o_;have hst:∀ s∈(r.hood.take hh).map (fun p=>F0 (x+p.1) (y+p.2)),0≤s∧s<r.S:=by intro s hs;obtain⟨q,hq,rfl⟩:=List.mem_map.1 hs;have hq':=hood_in (right_hood hR) (List.mem_of_mem_take hq);have hrad:=HRAD.out;exact HFOK.out _ _ o_ o_ o_ o_
          have hsn:=down_snoc r ((r.hood.take hh).map fun p=>F0 (x+p.1) (y+p.2)) (F0 (x+ox) (y+oy));rw [← take_map_succ hp (fun p=>F0 (x+p.1) (y+p.2))] at hsn;obtain⟨k,gn,on,g2,off2,rl,rc,hk,hkl,hen,hgn,n1,hrl,hg2,n2⟩:=down_cell hR (HRN.out.2.fr Hf.out) hst (by simp;omega) hok.1 hok.2;obtain⟨b,hb,c0,c1,_,cl,ol⟩:=mat_row hs9.fourth (y:=(y+oy).toNat) o_
          replace c1:=c1 (x+ox).toNat o_
          rw [show (((x+ox).toNat:Nat):Int)=x+ox by omega,show (((y+oy).toNat:Nat):Int)=y+oy by omega] at c1;obtain⟨m0,m1,m2,m3,_,_,ml⟩:=mC_ hs9;rw [hk] at hsn ⊢;have HSN:=q_ hsn;generalize F0 (x+ox) (y+oy)=s at c1 n2 hok HSN;obtain⟨s0,s1⟩:=hok;have e1:(0:Int)≤y+oy:=o_;have e2:(0:Int)≤x+ox:=o_;have e3:(y:Int)+oy<8:=o_;have e4:(x:Int)+ox<8:=o_;subst heh;subst hen;clear hp hst hsn hk hb hs9;go_wp2;(refine wT ?_);have s2:s<(rl:Int):=o_;clear hrl s1;go_wp2;refine sT_ rfl ?_;go_wp2;go_roundw;case rel=>exact⟨hh+1,by go_num,o_,by rw [HSN.out],by have:=Hf.out;exact Fr.t⟩
          case measure=>simp [intOf];omega
         ·have hhe:hh=r.hood.length:=o_;subst hhe;rw [List.take_length];obtain⟨b,hb,c0,c1,cf,cl,ol⟩:=mat_row hs9.fifth.fourth (y:=y) o_;have c1x:=c1 x o_;have cfx:=cf x;go_wp2;go_roundw;case rel =>obtain⟨G',hG⟩:=NextSt.put HS.out Hf.out o_ hb (v:=down r (r.hood.map fun p=>F0 (x+p.1) (y+p.2))) rfl;exact⟨x+1,G',by go_num,o_,o_,q_ hG⟩
          case measure=>simp [intOf];omega
       ·obtain rfl:x=6:=o_;go_wp2;go_roundw;case rel=>exact⟨y+1,G,by go_num,o_,o_,q_ ⟨HS.out.has,fun i j h1 h2 h3 h4 h5=>HS.out.done i j h1 h2 h3 h4 o_⟩⟩
        case measure=>simp [intOf];omega
     ·obtain rfl:y=6:=o_;have hG:∀ i j:Nat,2≤i→i<6→2≤j→j<6→G i j=gen r F0 i j:=fun i j h1 h2 h3 h4=>HS.out.done i j h1 o_ h3 o_ o_;have hrad:=HRAD.out;have hE:mk 2 G ((2:Nat):Int) ((2:Nat):Int)=stp (gen r) 3 0 t:=by
       refine mk_congr 2 fun i j h1 h2 h3 h4=>?_;rw [p2_succ,p2_succ,p2_zero] at h2 h4;have h5:=hG (2+i).toNat (2+j).toNat o_ o_ o_ o_;rw [show (((2+i).toNat:Nat):Int)=2+i by omega,show (((2+j).toNat:Nat):Int)=2+j by omega] at h5;refine h5.trans (gen_local hR fun p q a1 a2 a3 a4=>?_);exact HF0.out _ _ o_ o_ o_ o_
      have HSQ:=q_ (squareAt_two (W:=W) (r:=r) (hv:=.slice ha r.hood.length hc) (nv:=.slice na r.nodes.length nc) (mb:=mb) (sb:=sb) (rb:=rb) (L:=L) (mm:=mm) (ob:=ob) (m:=8) (bs:=bs) (F:=G) o_ (squareAt_one o_ (squareAt_zero o_)) wr (matR oa 8 aL F0::Ps) ns 2 2 2 2 2 rfl rfl rfl HS.out.has.fifth Hroom.out o_ o_ (fun i j h1 h2 h3 h4=>by
       rw [hG i j h1 o_ h3 o_]
       exact gen_ok hR fun p q a1 a2 a3 a4=>HFOK.out _ _ o_ o_ o_ o_) (fun u hu=>HL.out u (hE▸hu)))
      rw [hE] at HSQ;clear hG hE hrad;go_wp2_with fail;refine HSQ.out.mono ?_;rintro e w6 ⟨res,ns',rfl,h1,h2,h3,h4⟩;have H6:=q_ (And.intro h1 (And.intro h2 (And.intro h3 h4)));clear h1 h2 h3 h4 HSQ;go_wp2;go_ret2;exact⟨res,ns',mm,rfl,H6.out.1.fourth.drop.fourth.drop,H6.out.2.1,H6.out.2.2.1,Hkept.out.grow H6.out.2.1,H6.out.2.2.2,Keeps.refl mm⟩
end Go.Proofs.YtebolidfbflkmaaGreat
end
section
namespace Go.Proofs.Mp
open Go Go.RowKit Go.MapKept
end Go.Proofs.Mp
namespace Go.Proofs.YtebolidfbflkmaaGreat
open Go Go.RowKit Rg Mp Hp Qs Ev
theorem step_all {W:World} {r:Rule} {ha na:Option Addr} {hc nc:Nat} {mb sb rb:Nat} {L:List Tr} (hR:rightR r=true) :
  ∀ n,n≤250→StepAt W r (.slice ha r.hood.length hc) (.slice na r.nodes.length nc) mb sb rb L n
 | 0,_=>by intro w Ps ns mm id k t _ _ _ _ h4;have:=lost_le (radius_le r.hood).1 (radius_le r.hood).2;omega
 | n+1,hn=>by
  have hl:=lost_le (radius_le r.hood).1 (radius_le r.hood).2;have ih:=step_all (W:=W) (ha:=ha) (na:=na) (hc:=hc) (nc:=nc) (L:=L) (mb:=mb) (sb:=sb) (rb:=rb) hR n o_;refine step_at o_ hR (fun e=>?_) (fun hlt=>?_);·
   rcases (show lostOf (radius r.hood)=2∨lostOf (radius r.hood)=3 by omega) with h|h
   ·obtain rfl:n=1:=o_;exact direct_four hR h
   ·obtain rfl:n=2:=o_;exact direct_eight hR h
  ·obtain⟨m,rfl⟩:∃ m,n=m+2:=⟨n - 2,o_⟩;intro w Ps ns mm id k t h hroom hkept hi hk hL hsrc;exact parts_calls h hroom hkept hi o_ hR hlt hk rfl hL ih hsrc
def mostOf (r:Rule) (n:Int):Int:=if n<0∨256<n then -1 else max (n - (lostOf (radius r.hood):Nat)) (-1)
theorem MMost_calls {W w:World} {r:Rule} {hv nv:Value} {mb sb rb:Nat} {ns:List K4} {mm:List ((Int×Int)×Int)} {Ps:List Res} (h:Has W w (memoL r hv nv mb sb rb ns mm Ps)) (n:Int) :
  Calls Tryz.prog 99 #[.pointer (some ⟨mb,0,none⟩),.int .i64 n] w fun e w'=>e=.returned (.int .i64 (mostOf r n))∧w=w':=by
 obtain⟨_,_,_,_,_,m5,ml⟩:=mC_ h;have hl:=lost_le (radius_le r.hood).1 (radius_le r.hood).2;clear h;generalize hlo:lostOf (radius r.hood)=lo at m5 hl;have HM:=q_ (show mostOf r n=if n<0∨256<n then -1 else max (n - (lo:Nat)) (-1) by rw [← hlo];rfl);clear hlo;by_cases h1:n<0;·
  go_enter Tryz.func99,Tryz.ntmps99;go_wp2;all_goals
   go_ret;exact⟨ret_int' (by rw [HM.out,if_pos (.inl h1)]),rfl⟩
 ·by_cases h2:256<n;·
   go_enter Tryz.func99,Tryz.ntmps99;go_wp2;all_goals
    go_ret;exact⟨ret_int' (by rw [HM.out,if_pos (.inr h2)]),rfl⟩
  ·go_enter Tryz.func99,Tryz.ntmps99;go_wp2;all_goals
    go_ret;exact⟨ret_int' (by rw [HM.out,if_neg o_];try omega),rfl⟩
def StepEnd (W:World) (r:Rule) (hv nv:Value) (mb sb rb:Nat) (L:List Tr) (ns:List K4) (mm:List ((Int×Int)×Int)) (id k:Int) (Ps:List Res) (e:Ending) (w':World):Prop :=
 (¬ Kn r.S ns id∧e=.returned (.tuple #[.int .i64 0,.int .i64 13])∧Has W w' (memoL r hv nv mb sb rb ns mm Ps)) ∨
 (∃ n t,Is r.S ns n id t∧(k<0∨mostOf r n<k)∧e=.returned (.tuple #[.int .i64 0,.int .i64 18])∧Has W w' (memoL r hv nv mb sb rb ns mm Ps)) ∨
 (∃ n t,∃ k':Nat,Is r.S ns n id t∧k=k'∧lostOf (radius r.hood)≤n∧k'≤n - lostOf (radius r.hood)∧StepPost W r hv nv mb sb rb L ns mm n k' id (stp (gen r) n k' t) Ps e w')
theorem MStep_calls {W w:World} {r:Rule} {ha na:Option Addr} {hc nc:Nat} {mb sb rb:Nat} {L:List Tr} {ns:List K4} {mm:List ((Int×Int)×Int)} {Ps:List Res} (hR:rightR r=true) (hsrc:RuleSrc W (.slice ha r.hood.length hc) (.slice na r.nodes.length nc) r Ps)
  (h:Has W w (memoL r (.slice ha r.hood.length hc) (.slice na r.nodes.length nc) mb sb rb ns mm Ps)) (hroom:room r.S ns L) (hkept:Kept r ns mm) (id k:Int)
  (hL:∀ (n k':Nat) (t:Tr),Is r.S ns n id t→k=k'→lostOf (radius r.hood)≤n→k'≤n - lostOf (radius r.hood)→n≤250∧∀ u∈need (gen r) (lostOf (radius r.hood)) n k' t,u∈L) :
  Calls Tryz.prog 55 #[.pointer (some ⟨mb,0,none⟩),.int .i64 id,.int .i64 k] w (StepEnd W r (.slice ha r.hood.length hc) (.slice na r.nodes.length nc) mb sb rb L ns mm id k Ps):=by
 have hg:=has_good h;have hlv:=Level_has h id;obtain⟨_,_,_,m3,_,_,ml⟩:=mC_ h;by_cases hk:Kn r.S ns id;·
  have hi:Is r.S ns (tr r.S ns id).ht id (tr r.S ns id):=Is.of_lvl hg (lvl_ht hg ns.length (by have:=hk.2;omega) hk);generalize (tr r.S ns id).ht=n at hi;generalize tr r.S ns id=t at hi;have hlv:=LevelIs_has h hi;have HLV:=q_ hlv;have HI:=q_ hi;have hne:((n:Int)<0)=False:=by simp
  have hlt:decide ((n:Int)<0)=false:=by simp
  clear h hlv;by_cases h0:k<0;·
   clear hroom hkept hL hi;go_enter Tryz.func55,Tryz.ntmps55;go_wp2_with fail;refine HLV.out.mono ?_;rintro e w5 ⟨rfl,h5,hf⟩;have H5:=q_ h5;clear h5 hf m3 ml;go_wp2;all_goals
    go_ret2;exact .inr (.inl ⟨n,t,HI.out,.inl h0,rfl,H5.out⟩)
  ·obtain⟨k',rfl⟩:∃ k':Nat,k=k':=⟨k.toNat,o_⟩;have hk0:((k':Int)<0)=False:=i_;have hk0':decide ((k':Int)<0)=false:=i_;have HM:=q_ (fun w1 (h1:Has W w1 (memoL r (.slice ha r.hood.length hc) (.slice na r.nodes.length nc) mb sb rb ns mm Ps))=>MMost_calls h1 n);have hl:=lost_le (radius_le r.hood).1 (radius_le r.hood).2;by_cases hm:mostOf r n<k';·
    have hmd:decide ((k':Int) > mostOf r n)=true:=(by simp;omega);have HM2:=q_ hm;clear hroom hkept hL hi hm hl;go_enter Tryz.func55,Tryz.ntmps55;go_wp2_with fail;refine HLV.out.mono ?_;rintro e w5 ⟨rfl,h5,hf⟩;have H5:=q_ h5;clear h5 hf m3 ml;go_wp2_with fail;refine (HM.out _ H5.out).mono ?_;rintro e w5 ⟨rfl,rfl⟩;go_wp2;all_goals
     go_ret2;exact .inr (.inl ⟨n,t,HI.out,.inr HM2.out,rfl,H5.out⟩)
   ·have hmd:decide ((k':Int) > mostOf r n)=false:=(by simp;omega);have hmk:lostOf (radius r.hood)≤n∧k'≤n - lostOf (radius r.hood):=by
     unfold mostOf at hm;split at hm<;>omega
    obtain⟨hn,hL⟩:=hL n k' t hi rfl hmk.1 hmk.2;have HST:=q_ (fun w1 (h1:Has W w1 (memoL r (.slice ha r.hood.length hc) (.slice na r.nodes.length nc) mb sb rb ns mm Ps))=>step_all (L:=L) (mb:=mb) (sb:=sb) (rb:=rb) hR n hn w1 Ps ns mm id k' t h1 hroom hkept hi hmk.1 hmk.2 hL hsrc);have HMK:=q_ hmk;clear hroom hkept hL hi hm hl hmk;go_enter Tryz.func55,Tryz.ntmps55;go_wp2_with fail;refine HLV.out.mono ?_;rintro e w5 ⟨rfl,h5,hf⟩;have H5:=q_ h5;clear h5 hf m3 ml;go_wp2_with fail;refine (HM.out _ H5.out).mono ?_;rintro e w5 ⟨rfl,rfl⟩;go_wp2_with fail;refine (HST.out _ H5.out).mono ?_;rintro e w6 ⟨res,ns',mm',rfl,h6⟩;have H6:=q_ h6;clear h6;go_wp2;all_goals
     go_ret2;exact .inr (.inr ⟨n,t,k',HI.out,rfl,HMK.out.1,HMK.out.2,res,ns',mm',rfl,H6.out⟩)
 ·have hlt:¬ 0≤lvl r.S (levs r.S ns) id:=fun h=>hk ((kn_lvl hg id).1 h);generalize lvl r.S (levs r.S ns) id=v at hlv hlt;have HLV:=q_ hlv;have hv:decide (v<0)=true:=by simp;omega
  clear h hlv hroom hkept hL hg;go_enter Tryz.func55,Tryz.ntmps55;go_wp2_with fail;refine HLV.out.mono ?_;rintro e w5 ⟨rfl,h5,hf⟩;have H5:=q_ h5;clear h5 hf m3 ml;go_wp2;all_goals
   go_ret2;exact .inl ⟨hk,rfl,H5.out⟩
end Go.Proofs.YtebolidfbflkmaaGreat
end
