/- Own texts of this claim, part 23: no condition. -/
import Derived.Deep.DeepCutAuto
import Derived.Deep.RegionHeld3
import Derived.IntWalk
import Derived.Test.YtppmnmheodimoaaZD10
import Derived.Test.YtppmnmheodimoaaZD21
import Derived.Test.YtppmnmheodimoaaZD9
import Derived.Test.YtppmnmheodimoaaZD20
import Derived.Test.YtppmnmheodimoaaZD16
import Derived.Test.YtppmnmheodimoaaZD17
import Derived.Test.YtppmnmheodimoaaZD19
import Derived.Test.YtppmnmheodimoaaZD3
set_option linter.unusedVariables false
set_option linter.unusedSimpArgs false
section
namespace Go.Proofs.Ytppmnmheodimoaa
open Go Go.RowKit Rg Mp Hp Qs Ev
set_option maxHeartbeats 16000000 in
set_option maxRecDepth 100000 in
theorem direct_four {W:World} {r:Rule} {ha na:Option Addr} {hc nc:Nat} {mb sb rb:Nat} {L:List Tr} (hR:rightR r=true) (hlo:lostOf (radius r.hood)=2):DirectAt W r (.slice ha r.hood.length hc) (.slice na r.nodes.length nc) mb sb rb L 2:=by
 intro w Ps ns mm id t h hroom hkept hi hL hru
 show Calls Try.prog 60 #[.pointer (some ⟨mb,0,none⟩),.int .i64 id,.int .i64 2] w _
 have HRU:=Lib.hid hru
 have H:=Lib.hid h
 have Hroom:=Lib.hid hroom
 have Hkept:=Lib.hid hkept
 have HI:=Lib.hid hi
 have HL:=Lib.hid hL
 have hmk:=make_rows4
 have HLO:=Lib.hid hlo
 clear hru h hroom hkept hi hL hlo
 go_enter Try.func60,Try.ntmps60
 go_upto_region 2 with fail
 go_cut [9,10] (fun s9 s10 wx=>∃ oa ob:Nat,s9=.slice (some ⟨oa,0,none⟩) 4 4∧s10=.slice (some ⟨ob,0,none⟩) 4 4∧Hid (Has W wx (memoL r (.slice ha r.hood.length hc) (.slice na r.nodes.length nc) mb sb rb ns mm (pmatR oa 4 []::pmatR ob 4 []::Ps))))
 case first =>
  go_region
  all_goals
   go_wp2_with fail
   go_meet
  ·exact⟨_,_,rfl,rfl,Lib.hid ((two_tabs (m:=4) (X:=#[.slice none 0 0,.slice none 0 0,.slice none 0 0,.slice none 0 0]) H.out rfl).step ((Fr.refl [] _).drew))⟩
  ·exact⟨_,_,rfl,rfl,Lib.hid ((two_tabs (m:=4) (X:=#[.slice none 0 0,.slice none 0 0,.slice none 0 0,.slice none 0 0]) H.out rfl).fifth.step ((Fr.refl [] _).drew))⟩
 case rest =>
  obtain⟨oa,ob,rfl,rfl,HT⟩:=hcut
  clear hmk H
  have hmk:=make_row4
  go_wp2
  go_loopw [25] (fun x wr=>∃ (i:Nat) (aL bs:List Nat),x=.int .i64 i∧i≤4∧aL.length=i∧bs.length=i∧Hid (Has W wr (memoL r (.slice ha r.hood.length hc) (.slice na r.nodes.length nc) mb sb rb ns mm (pmatR oa 4 aL::pmatR ob 4 bs::Ps)))) (fun x _=>4 - (intOf x).toNat)
  case atStart=>exact⟨0,[],[],rfl,by omega,rfl,rfl,HT⟩
  case round =>
   clear HT
   obtain⟨i,aL,bs,rfl,hi4,hal,hbl,HT⟩:=hrel
   have Hal:=Lib.hid hal
   have Hbl:=Lib.hid hbl
   by_cases hlt:i<4
   ·obtain⟨⟨va,ca,hva⟩,za,la⟩:=pmat_cell HT.out.fourth (by omega)
    have hne:=pmat_ne HT.out
    have hne':=Ne.symm hne
    obtain⟨⟨vb,cb,hvb⟩,zb,lb⟩:=pmat_cell HT.out.fifth.fourth (by omega)
    rw [hal] at ca za
    rw [hbl] at cb zb
    clear hal hbl hva hvb
    go_wp2
    go_region
    all_goals
     go_wp2
    all_goals
     go_roundw
     case rel =>
      first
       | exact⟨i+1,aL++[wr.heap.size],bs++[wr.heap.size+1],by go_num,by omega,by simp [Hal.out],by simp [Hbl.out],Lib.hid ((two_rows' (X:=#[.int .i64 0,.int .i64 0,.int .i64 0,.int .i64 0]) HT.out rfl Hal.out Hbl.out hlt).step ((Fr.refl [] _).drew))⟩
       | exact⟨i+1,aL++[wr.heap.size+1],bs++[wr.heap.size],by go_num,by omega,by simp [Hal.out],by simp [Hbl.out],Lib.hid ((setCell_swap wr hne' _ _▸two_rows' (X:=#[.int .i64 0,.int .i64 0,.int .i64 0,.int .i64 0]) HT.out.fifth rfl Hbl.out Hal.out hlt).fifth.step ((Fr.refl [] _).drew))⟩
       | (trace_state;sorry)
     case measure=>simp [intOf];omega
   ·obtain rfl:i=4:=by omega
    have h4:=pmat_full (pmat_full HT.out.fourth Hal.out).back4.fifth.fourth Hbl.out
    have HT4:=Lib.hid h4.back4.fifth
    have hl2:=lost_le (radius_le r.hood).1 (radius_le r.hood).2
    have HFI:=Lib.hid (fun w1 (hf:Fr [] wr w1)=>fillAt_two (W:=W) (r:=r) (hv:=.slice ha r.hood.length hc) (nv:=.slice na r.nodes.length nc) (mb:=mb) (sb:=sb) (rb:=rb) (ns:=ns) (mm:=mm) (ob:=oa) (m:=4) (bs:=aL) (Ps:=matR ob 4 bs (fun _ _=>0)::Ps) (by omega) (fillAt_one (by omega) (fillAt_zero (by omega))) w1 (fun _ _=>0) id t 0 0 2 0 0 rfl rfl rfl (HT4.out.step hf) HI.out (by omega) (by omega))
    clear h4 hal hbl HT
    go_wp2_with fail
    refine (HFI.out _ (by (repeat first|exact Fr.refl _ _|assumption|apply Fr.n|apply Fr.d|apply Fr.a|refine Fr.s ?_ (.inr (by simp;try omega)) _))).mono ?_
    rintro e w5 ⟨rfl,h⟩
    have H5:=Lib.hid h
    clear h HFI HT4
    have HF0:=Lib.hid (fun (i j:Int) (h1:0≤i) (h2:i<4) (h3:0≤j) (h4:j<4)=>show paste (fun _ _=>0) 2 t 0 0 i j=cell 2 t i j by
     unfold paste
     rw [if_pos (by show 0≤i∧i<0+4∧0≤j∧j<0+4;omega),Int.sub_zero,Int.sub_zero])
    have HFOK:=Lib.hid (fun (i j:Int) (h1:0≤i) (h2:i<4) (h3:0≤j) (h4:j<4)=>show 0≤paste (fun _ _=>0) 2 t 0 0 i j∧paste (fun _ _=>0) 2 t 0 0 i j<r.S by
     rw [HF0.out i j h1 h2 h3 h4]
     exact cell_ok 2 HI.out.2.2.1 HI.out.2.2.2 h1 h2 h3 h4)
    have H5':=Lib.hid (show Has W w5 (memoL r (.slice ha r.hood.length hc) (.slice na r.nodes.length nc) mb sb rb ns mm (matR oa 4 aL (paste (fun _ _=>0) 2 t 0 0)::matR ob 4 bs (fun _ _=>0)::Ps)) from H5.out)
    clear H5
    generalize paste (fun _ _=>0) 2 t 0 0=F0 at H5' HF0 HFOK
    have hrad:radius r.hood≤1:=by have:=HLO.out;unfold lostOf at this;omega
    have HRAD:=Lib.hid hrad
    clear hrad
    go_wp2
    go_loopw [12] (fun x' wr=>∃ (y:Nat) (G:Fld),x'=.int .i64 y∧1≤y∧y≤3∧Hid (NextSt W wr r (.slice ha r.hood.length hc) (.slice na r.nodes.length nc) mb sb rb ns mm Ps oa ob 4 aL bs F0 G 1 y 0)) (fun x _=>3 - (intOf x).toNat)
    case atStart=>exact⟨1,_,rfl,by omega,by omega,Lib.hid ⟨H5'.out,fun i j h1 h2 h3 h4 h5=>by omega⟩⟩
    case round =>
     clear H5'
     obtain⟨y,G,rfl,hy1,hy3,HS⟩:=hrel
     by_cases hy:y<3
     ·have hdy:decide ((y:Int)<3)=true:=by simp;omega
      go_wp2
      go_loopw [13] (fun x' wr=>∃ (x:Nat) (G:Fld),x'=.int .i64 x∧1≤x∧x≤3∧Hid (NextSt W wr r (.slice ha r.hood.length hc) (.slice na r.nodes.length nc) mb sb rb ns mm Ps oa ob 4 aL bs F0 G 1 y x)) (fun x _=>3 - (intOf x).toNat)
      case atStart=>exact⟨1,_,rfl,by omega,by omega,Lib.hid ⟨HS.out.has,fun i j h1 h2 h3 h4 h5=>HS.out.done i j h1 h2 h3 h4 (by omega)⟩⟩
      case round =>
       clear HS
       obtain⟨x,G,rfl,hx1,hx3,HS⟩:=hrel
       by_cases hx:x<3
       ·have hdx:decide ((x:Int)<3)=true:=by simp;omega
        obtain⟨m0,m1,m2,m3,_,_,ml⟩:=memo_cells HS.out.has
        have HRN:=Lib.hid (HRU.out wr _ HS.out.has (fun P hP=>by unfold memoL;simp [hP]))
        have hnl:=right_len hR
        have hhl:=right_hlen hR
        obtain⟨wq,hwq⟩:∃ wq,wq=wr:=⟨_,rfl⟩
        go_wp2
        rw [← hwq] at HS HRN m0 m1 m2 m3 ml ⊢
        go_loopw [14,75] (fun k' h' wl=>∃ hh:Nat,h'=.int .i64 hh∧hh≤r.hood.length∧k'=.int .i64 (down r ((r.hood.take hh).map fun p=>F0 (x+p.1) (y+p.2)))∧Fr [] wq wl) (fun _ x _=>r.hood.length - (intOf x).toNat)
        case atStart=>exact⟨0,rfl,by omega,rfl,Fr.refl _ _⟩
        case round =>
         obtain⟨hh,rfl,hh1,rfl,hf⟩:=hrel
         have Hf:=Lib.hid hf
         clear hf m0 m1 m2 m3 ml
         have hs9:=HS.out.has.step Hf.out
         by_cases hlt:hh<r.hood.length
         ·obtain⟨⟨ox,oy⟩,hp⟩:∃ p,r.hood[hh]?=some p:=⟨_,List.getElem?_eq_getElem hlt⟩
          obtain⟨o1,o2,o3,o4⟩:=hood_in (right_hood hR) (List.mem_of_getElem? hp)
          have hrad:=HRAD.out
          simp only at o1 o2 o3 o4
          have b1:-1≤ox:=by omega
          have b2:ox≤1:=by omega
          have b3:-1≤oy:=by omega
          have b4:oy≤1:=by omega
          clear o1 o2 o3 o4 hrad
          obtain⟨gh,oh,heh,hgh,p0,p1⟩:=(HRN.out.1.fr Hf.out).cell hp
          simp only at p0 p1
          have hok:=HFOK.out (x+ox) (y+oy) (by omega) (by omega) (by omega) (by omega)
          have hst:∀ s∈(r.hood.take hh).map (fun p=>F0 (x+p.1) (y+p.2)),0≤s∧s<r.S:=by
           intro s hs
           obtain⟨q,hq,rfl⟩:=List.mem_map.1 hs
           have hq':=hood_in (right_hood hR) (List.mem_of_mem_take hq)
           have hrad:=HRAD.out
           exact HFOK.out _ _ (by omega) (by omega) (by omega) (by omega)
          have hsn:=down_snoc r ((r.hood.take hh).map fun p=>F0 (x+p.1) (y+p.2)) (F0 (x+ox) (y+oy))
          rw [← take_map_succ hp (fun p=>F0 (x+p.1) (y+p.2))] at hsn
          obtain⟨k,gn,on,g2,off2,rl,rc,hk,hkl,hen,hgn,n1,hrl,hg2,n2⟩:=down_cell hR (HRN.out.2.fr Hf.out) hst (by simp;omega) hok.1 hok.2
          obtain⟨b,hb,c0,c1,_,cl,ol⟩:=mat_row hs9.fourth (y:=(y+oy).toNat) (by omega)
          replace c1:=c1 (x+ox).toNat (by omega)
          rw [show (((x+ox).toNat:Nat):Int)=x+ox by omega,show (((y+oy).toNat:Nat):Int)=y+oy by omega] at c1
          obtain⟨m0,m1,m2,m3,_,_,ml⟩:=memo_cells hs9
          rw [hk] at hsn ⊢
          have HSN:=Lib.hid hsn
          generalize F0 (x+ox) (y+oy)=s at c1 n2 hok HSN
          obtain⟨s0,s1⟩:=hok
          have e1:(0:Int)≤y+oy:=by omega
          have e2:(0:Int)≤x+ox:=by omega
          have e3:(y:Int)+oy<4:=by omega
          have e4:(x:Int)+ox<4:=by omega
          subst heh
          subst hen
          clear hp hst hsn hk hb hs9
          go_wp2
          (refine wRT (by kernel_rfl) (by kernel_rfl) ?_)
          have s2:s<(rl:Int):=by omega
          clear hrl s1
          go_wp2
          refine Strict.intro rfl ?_
          go_wp2
          go_roundw
          case rel=>exact⟨hh+1,by go_num,by omega,by rw [HSN.out],by have:=Hf.out;(repeat first|exact Fr.refl _ _|assumption|apply Fr.n|apply Fr.d|apply Fr.a|refine Fr.s ?_ (.inr (by simp;try omega)) _)⟩
          case measure=>simp [intOf];omega
         ·have hhe:hh=r.hood.length:=by omega
          subst hhe
          rw [List.take_length]
          obtain⟨b,hb,c0,c1,cf,cl,ol⟩:=mat_row hs9.fifth.fourth (y:=y) (by omega)
          have c1x:=c1 x (by omega)
          have cfx:=cf x
          go_wp2
          go_roundw
          case rel =>
           obtain⟨G',hG⟩:=NextSt.put HS.out Hf.out (by omega) hb (v:=down r (r.hood.map fun p=>F0 (x+p.1) (y+p.2))) rfl
           exact⟨x+1,G',by go_num,by omega,by omega,Lib.hid hG⟩
          case measure=>simp [intOf];omega
       ·obtain rfl:x=3:=by omega
        go_wp2
        go_roundw
        case rel=>exact⟨y+1,G,by go_num,by omega,by omega,Lib.hid ⟨HS.out.has,fun i j h1 h2 h3 h4 h5=>HS.out.done i j h1 h2 h3 h4 (by omega)⟩⟩
        case measure=>simp [intOf];omega
     ·obtain rfl:y=3:=by omega
      have hG:∀ i j:Nat,1≤i→i<3→1≤j→j<3→G i j=gen r F0 i j:=fun i j h1 h2 h3 h4=>HS.out.done i j h1 (by omega) h3 (by omega) (by omega)
      have hrad:=HRAD.out
      have hE:mk 1 G ((1:Nat):Int) ((1:Nat):Int)=stp (gen r) 2 0 t:=by
       refine mk_congr 1 fun i j h1 h2 h3 h4=>?_
       rw [p2_succ,p2_zero] at h2 h4
       have h5:=hG (1+i).toNat (1+j).toNat (by omega) (by omega) (by omega) (by omega)
       rw [show (((1+i).toNat:Nat):Int)=1+i by omega,show (((1+j).toNat:Nat):Int)=1+j by omega] at h5
       refine h5.trans (gen_local hR fun p q a1 a2 a3 a4=>?_)
       exact HF0.out _ _ (by omega) (by omega) (by omega) (by omega)
      have HSQ:=Lib.hid (squareAt_one (W:=W) (r:=r) (hv:=.slice ha r.hood.length hc) (nv:=.slice na r.nodes.length nc) (mb:=mb) (sb:=sb) (rb:=rb) (L:=L) (mm:=mm) (ob:=ob) (m:=4) (bs:=bs) (F:=G) (by omega) (squareAt_zero (by omega)) wr (matR oa 4 aL F0::Ps) ns 1 1 1 1 1 rfl rfl rfl HS.out.has.fifth Hroom.out (by omega) (by omega) (fun i j h1 h2 h3 h4=>by
       rw [hG i j h1 (by omega) h3 (by omega)]
       exact gen_ok hR fun p q a1 a2 a3 a4=>HFOK.out _ _ (by omega) (by omega) (by omega) (by omega)) (fun u hu=>HL.out u (hE▸hu)))
      rw [hE] at HSQ
      clear hG hE hrad
      go_wp2_with fail
      refine HSQ.out.mono ?_
      rintro e w6 ⟨res,ns',rfl,h1,h2,h3,h4⟩
      have H6:=Lib.hid (And.intro h1 (And.intro h2 (And.intro h3 h4)))
      clear h1 h2 h3 h4 HSQ
      go_wp2
      go_ret2
      exact⟨res,ns',mm,rfl,H6.out.1.fourth.drop.fourth.drop,H6.out.2.1,H6.out.2.2.1,Hkept.out.grow H6.out.2.1,H6.out.2.2.2,Keeps.refl mm⟩
end Go.Proofs.Ytppmnmheodimoaa
end
section
namespace Go.Proofs.Ytppmnmheodimoaa
open Go Go.RowKit Rg Mp Hp Qs Ev
theorem make_rows8 (w:World):(Instr.makeSlice 54 (.int .i64 8) (.int .i64 8)).run Try.prog w=.ok (.slice (some ⟨w.heap.size,0,none⟩) 8 8) (w.alloc (.cells #[.slice none 0 0,.slice none 0 0,.slice none 0 0,.slice none 0 0,.slice none 0 0,.slice none 0 0,.slice none 0 0,.slice none 0 0] 71 (0,0))):=by kernel_rfl
theorem make_row8 (w:World):(Instr.makeSlice 71 (.int .i64 8) (.int .i64 8)).run Try.prog w=.ok (.slice (some ⟨w.heap.size,0,none⟩) 8 8) (w.alloc (.cells #[.int .i64 0,.int .i64 0,.int .i64 0,.int .i64 0,.int .i64 0,.int .i64 0,.int .i64 0,.int .i64 0] 3 (0,0))):=by kernel_rfl
set_option maxHeartbeats 16000000 in
set_option maxRecDepth 100000 in
theorem direct_eight {W:World} {r:Rule} {ha na:Option Addr} {hc nc:Nat} {mb sb rb:Nat} {L:List Tr} (hR:rightR r=true) (hlo:lostOf (radius r.hood)=3):DirectAt W r (.slice ha r.hood.length hc) (.slice na r.nodes.length nc) mb sb rb L 3:=by
 intro w Ps ns mm id t h hroom hkept hi hL hru
 show Calls Try.prog 60 #[.pointer (some ⟨mb,0,none⟩),.int .i64 id,.int .i64 3] w _
 have HRU:=Lib.hid hru
 have H:=Lib.hid h
 have Hroom:=Lib.hid hroom
 have Hkept:=Lib.hid hkept
 have HI:=Lib.hid hi
 have HL:=Lib.hid hL
 have hmk:=make_rows8
 have HLO:=Lib.hid hlo
 clear hru h hroom hkept hi hL hlo
 go_enter Try.func60,Try.ntmps60
 go_upto_region 2 with fail
 go_cut [9,10] (fun s9 s10 wx=>∃ oa ob:Nat,s9=.slice (some ⟨oa,0,none⟩) 8 8∧s10=.slice (some ⟨ob,0,none⟩) 8 8∧Hid (Has W wx (memoL r (.slice ha r.hood.length hc) (.slice na r.nodes.length nc) mb sb rb ns mm (pmatR oa 8 []::pmatR ob 8 []::Ps))))
 case first =>
  go_region
  all_goals
   go_wp2_with fail
   go_meet
  ·exact⟨_,_,rfl,rfl,Lib.hid ((two_tabs (m:=8) (X:=#[.slice none 0 0,.slice none 0 0,.slice none 0 0,.slice none 0 0,.slice none 0 0,.slice none 0 0,.slice none 0 0,.slice none 0 0]) H.out rfl).step ((Fr.refl [] _).drew))⟩
  ·exact⟨_,_,rfl,rfl,Lib.hid ((two_tabs (m:=8) (X:=#[.slice none 0 0,.slice none 0 0,.slice none 0 0,.slice none 0 0,.slice none 0 0,.slice none 0 0,.slice none 0 0,.slice none 0 0]) H.out rfl).fifth.step ((Fr.refl [] _).drew))⟩
 case rest =>
  obtain⟨oa,ob,rfl,rfl,HT⟩:=hcut
  clear hmk H
  have hmk:=make_row8
  go_wp2
  go_loopw [25] (fun x wr=>∃ (i:Nat) (aL bs:List Nat),x=.int .i64 i∧i≤8∧aL.length=i∧bs.length=i∧Hid (Has W wr (memoL r (.slice ha r.hood.length hc) (.slice na r.nodes.length nc) mb sb rb ns mm (pmatR oa 8 aL::pmatR ob 8 bs::Ps)))) (fun x _=>8 - (intOf x).toNat)
  case atStart=>exact⟨0,[],[],rfl,by omega,rfl,rfl,HT⟩
  case round =>
   clear HT
   obtain⟨i,aL,bs,rfl,hi4,hal,hbl,HT⟩:=hrel
   have Hal:=Lib.hid hal
   have Hbl:=Lib.hid hbl
   by_cases hlt:i<8
   ·obtain⟨⟨va,ca,hva⟩,za,la⟩:=pmat_cell HT.out.fourth (by omega)
    have hne:=pmat_ne HT.out
    have hne':=Ne.symm hne
    obtain⟨⟨vb,cb,hvb⟩,zb,lb⟩:=pmat_cell HT.out.fifth.fourth (by omega)
    rw [hal] at ca za
    rw [hbl] at cb zb
    clear hal hbl hva hvb
    go_wp2
    go_region
    all_goals
     go_wp2
    all_goals
     go_roundw
     case rel =>
      first
       | exact⟨i+1,aL++[wr.heap.size],bs++[wr.heap.size+1],by go_num,by omega,by simp [Hal.out],by simp [Hbl.out],Lib.hid ((two_rows' (X:=#[.int .i64 0,.int .i64 0,.int .i64 0,.int .i64 0,.int .i64 0,.int .i64 0,.int .i64 0,.int .i64 0]) HT.out rfl Hal.out Hbl.out hlt).step ((Fr.refl [] _).drew))⟩
       | exact⟨i+1,aL++[wr.heap.size+1],bs++[wr.heap.size],by go_num,by omega,by simp [Hal.out],by simp [Hbl.out],Lib.hid ((setCell_swap wr hne' _ _▸two_rows' (X:=#[.int .i64 0,.int .i64 0,.int .i64 0,.int .i64 0,.int .i64 0,.int .i64 0,.int .i64 0,.int .i64 0]) HT.out.fifth rfl Hbl.out Hal.out hlt).fifth.step ((Fr.refl [] _).drew))⟩
       | (trace_state;sorry)
     case measure=>simp [intOf];omega
   ·obtain rfl:i=8:=by omega
    have h4:=pmat_full (pmat_full HT.out.fourth Hal.out).back4.fifth.fourth Hbl.out
    have HT4:=Lib.hid h4.back4.fifth
    have hl2:=lost_le (radius_le r.hood).1 (radius_le r.hood).2
    have HFI:=Lib.hid (fun w1 (hf:Fr [] wr w1)=>fillAt_three (W:=W) (r:=r) (hv:=.slice ha r.hood.length hc) (nv:=.slice na r.nodes.length nc) (mb:=mb) (sb:=sb) (rb:=rb) (ns:=ns) (mm:=mm) (ob:=oa) (m:=8) (bs:=aL) (Ps:=matR ob 8 bs (fun _ _=>0)::Ps) (by omega) (fillAt_two (by omega) (fillAt_one (by omega) (fillAt_zero (by omega)))) w1 (fun _ _=>0) id t 0 0 3 0 0 rfl rfl rfl (HT4.out.step hf) HI.out (by omega) (by omega))
    clear h4 hal hbl HT
    go_wp2_with fail
    refine (HFI.out _ (by (repeat first|exact Fr.refl _ _|assumption|apply Fr.n|apply Fr.d|apply Fr.a|refine Fr.s ?_ (.inr (by simp;try omega)) _))).mono ?_
    rintro e w5 ⟨rfl,h⟩
    have H5:=Lib.hid h
    clear h HFI HT4
    have HF0:=Lib.hid (fun (i j:Int) (h1:0≤i) (h2:i<8) (h3:0≤j) (h4:j<8)=>show paste (fun _ _=>0) 3 t 0 0 i j=cell 3 t i j by
     unfold paste
     rw [if_pos (by show 0≤i∧i<0+8∧0≤j∧j<0+8;omega),Int.sub_zero,Int.sub_zero])
    have HFOK:=Lib.hid (fun (i j:Int) (h1:0≤i) (h2:i<8) (h3:0≤j) (h4:j<8)=>show 0≤paste (fun _ _=>0) 3 t 0 0 i j∧paste (fun _ _=>0) 3 t 0 0 i j<r.S by
     rw [HF0.out i j h1 h2 h3 h4]
     exact cell_ok 3 HI.out.2.2.1 HI.out.2.2.2 h1 h2 h3 h4)
    have H5':=Lib.hid (show Has W w5 (memoL r (.slice ha r.hood.length hc) (.slice na r.nodes.length nc) mb sb rb ns mm (matR oa 8 aL (paste (fun _ _=>0) 3 t 0 0)::matR ob 8 bs (fun _ _=>0)::Ps)) from H5.out)
    clear H5
    generalize paste (fun _ _=>0) 3 t 0 0=F0 at H5' HF0 HFOK
    have hrad:radius r.hood≤2:=by have:=HLO.out;unfold lostOf at this;omega
    have HRAD:=Lib.hid hrad
    clear hrad
    go_wp2
    go_loopw [12] (fun x' wr=>∃ (y:Nat) (G:Fld),x'=.int .i64 y∧2≤y∧y≤6∧Hid (NextSt W wr r (.slice ha r.hood.length hc) (.slice na r.nodes.length nc) mb sb rb ns mm Ps oa ob 8 aL bs F0 G 2 y 0)) (fun x _=>6 - (intOf x).toNat)
    case atStart=>exact⟨2,_,rfl,by omega,by omega,Lib.hid ⟨H5'.out,fun i j h1 h2 h3 h4 h5=>by omega⟩⟩
    case round =>
     clear H5'
     obtain⟨y,G,rfl,hy1,hy3,HS⟩:=hrel
     by_cases hy:y<6
     ·have hdy:decide ((y:Int)<6)=true:=by simp;omega
      go_wp2
      go_loopw [13] (fun x' wr=>∃ (x:Nat) (G:Fld),x'=.int .i64 x∧2≤x∧x≤6∧Hid (NextSt W wr r (.slice ha r.hood.length hc) (.slice na r.nodes.length nc) mb sb rb ns mm Ps oa ob 8 aL bs F0 G 2 y x)) (fun x _=>6 - (intOf x).toNat)
      case atStart=>exact⟨2,_,rfl,by omega,by omega,Lib.hid ⟨HS.out.has,fun i j h1 h2 h3 h4 h5=>HS.out.done i j h1 h2 h3 h4 (by omega)⟩⟩
      case round =>
       clear HS
       obtain⟨x,G,rfl,hx1,hx3,HS⟩:=hrel
       by_cases hx:x<6
       ·have hdx:decide ((x:Int)<6)=true:=by simp;omega
        obtain⟨m0,m1,m2,m3,_,_,ml⟩:=memo_cells HS.out.has
        have HRN:=Lib.hid (HRU.out wr _ HS.out.has (fun P hP=>by unfold memoL;simp [hP]))
        have hnl:=right_len hR
        have hhl:=right_hlen hR
        obtain⟨wq,hwq⟩:∃ wq,wq=wr:=⟨_,rfl⟩
        go_wp2
        rw [← hwq] at HS HRN m0 m1 m2 m3 ml ⊢
        go_loopw [14,75] (fun k' h' wl=>∃ hh:Nat,h'=.int .i64 hh∧hh≤r.hood.length∧k'=.int .i64 (down r ((r.hood.take hh).map fun p=>F0 (x+p.1) (y+p.2)))∧Fr [] wq wl) (fun _ x _=>r.hood.length - (intOf x).toNat)
        case atStart=>exact⟨0,rfl,by omega,rfl,Fr.refl _ _⟩
        case round =>
         obtain⟨hh,rfl,hh1,rfl,hf⟩:=hrel
         have Hf:=Lib.hid hf
         clear hf m0 m1 m2 m3 ml
         have hs9:=HS.out.has.step Hf.out
         by_cases hlt:hh<r.hood.length
         ·obtain⟨⟨ox,oy⟩,hp⟩:∃ p,r.hood[hh]?=some p:=⟨_,List.getElem?_eq_getElem hlt⟩
          obtain⟨o1,o2,o3,o4⟩:=hood_in (right_hood hR) (List.mem_of_getElem? hp)
          have hrad:=HRAD.out
          simp only at o1 o2 o3 o4
          have b1:-2≤ox:=by omega
          have b2:ox≤2:=by omega
          have b3:-2≤oy:=by omega
          have b4:oy≤2:=by omega
          clear o1 o2 o3 o4 hrad
          obtain⟨gh,oh,heh,hgh,p0,p1⟩:=(HRN.out.1.fr Hf.out).cell hp
          simp only at p0 p1
          have hok:=HFOK.out (x+ox) (y+oy) (by omega) (by omega) (by omega) (by omega)
          have hst:∀ s∈(r.hood.take hh).map (fun p=>F0 (x+p.1) (y+p.2)),0≤s∧s<r.S:=by
           intro s hs
           obtain⟨q,hq,rfl⟩:=List.mem_map.1 hs
           have hq':=hood_in (right_hood hR) (List.mem_of_mem_take hq)
           have hrad:=HRAD.out
           exact HFOK.out _ _ (by omega) (by omega) (by omega) (by omega)
          have hsn:=down_snoc r ((r.hood.take hh).map fun p=>F0 (x+p.1) (y+p.2)) (F0 (x+ox) (y+oy))
          rw [← take_map_succ hp (fun p=>F0 (x+p.1) (y+p.2))] at hsn
          obtain⟨k,gn,on,g2,off2,rl,rc,hk,hkl,hen,hgn,n1,hrl,hg2,n2⟩:=down_cell hR (HRN.out.2.fr Hf.out) hst (by simp;omega) hok.1 hok.2
          obtain⟨b,hb,c0,c1,_,cl,ol⟩:=mat_row hs9.fourth (y:=(y+oy).toNat) (by omega)
          replace c1:=c1 (x+ox).toNat (by omega)
          rw [show (((x+ox).toNat:Nat):Int)=x+ox by omega,show (((y+oy).toNat:Nat):Int)=y+oy by omega] at c1
          obtain⟨m0,m1,m2,m3,_,_,ml⟩:=memo_cells hs9
          rw [hk] at hsn ⊢
          have HSN:=Lib.hid hsn
          generalize F0 (x+ox) (y+oy)=s at c1 n2 hok HSN
          obtain⟨s0,s1⟩:=hok
          have e1:(0:Int)≤y+oy:=by omega
          have e2:(0:Int)≤x+ox:=by omega
          have e3:(y:Int)+oy<8:=by omega
          have e4:(x:Int)+ox<8:=by omega
          subst heh
          subst hen
          clear hp hst hsn hk hb hs9
          go_wp2
          (refine wRT (by kernel_rfl) (by kernel_rfl) ?_)
          have s2:s<(rl:Int):=by omega
          clear hrl s1
          go_wp2
          refine Strict.intro rfl ?_
          go_wp2
          go_roundw
          case rel=>exact⟨hh+1,by go_num,by omega,by rw [HSN.out],by have:=Hf.out;(repeat first|exact Fr.refl _ _|assumption|apply Fr.n|apply Fr.d|apply Fr.a|refine Fr.s ?_ (.inr (by simp;try omega)) _)⟩
          case measure=>simp [intOf];omega
         ·have hhe:hh=r.hood.length:=by omega
          subst hhe
          rw [List.take_length]
          obtain⟨b,hb,c0,c1,cf,cl,ol⟩:=mat_row hs9.fifth.fourth (y:=y) (by omega)
          have c1x:=c1 x (by omega)
          have cfx:=cf x
          go_wp2
          go_roundw
          case rel =>
           obtain⟨G',hG⟩:=NextSt.put HS.out Hf.out (by omega) hb (v:=down r (r.hood.map fun p=>F0 (x+p.1) (y+p.2))) rfl
           exact⟨x+1,G',by go_num,by omega,by omega,Lib.hid hG⟩
          case measure=>simp [intOf];omega
       ·obtain rfl:x=6:=by omega
        go_wp2
        go_roundw
        case rel=>exact⟨y+1,G,by go_num,by omega,by omega,Lib.hid ⟨HS.out.has,fun i j h1 h2 h3 h4 h5=>HS.out.done i j h1 h2 h3 h4 (by omega)⟩⟩
        case measure=>simp [intOf];omega
     ·obtain rfl:y=6:=by omega
      have hG:∀ i j:Nat,2≤i→i<6→2≤j→j<6→G i j=gen r F0 i j:=fun i j h1 h2 h3 h4=>HS.out.done i j h1 (by omega) h3 (by omega) (by omega)
      have hrad:=HRAD.out
      have hE:mk 2 G ((2:Nat):Int) ((2:Nat):Int)=stp (gen r) 3 0 t:=by
       refine mk_congr 2 fun i j h1 h2 h3 h4=>?_
       rw [p2_succ,p2_succ,p2_zero] at h2 h4
       have h5:=hG (2+i).toNat (2+j).toNat (by omega) (by omega) (by omega) (by omega)
       rw [show (((2+i).toNat:Nat):Int)=2+i by omega,show (((2+j).toNat:Nat):Int)=2+j by omega] at h5
       refine h5.trans (gen_local hR fun p q a1 a2 a3 a4=>?_)
       exact HF0.out _ _ (by omega) (by omega) (by omega) (by omega)
      have HSQ:=Lib.hid (squareAt_two (W:=W) (r:=r) (hv:=.slice ha r.hood.length hc) (nv:=.slice na r.nodes.length nc) (mb:=mb) (sb:=sb) (rb:=rb) (L:=L) (mm:=mm) (ob:=ob) (m:=8) (bs:=bs) (F:=G) (by omega) (squareAt_one (by omega) (squareAt_zero (by omega))) wr (matR oa 8 aL F0::Ps) ns 2 2 2 2 2 rfl rfl rfl HS.out.has.fifth Hroom.out (by omega) (by omega) (fun i j h1 h2 h3 h4=>by
       rw [hG i j h1 (by omega) h3 (by omega)]
       exact gen_ok hR fun p q a1 a2 a3 a4=>HFOK.out _ _ (by omega) (by omega) (by omega) (by omega)) (fun u hu=>HL.out u (hE▸hu)))
      rw [hE] at HSQ
      clear hG hE hrad
      go_wp2_with fail
      refine HSQ.out.mono ?_
      rintro e w6 ⟨res,ns',rfl,h1,h2,h3,h4⟩
      have H6:=Lib.hid (And.intro h1 (And.intro h2 (And.intro h3 h4)))
      clear h1 h2 h3 h4 HSQ
      go_wp2
      go_ret2
      exact⟨res,ns',mm,rfl,H6.out.1.fourth.drop.fourth.drop,H6.out.2.1,H6.out.2.2.1,Hkept.out.grow H6.out.2.1,H6.out.2.2.2,Keeps.refl mm⟩
end Go.Proofs.Ytppmnmheodimoaa
end
section
namespace Go.Proofs.Mp
open Go Go.RowKit Go.MapKept
end Go.Proofs.Mp
namespace Go.Proofs.Ytppmnmheodimoaa
open Go Go.RowKit Rg Mp Hp Qs Ev
theorem step_all {W:World} {r:Rule} {ha na:Option Addr} {hc nc:Nat} {mb sb rb:Nat} {L:List Tr} (hR:rightR r=true) :
  ∀ n,n≤200→StepAt W r (.slice ha r.hood.length hc) (.slice na r.nodes.length nc) mb sb rb L n
 | 0,_=>by
  intro w Ps ns mm id k t _ _ _ _ h4
  have:=lost_le (radius_le r.hood).1 (radius_le r.hood).2
  omega
 | n+1,hn=>by
  have hl:=lost_le (radius_le r.hood).1 (radius_le r.hood).2
  have ih:=step_all (W:=W) (ha:=ha) (na:=na) (hc:=hc) (nc:=nc) (L:=L) (mb:=mb) (sb:=sb) (rb:=rb) hR n (by omega)
  refine step_at (by omega) hR (fun e=>?_) (fun hlt=>?_)
  ·rcases (show lostOf (radius r.hood)=2∨lostOf (radius r.hood)=3 by omega) with h|h
   ·obtain rfl:n=1:=by omega
    exact direct_four hR h
   ·obtain rfl:n=2:=by omega
    exact direct_eight hR h
  ·obtain⟨m,rfl⟩:∃ m,n=m+2:=⟨n - 2,by omega⟩
   intro w Ps ns mm id k t h hroom hkept hi hk hL hsrc
   exact parts_calls h hroom hkept hi (by omega) hR hlt hk rfl hL ih hsrc
def mostOf (r:Rule) (n:Int):Int:=if n<0∨256<n then -1 else max (n - (lostOf (radius r.hood):Nat)) (-1)
theorem MMost_calls {W w:World} {r:Rule} {hv nv:Value} {mb sb rb:Nat} {ns:List K4} {mm:List ((Int×Int)×Int)} {Ps:List Res} (h:Has W w (memoL r hv nv mb sb rb ns mm Ps)) (n:Int) :
  Calls Try.prog 12 #[.pointer (some ⟨mb,0,none⟩),.int .i64 n] w fun e w'=>e=.returned (.int .i64 (mostOf r n))∧w=w':=by
 obtain⟨_,_,_,_,_,m5,ml⟩:=memo_cells h
 have hl:=lost_le (radius_le r.hood).1 (radius_le r.hood).2
 clear h
 generalize hlo:lostOf (radius r.hood)=lo at m5 hl
 have HM:=Lib.hid (show mostOf r n=if n<0∨256<n then -1 else max (n - (lo:Nat)) (-1) by rw [← hlo];rfl)
 clear hlo
 by_cases h1:n<0
 ·go_enter Try.func12,Try.ntmps12
  go_wp2
  all_goals
   go_ret
   exact⟨ret_int' (by rw [HM.out,if_pos (.inl h1)]),rfl⟩
 ·by_cases h2:256<n
  ·go_enter Try.func12,Try.ntmps12
   go_wp2
   all_goals
    go_ret
    exact⟨ret_int' (by rw [HM.out,if_pos (.inr h2)]),rfl⟩
  ·go_enter Try.func12,Try.ntmps12
   go_wp2
   all_goals
    go_ret
    exact⟨ret_int' (by rw [HM.out,if_neg (by omega)];try omega),rfl⟩
theorem MMost_nil {w:World} (n:Int):Calls Try.prog 12 #[.pointer none,.int .i64 n] w fun e w'=>e=.returned (.int .i64 (-1))∧w=w':=by
 go_enter Try.func12,Try.ntmps12
 go_wp2
 all_goals
  go_ret
  exact⟨rfl,rfl⟩
theorem MStep_nil {w:World} (id k:Int):Calls Try.prog 9 #[.pointer none,.int .i64 id,.int .i64 k] w fun e w'=>e=.returned (.tuple #[.int .i64 0,.int .i64 1])∧w=w':=by
 go_enter Try.func9,Try.ntmps9
 go_wp2
 all_goals
  go_ret2
  exact⟨rfl,rfl⟩
theorem MKnown_calls {W w:World} {r:Rule} {hv nv:Value} {mb sb rb:Nat} {ns:List K4} {mm:List ((Int×Int)×Int)} {Ps:List Res} (h:Has W w (memoL r hv nv mb sb rb ns mm Ps)) :
  Calls Try.prog 13 #[.pointer (some ⟨mb,0,none⟩)] w fun e w'=>e=.returned (.int .i64 mm.length)∧w=w':=by
 obtain⟨_,_,_,_,m4,_,ml⟩:=memo_cells h
 obtain⟨F9,hM,_⟩:=h.swap.head
 have hlen:=MapIs.len hM Try.underlying79
 clear h hM
 go_enter Try.func13,Try.ntmps13
 go_wp2
 all_goals
  go_ret
  exact⟨rfl,rfl⟩
def StepEnd (W:World) (r:Rule) (hv nv:Value) (mb sb rb:Nat) (L:List Tr) (ns:List K4) (mm:List ((Int×Int)×Int)) (id k:Int) (Ps:List Res) (e:Ending) (w':World):Prop :=
 (¬ Kn r.S ns id∧e=.returned (.tuple #[.int .i64 0,.int .i64 13])∧Has W w' (memoL r hv nv mb sb rb ns mm Ps)) ∨
 (∃ n t,Is r.S ns n id t∧(k<0∨mostOf r n<k)∧e=.returned (.tuple #[.int .i64 0,.int .i64 18])∧Has W w' (memoL r hv nv mb sb rb ns mm Ps)) ∨
 (∃ n t,∃ k':Nat,Is r.S ns n id t∧k=k'∧lostOf (radius r.hood)≤n∧k'≤n - lostOf (radius r.hood)∧StepPost W r hv nv mb sb rb L ns mm n k' id (stp (gen r) n k' t) Ps e w')
set_option maxHeartbeats 4000000 in
theorem MStep_calls {W w:World} {r:Rule} {ha na:Option Addr} {hc nc:Nat} {mb sb rb:Nat} {L:List Tr} {ns:List K4} {mm:List ((Int×Int)×Int)} {Ps:List Res} (hR:rightR r=true) (hsrc:RuleSrc W (.slice ha r.hood.length hc) (.slice na r.nodes.length nc) r Ps)
  (h:Has W w (memoL r (.slice ha r.hood.length hc) (.slice na r.nodes.length nc) mb sb rb ns mm Ps)) (hroom:room r.S ns L) (hkept:Kept r ns mm) (id k:Int)
  (hL:∀ (n k':Nat) (t:Tr),Is r.S ns n id t→k=k'→lostOf (radius r.hood)≤n→k'≤n - lostOf (radius r.hood)→n≤200∧∀ u∈need (gen r) (lostOf (radius r.hood)) n k' t,u∈L) :
  Calls Try.prog 9 #[.pointer (some ⟨mb,0,none⟩),.int .i64 id,.int .i64 k] w (StepEnd W r (.slice ha r.hood.length hc) (.slice na r.nodes.length nc) mb sb rb L ns mm id k Ps):=by
 have hg:=has_good h
 have hlv:=Level_has h id
 obtain⟨_,_,_,m3,_,_,ml⟩:=memo_cells h
 by_cases hk:Kn r.S ns id
 ·have hi:Is r.S ns (tr r.S ns id).ht id (tr r.S ns id):=Is.of_lvl hg (lvl_ht hg ns.length (by have:=hk.2;omega) hk)
  generalize (tr r.S ns id).ht=n at hi
  generalize tr r.S ns id=t at hi
  have hlv:=LevelIs_has h hi
  have HLV:=Lib.hid hlv
  have HI:=Lib.hid hi
  have hne:((n:Int)<0)=False:=by simp
  have hlt:decide ((n:Int)<0)=false:=by simp
  clear h hlv
  by_cases h0:k<0
  ·clear hroom hkept hL hi
   go_enter Try.func9,Try.ntmps9
   go_wp2_with fail
   refine HLV.out.mono ?_
   rintro e w5 ⟨rfl,h5,hf⟩
   have H5:=Lib.hid h5
   clear h5 hf m3 ml
   go_wp2
   all_goals
    go_ret2
    exact .inr (.inl ⟨n,t,HI.out,.inl h0,rfl,H5.out⟩)
  ·obtain⟨k',rfl⟩:∃ k':Nat,k=k':=⟨k.toNat,by omega⟩
   have hk0:((k':Int)<0)=False:=by simp
   have hk0':decide ((k':Int)<0)=false:=by simp
   have HM:=Lib.hid (fun w1 (h1:Has W w1 (memoL r (.slice ha r.hood.length hc) (.slice na r.nodes.length nc) mb sb rb ns mm Ps))=>MMost_calls h1 n)
   have hl:=lost_le (radius_le r.hood).1 (radius_le r.hood).2
   by_cases hm:mostOf r n<k'
   ·have hmd:decide ((k':Int) > mostOf r n)=true:=by simp;omega
    have HM2:=Lib.hid hm
    clear hroom hkept hL hi hm hl
    go_enter Try.func9,Try.ntmps9
    go_wp2_with fail
    refine HLV.out.mono ?_
    rintro e w5 ⟨rfl,h5,hf⟩
    have H5:=Lib.hid h5
    clear h5 hf m3 ml
    go_wp2_with fail
    refine (HM.out _ H5.out).mono ?_
    rintro e w5 ⟨rfl,rfl⟩
    go_wp2
    all_goals
     go_ret2
     exact .inr (.inl ⟨n,t,HI.out,.inr HM2.out,rfl,H5.out⟩)
   ·have hmd:decide ((k':Int) > mostOf r n)=false:=by simp;omega
    have hmk:lostOf (radius r.hood)≤n∧k'≤n - lostOf (radius r.hood):=by
     unfold mostOf at hm
     split at hm<;>omega
    obtain⟨hn,hL⟩:=hL n k' t hi rfl hmk.1 hmk.2
    have HST:=Lib.hid (fun w1 (h1:Has W w1 (memoL r (.slice ha r.hood.length hc) (.slice na r.nodes.length nc) mb sb rb ns mm Ps))=>step_all (L:=L) (mb:=mb) (sb:=sb) (rb:=rb) hR n hn w1 Ps ns mm id k' t h1 hroom hkept hi hmk.1 hmk.2 hL hsrc)
    have HMK:=Lib.hid hmk
    clear hroom hkept hL hi hm hl hmk
    go_enter Try.func9,Try.ntmps9
    go_wp2_with fail
    refine HLV.out.mono ?_
    rintro e w5 ⟨rfl,h5,hf⟩
    have H5:=Lib.hid h5
    clear h5 hf m3 ml
    go_wp2_with fail
    refine (HM.out _ H5.out).mono ?_
    rintro e w5 ⟨rfl,rfl⟩
    go_wp2_with fail
    refine (HST.out _ H5.out).mono ?_
    rintro e w6 ⟨res,ns',mm',rfl,h6⟩
    have H6:=Lib.hid h6
    clear h6
    go_wp2
    all_goals
     go_ret2
     exact .inr (.inr ⟨n,t,k',HI.out,rfl,HMK.out.1,HMK.out.2,res,ns',mm',rfl,H6.out⟩)
 ·have hlt:¬ 0≤lvl r.S (levs r.S ns) id:=fun h=>hk ((kn_lvl hg id).1 h)
  generalize lvl r.S (levs r.S ns) id=v at hlv hlt
  have HLV:=Lib.hid hlv
  have hv:decide (v<0)=true:=by simp;omega
  clear h hlv hroom hkept hL hg
  go_enter Try.func9,Try.ntmps9
  go_wp2_with fail
  refine HLV.out.mono ?_
  rintro e w5 ⟨rfl,h5,hf⟩
  have H5:=Lib.hid h5
  clear h5 hf m3 ml
  go_wp2
  all_goals
   go_ret2
   exact .inl ⟨hk,rfl,H5.out⟩
end Go.Proofs.Ytppmnmheodimoaa
end
section
namespace Go.Proofs.Ytppmnmheodimoaa
open Go Go.RowKit Rg Mp Hp Qs Ev
theorem run_field_S (w:World) (s:Int) (x:Value):(Instr.field 39 (.agg #[.int .i64 s,x]) 0).run Try.prog w=.ok (.int .i64 s) w:=by
 simp [Instr.field,Sem.run_bind,run_underlying,Try.underlying39,part,go_sem,asAgg,isAgg,Try.underlying3]
theorem run_maxq {q z:Int} (hz:z=max q 1) (w:World):(Builtin.max_ #[3,3] 3 #[.int .i64 q,.int .i64 1]).run Try.prog w=.ok (.int .i64 z) w:=by
 subst hz
 unfold Builtin.max_
 simp [Builtin.max2]
 split<;>omega
theorem has_map {W w:World} {Ps:List Res} (h:Has W w Ps):Has W (w.alloc (.map #[] 0)) (mapR w.heap.size []::Ps) :=
 h.new (F:=[w.heap.size]) ((Fr.refl [] w).alloc _) ⟨MapIs.made w,rfl⟩ (by simp)
theorem memo_made {W w:World} {r:Rule} {hv nv:Value} {sb rb:Nat} {ns:List K4} {Ps:List Res} (h:Has W w (mapR rb []::sTR sb r.S ns::Ps)) {z:Int} (hz:z=(lostOf (radius r.hood):Nat)) :
  Has W (w.alloc (.cells #[.int .i64 r.S,hv,nv,.pointer (some ⟨sb,0,none⟩),.map (some rb),.int .i64 z] 81 (0,0))) (memoL r hv nv w.heap.size sb rb ns [] Ps):=by
 subst hz
 have h1:=hAL h (mcells r hv nv sb rb) 81
 have p:[Hp.blk w.heap.size (.cells (mcells r hv nv sb rb) 81 (0,0)),mapR rb [],sTR sb r.S ns].Perm [sTR sb r.S ns,mapR rb [],Hp.blk w.heap.size (.cells (mcells r hv nv sb rb) 81 (0,0))]:=List.reverse_perm [sTR sb r.S ns,mapR rb [],Hp.blk w.heap.size (.cells (mcells r hv nv sb rb) 81 (0,0))]
 exact h1.perm (p.append_right Ps)
def rv (r:Rule) (ha na:Option Addr) (hc nc:Nat):Value:=.agg #[.int .i64 r.S,.slice ha r.hood.length hc,.slice na r.nodes.length nc]
section
variable {w:World} {r:Rule} {ha na:Option Addr} {hc nc:Nat} (hru:RuleAt w (.slice ha r.hood.length hc) (.slice na r.nodes.length nc) r) (hlh:r.hood.length≤1000000) (hln:r.nodes.length≤1000000)
include hru hlh hln
end
set_option maxHeartbeats 4000000 in
set_option maxRecDepth 100000 in
theorem MNew_calls {W w:World} {r:Rule} {ha na:Option Addr} {hc nc:Nat} (hru:RuleAt w (.slice ha r.hood.length hc) (.slice na r.nodes.length nc) r) (hlh:r.hood.length≤1000000) (hln:r.nodes.length≤1000000)
  (hR:rightR r=true) {sb:Nat} {S:Int} {ns:List K4} {Ps:List Res} (h:Has W w (sTR sb S ns::Ps)) :
  Calls Try.prog 10 #[rv r ha na hc nc,.pointer (some ⟨sb,0,none⟩)] w fun e w'=>((S≠r.S∧e=.returned (.tuple #[.pointer none,.int .i64 10])∧Has W w' (sTR sb S ns::Ps)) ∨
   (S=r.S∧∃ mb rb,e=.returned (.tuple #[.pointer (some ⟨mb,0,none⟩),.int .i64 0])∧Has W w' (memoL r (.slice ha r.hood.length hc) (.slice na r.nodes.length nc) mb sb rb ns [] Ps))):=by
 have HT:=Lib.hid (fun w1 (hf:Fr [] w w1)=>TRight_calls (hru.fr hf) hlh hln)
 have HRad:=Lib.hid (fun w1 (hf:Fr [] w w1)=>HRadius_calls (hru.fr hf).1 hlh)
 have H:=Lib.hid h
 have hr2:=radius_le r.hood
 generalize hrad:radius r.hood=q at HRad hr2
 have HQ:=Lib.hid hrad
 obtain⟨z,hzq⟩:∃ z,z=max q 1:=⟨_,rfl⟩
 have hz1:1≤z:=by omega
 have hz2:z≤2:=by omega
 have hwz:IntKind.i64.wrap (z+1)=z+1:=by simp [IntKind.wrap,IntKind.signed,IntKind.bits];omega
 have hmaxq:=fun w1=>run_maxq (q:=q) hzq w1
 have HZ:=Lib.hid hzq
 clear hzq hr2
 clear hru h hrad
 have hmm:=@run_makeMap Try.prog
 unfold rv
 rw [hR] at HT
 go_enter Try.func10,Try.ntmps10
 go_wp2_with fail
 refine (HT.out _ (by (repeat first|exact Fr.refl _ _|assumption|apply Fr.n|apply Fr.d|apply Fr.a|refine Fr.s ?_ (.inr (by simp;try omega)) _))).mono ?_
 rintro e w5 ⟨rfl,hf⟩
 have Hf:=Lib.hid (Fr.trans0 (by (repeat first|exact Fr.refl _ _|assumption|apply Fr.n|apply Fr.d|apply Fr.a|refine Fr.s ?_ (.inr (by simp;try omega)) _):Fr [] w _) hf)
 have ht_:=(hf.block (w.heap.size) (by first|(simp;done)|(simp;omega)) (by simp)).trans (show _=some (.cells #[.int .i64 r.S,.slice ha r.hood.length hc,.slice na r.nodes.length nc] 31 (0,0)) by (repeat first|rw [if_pos (by omega)]|rw [if_neg (by omega)]|rw [hDR]|rw [hDN]|rw [hAz]|rw [hSz]|rw [hAC]|rw [hSC]|rw [oMS]|rw [uPC]|rw [lSZ]|rw [lSS]|rfl))
 have t0:=hEC ht_ 0
 have t1:=hEC ht_ 1
 have t2:=hEC ht_ 2
 have tl:=lBk ht_
 have Ht:=Lib.hid ht_
 clear ht_
 clear hf
 go_wp2
 refine wRS [([0,3,4,1],[4]),([2,5,6],[])] (by kernel_rfl) (by kernel_rfl) ?_
 (simp only [wpSegs,pick,Array.getD_eq_getD_getElem?,List.getElem?_toArray,List.getElem?_cons_succ,List.getElem?_cons_zero,Option.getD_some])
 go_wp2_with fail
 refine (Data_has (H.out.step (Fr.trans0 Hf.out (by (repeat first|exact Fr.refl _ _|assumption|apply Fr.n|apply Fr.d|apply Fr.a|refine Fr.s ?_ (.inr (by simp;try omega)) _))))).mono ?_
 rintro e w6 ⟨xa,xc,rfl,_,h6,hf⟩
 (try clear t0)
 (try clear t1)
 (try clear t2)
 (try clear tl)
 have ht_:=(hf.block _ (lBk Ht.out) (by simp)).trans Ht.out
 clear Ht
 have t0:=hEC ht_ 0
 have t1:=hEC ht_ 1
 have t2:=hEC ht_ 2
 have tl:=lBk ht_
 have Ht:=Lib.hid ht_
 clear ht_
 have Hf:=Lib.hid (Hf.out.trans0 (Fr.trans0 (by (repeat first|exact Fr.refl _ _|assumption|apply Fr.n|apply Fr.d|apply Fr.a|refine Fr.s ?_ (.inr (by simp;try omega)) _)) hf))
 have H6:=Lib.hid h6
 have hfld:=run_field_S w6 S (.slice xa ns.length xc)
 clear hf h6 H
 go_wp2
 refine Mid.intro ⟨⟨again_cell (T:=3) rfl rfl rfl Try.underlying3 rfl t0 rfl,trivial⟩,?_⟩
 by_cases hS:S=r.S
 ·have HS:=Lib.hid hS
  subst hS
  go_wp2
  refine Mid.intro ⟨trivial,Strict.intro rfl ?_⟩
  go_upto_region 7 with fail
  go_cut [4,5] (fun s4 s5 wx=>∃ mb rb,s4=.pointer (some ⟨mb,0,none⟩)∧s5=.int .i64 0∧Hid (Has W wx (memoL r (.slice ha r.hood.length hc) (.slice na r.nodes.length nc) mb sb rb ns [] Ps)))
  case first =>
   have n10:=World.new_ne w6 _ t0
   have n11:=World.new_ne w6 _ t1
   have n12:=World.new_ne w6 _ t2
   go_region_held3 (fun w'=>w'.cell? ⟨w.heap.size,0,none⟩=some (.int .i64 r.S)∧w'.cell? ⟨w.heap.size,1,none⟩=some (.slice ha r.hood.length hc)∧w'.cell? ⟨w.heap.size,2,none⟩=some (.slice na r.nodes.length nc)) (first|go_keep|exact⟨k0,k1,k2⟩)
    (first|(go_at_call 38;refine (HRad.out _ (by have:=Hf.out;(repeat first|exact Fr.refl _ _|assumption|apply Fr.n|apply Fr.d|apply Fr.a|refine Fr.s ?_ (.inr (by simp;try omega)) _))).mono ?_;rintro e wA ⟨rfl,hf0⟩;have h45:Fr [] w6 wA:=Fr.trans0 (by (repeat first|exact Fr.refl _ _|assumption|apply Fr.n|apply Fr.d|apply Fr.a|refine Fr.s ?_ (.inr (by simp;try omega)) _)) hf0;have k0:=(h45.cell (p:=⟨w.heap.size,0,none⟩) tl (by simp)).trans t0;have k1:=(h45.cell (p:=⟨w.heap.size,1,none⟩) tl (by simp)).trans t1;have k2:=(h45.cell (p:=⟨w.heap.size,2,none⟩) tl (by simp)).trans t2;have n0:=World.new_ne wA _ k0;have n1:=World.new_ne wA _ k1;have n2:=World.new_ne wA _ k2))
   all_goals
    go_wp2_with fail
    go_meet
    have hz:z+1=((lostOf (radius r.hood):Nat):Int):=by rw [HQ.out];have:=HZ.out;unfold lostOf;omega
    first
     | exact⟨_,_,rfl,rfl,Lib.hid (memo_made (((has_map H6.out).step ((Fr.refl [] _).drew)).step hf0) hz)⟩
     | exact⟨_,_,rfl,rfl,Lib.hid (hAz wA (.map #[] 0)▸memo_made (has_map (H6.out.step h45)) hz)⟩
  case rest =>
   obtain⟨mb,rb,rfl,rfl,HM⟩:=hcut
   go_wp2
   go_ret2
   exact⟨mb,rfl,rb,HM.out⟩
 ·have hS1:(S != r.S)=true:=by simpa using hS
  go_wp2
  refine Mid.intro ⟨trivial,Strict.intro rfl ?_⟩
  go_wp2
  go_ret2
  exact Or.inl ⟨hS,rfl,by have:=H6.out;exact this.step (by (repeat first|exact Fr.refl _ _|assumption|apply Fr.n|apply Fr.d|apply Fr.a|refine Fr.s ?_ (.inr (by simp;try omega)) _))⟩
end Go.Proofs.Ytppmnmheodimoaa
end
section
namespace Go.Proofs.Ytppmnmheodimoaa
open Go Go.RowKit Rg Mp Hp Qs Ev
def refR (b:Nat) (s:Int) (ns:List K4):Res where
 holds w F:=RefAt w b s ns F
 keep:=fun h hk=>h.keep hk
 lt:=fun h=>h.lt
section
variable {w:World} {r:Rule} {ha na:Option Addr} {hc nc:Nat} (hru:RuleAt w (.slice ha r.hood.length hc) (.slice na r.nodes.length nc) r) (hlh:r.hood.length≤1000000) (hln:r.nodes.length≤1000000)
include hru hlh hln
end
end Go.Proofs.Ytppmnmheodimoaa
end
section
namespace Go.Proofs.Pt
theorem bad_here {l:List PC} {k:Nat} {c:PC} (h0:badP (l.take k)=0) (hc:l[k]?=some c) (hb:badP [c]≠0):badP l=badP [c]:=by
 have e:l=(l.take k++[c])++l.drop (k+1):=by
  rw [← List.take_append_drop k l,List.take_append_drop]
  have hk:=(List.getElem?_eq_some_iff.1 hc)
  obtain⟨hk,rfl⟩:=hk
  rw [List.append_assoc,List.singleton_append,← List.drop_eq_getElem_cons hk,List.take_append_drop]
 have h1:badP (l.take k++[c])=badP [c]:=by rw [badP_snoc,h0];simp
 rw [e,badP_app (by rw [h1];exact hb),h1]
theorem bad_next {l:List PC} {k:Nat} {c:PC} (h0:badP (l.take k)=0) (hc:l[k]?=some c) (hb:badP [c]=0):badP (l.take (k+1))=0:=by
 rw [List.take_add_one,hc]
 show badP (l.take k++[c])=0
 rw [badP_snoc,h0];simpa using hb
theorem some_next {l:List PC} {k:Nat} {c:PC} (hc:l[k]?=some c):someP (l.take (k+1))=someP (l.take k)++if c.st≠0 then [c] else []:=by
 rw [List.take_add_one,hc]
 show someP (l.take k++[c])=_
 unfold someP
 rw [List.filter_append]
 by_cases h:c.st=0<;>simp [h]
theorem fromP_bad {l:List PC} (h:badP l≠0):fromP l=([],badP l):=by unfold fromP;rw [if_pos h]
end Go.Proofs.Pt
namespace Go.Proofs.Ytppmnmheodimoaa
open Go Go.RowKit Rg Hp Pt
theorem info_cell:(Try.prog.info? 110).map (fun i=>(i.zero,i.size,i.bytes))=some (some (.agg #[.int .i64 0,.int .i64 0,.int .i64 0]),3,24):=by kernel_rfl
theorem append_pc {ops:Array Oper} {rest:List Oper} {o:Oper} {a:Act} {W:World} {Q:Exit→Act→World→Prop} (hgd:o.guard=none) {s x:Operand} {t1:TypeId} (ho:o.op=.call { callee:=.builtin .append,args:=#[s,x],argTypes:=#[t1,t1] }) (ht:Try.prog.underlying t1=some (.slice 110))
  {base:Nat} {v:Value} {n:Nat} {xs:List Value} (hs:a.eval s=v) (hown:W.ownsRow base 110 3 v n xs) {nb c:Nat} {y:PC} (hx:a.eval x=.slice (some ⟨nb,0,none⟩) 1 c)
  (hnb:W.heap[nb]?=some (.cells #[.int .i64 y.x,.int .i64 y.y,.int .i64 y.st] 110 (0,0))) (hn:n≤4000000000000) (hbase:base≤W.heap.size)
  (h:∀ g cap w',w'.ownsRow base 110 3 (.slice (some ⟨g,0,none⟩) (n+1) cap) (n+1) (xs++[.int .i64 y.x,.int .i64 y.y,.int .i64 y.st])→(∀ b,b<W.heap.size→v.ownBlock≠some b→w'.heap[b]?=W.heap[b]?)→Fr v.ownBlock.toList W w'→(v.ownBlock=some g∨g=W.heap.size)→g<w'.heap.size →
   wpList Try.prog ops Q rest (a.put o.dst (.slice (some ⟨g,0,none⟩) (n+1) cap)) w'):wpList Try.prog ops Q (o::rest) a W :=
 append_new hgd ho ht info_cell rfl (by decide) hs hown hx (news:=[.int .i64 y.x,.int .i64 y.y,.int .i64 y.st]) hnb rfl (by intro u hu;simp at hu;rcases hu with rfl|rfl|rfl<;>rfl) (by unfold maxLen;omega) (by omega) hbase h
theorem pcs_snoc (l:List PC) (c:PC):pcs l++[.int .i64 c.x,.int .i64 c.y,.int .i64 c.st]=pcs (l++[c]):=by simp [pcs]
theorem append_pp {ops:Array Oper} {rest:List Oper} {o:Oper} {a:Act} {W:World} {Q:Exit→Act→World→Prop} (hgd:o.guard=none) {s x:Operand} (ho:o.op=.call { callee:=.builtin .append,args:=#[s,x],argTypes:=#[61,61] })
  {base:Nat} {v:Value} {n:Nat} {xs:List Value} (hs:a.eval s=v) (hown:W.ownsRow base 110 3 v n xs) {nb c:Nat} {y:PC} (hx:a.eval x=.slice (some ⟨nb,0,none⟩) 1 c)
  (hnb:W.heap[nb]?=some (.cells #[.int .i64 y.x,.int .i64 y.y,.int .i64 y.st] 110 (0,0))) (hn:n≤4000000000000) (hbase:base≤W.heap.size)
  (h:∀ g cap w',w'.ownsRow base 110 3 (.slice (some ⟨g,0,none⟩) (n+1) cap) (n+1) (xs++[.int .i64 y.x,.int .i64 y.y,.int .i64 y.st])→(∀ b,b<W.heap.size→v.ownBlock≠some b→w'.heap[b]?=W.heap[b]?)→Fr v.ownBlock.toList W w'→(v.ownBlock=some g∨g=W.heap.size)→g<w'.heap.size →
   wpList Try.prog ops Q rest (a.put o.dst (.slice (some ⟨g,0,none⟩) (n+1) cap)) w'):wpList Try.prog ops Q (o::rest) a W :=
 append_pc hgd ho Try.underlying61 hs hown hx hnb hn hbase h
theorem owns_none (w:World) (base e size:Nat):w.ownsRow base e size (.slice none 0 0) 0 []:=⟨by simp,.inl ⟨rfl,rfl⟩⟩
end Go.Proofs.Ytppmnmheodimoaa
end
section
namespace Go.Proofs.Ytppmnmheodimoaa
open Go Go.RowKit Rg Mp Hp Qs Ev Bn Pt
def inB (n f:Int) (L:Nat):Bool:=decide (f≤n∧n - f<((2 ^ L:Nat):Int))
end Go.Proofs.Ytppmnmheodimoaa
end
section
namespace Go.Proofs.Ytppmnmheodimoaa
open Go Go.RowKit Rg Mp Hp Qs Ev Bn Pt
def RdRel (ok:Bool) (l C:List PC) (ok':Bool) (l':List PC):Prop :=
 (ok'=true→ok=true∧l'=l++C)∧(ok'=false→ok=false∨∃ c∈C,placeB c.x c.y=false)∧l'.length≤l.length+C.length
theorem RdRel.refl (ok:Bool) (l:List PC):RdRel ok l [] ok l:=⟨fun h=>⟨h,by simp⟩,fun h=>.inl h,by simp⟩
theorem RdRel.trans {a b c:Bool} {l m n C D:List PC} (h:RdRel a l C b m) (k:RdRel b m D c n):RdRel a l (C++D) c n:=by
 obtain⟨h1,h2,h3⟩:=h
 obtain⟨k1,k2,k3⟩:=k
 refine⟨fun e=>?_,fun e=>?_,by rw [List.length_append];omega⟩
 ·obtain⟨e1,rfl⟩:=k1 e
  obtain⟨e2,rfl⟩:=h1 e1
  exact⟨e2,by rw [List.append_assoc]⟩
 ·rcases k2 e with e|⟨x,hx,hp⟩
  ·rcases h2 e with e|⟨x,hx,hp⟩
   ·exact .inl e
   ·exact .inr ⟨x,by simp [hx],hp⟩
  ·exact .inr ⟨x,by simp [hx],hp⟩
theorem RdRel.off {l C:List PC}:RdRel false l C false l:=⟨fun h=>by simp at h,fun _=>.inl rfl,by omega⟩
end Go.Proofs.Ytppmnmheodimoaa
end
section
namespace Go.Proofs.Ytppmnmheodimoaa
open Go Go.RowKit Rg Mp Hp Qs Ev Bn Pt
def OkB (l:List Spot):Prop:=(∀ c∈l,c.x<18446744073709551616∧c.y<18446744073709551616)∧l.length≤60000
theorem OkB.part {l:List Spot} (h:OkB l) (H k:Nat):OkB (partQ H k l):=by
 refine⟨fun c hc=>?_,?_⟩
 ·simp only [partQ,List.mem_map,List.mem_filter,decide_eq_true_eq] at hc
  obtain⟨d,⟨hd,_⟩,rfl⟩:=hc
  have:=h.1 d hd
  simp only [intoQ]
  constructor<;>split<;>omega
 ·simp only [partQ,List.length_map]
  exact Nat.le_trans (List.length_filter_le _ _) h.2
end Go.Proofs.Ytppmnmheodimoaa
end
section
namespace Go.Proofs.Hp
open Go Go.RowKit Mp
end Go.Proofs.Hp
namespace Go.Proofs.Ytppmnmheodimoaa
open Go Go.RowKit Rg Mp Hp Qs Ev Bn Pt
def spot (x y:Int) (c:PC):Spot:=⟨(c.x - x).toNat,(c.y - y).toNat,c.st⟩
def inC (x y:Int) (L:Nat) (c:PC):Bool:=inB c.x x L && inB c.y y L
def stB (s:Int) (c:PC):Bool:=decide (0≤c.st∧c.st<s)
def fromQ (s:Int) (ns:List K4) (p:List PC) (x y level:Int):(Int×Int)×List K4 :=
 if rightP p=false then ((0,2),ns) else if level<0∨256<level then ((0,18),ns)
 else if p.all (inC x y level.toNat)=false then ((0,5),ns)
 else if p.all (stB s)=false then ((0,10),ns)
 else buildQ s level.toNat ns (p.map (spot x y))
theorem right_cell {p:List PC} (h:rightP p=true):p.length≤5000∧∀ c∈p,(-1048576≤c.x∧c.x≤1048576)∧(-1048576≤c.y∧c.y≤1048576)∧1≤c.st∧c.st<8:=by
 unfold rightP at h
 simp only [Bool.and_eq_true,decide_eq_true_eq,List.all_eq_true] at h
 refine⟨h.1,fun c hc=>?_⟩
 have:=h.2.1 c hc
 simp only [cellB,placeB,Bool.and_eq_true,decide_eq_true_eq] at this
 omega
theorem all_take {p:List PC} {f:PC→Bool} {k:Nat} {c:PC} (h:(p.take k).all f=true) (hc:p[k]?=some c) (hf:f c=true):(p.take (k+1)).all f=true:=by
 rw [List.take_add_one,hc]
 simp only [Option.toList_some,List.all_append,h,List.all_cons,hf,List.all_nil,Bool.and_self]
theorem all_bad {p:List PC} {f:PC→Bool} {k:Nat} {c:PC} (hc:p[k]?=some c) (hf:f c=false):p.all f=false:=by
 rw [List.all_eq_false]
 exact⟨c,List.mem_of_getElem? hc,by rw [hf];simp⟩
end Go.Proofs.Ytppmnmheodimoaa
end
