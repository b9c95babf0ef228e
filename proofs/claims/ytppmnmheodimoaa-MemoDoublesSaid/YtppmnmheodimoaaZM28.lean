/- Own texts of this claim, part 29: no condition. -/
import Derived.Test.YtppmnmheodimoaaZM22
set_option linter.unusedVariables false
set_option linter.unusedSimpArgs false
section
/- direct of package memo: the walk. -/
namespace Go.Proofs.Ytppmnmheodimoaa
open Go Go.RowKit Go.Proofs.Rg Go.Proofs.Mp Go.Proofs.Hp Go.Proofs.Qs Go.Proofs.Ev
set_option linter.unusedVariables false
set_option linter.unusedSimpArgs false
set_option maxHeartbeats 16000000 in
set_option maxRecDepth 100000 in
theorem direct_four {W : World} {r : Rule} {ha na : Option Addr} {hc nc : Nat} {mb sb rb : Nat} {L : List Tr} (hR : rightR r = true) (hlo : lostOf (radius r.hood) = 2) : DirectAt W r (.slice ha r.hood.length hc) (.slice na r.nodes.length nc) mb sb rb L 2 := by
  intro w Ps ns mm id t h hroom hkept hi hL hru
  show Calls Try.prog 60 #[.pointer (some ⟨mb, 0, none⟩), .int .i64 id, .int .i64 2] w _
  have HRU := Lib.hid hru
  have H := Lib.hid h
  have Hroom := Lib.hid hroom
  have Hkept := Lib.hid hkept
  have HI := Lib.hid hi
  have HL := Lib.hid hL
  have hmk := make_rows4
  have HLO := Lib.hid hlo
  clear hru h hroom hkept hi hL hlo
  go_enter Try.func60, Try.ntmps60
  go_upto_region 2 with fail
  go_cut [9, 10] (fun s9 s10 wx => ∃ oa ob : Nat, s9 = .slice (some ⟨oa, 0, none⟩) 4 4 ∧ s10 = .slice (some ⟨ob, 0, none⟩) 4 4 ∧ Hid (Has W wx (memoL r (.slice ha r.hood.length hc) (.slice na r.nodes.length nc) mb sb rb ns mm (pmatR oa 4 [] :: pmatR ob 4 [] :: Ps))))
  case first =>
    go_region
    all_goals
      go_wp2_with fail
      go_meet
    · exact ⟨_, _, rfl, rfl, Lib.hid ((two_tabs (m := 4) (X := #[.slice none 0 0, .slice none 0 0, .slice none 0 0, .slice none 0 0]) H.out rfl).step ((Fr.refl [] _).drew))⟩
    · exact ⟨_, _, rfl, rfl, Lib.hid ((two_tabs (m := 4) (X := #[.slice none 0 0, .slice none 0 0, .slice none 0 0, .slice none 0 0]) H.out rfl).fifth.step ((Fr.refl [] _).drew))⟩
  case rest =>
    obtain ⟨oa, ob, rfl, rfl, HT⟩ := hcut
    clear hmk H
    have hmk := make_row4
    go_wp2
    go_loopw [25] (fun x wr => ∃ (i : Nat) (aL bs : List Nat), x = .int .i64 i ∧ i ≤ 4 ∧ aL.length = i ∧ bs.length = i ∧ Hid (Has W wr (memoL r (.slice ha r.hood.length hc) (.slice na r.nodes.length nc) mb sb rb ns mm (pmatR oa 4 aL :: pmatR ob 4 bs :: Ps)))) (fun x _ => 4 - (intOf x).toNat)
    case atStart => exact ⟨0, [], [], rfl, by omega, rfl, rfl, HT⟩
    case round =>
      clear HT
      obtain ⟨i, aL, bs, rfl, hi4, hal, hbl, HT⟩ := hrel
      have Hal := Lib.hid hal
      have Hbl := Lib.hid hbl
      by_cases hlt : i < 4
      · obtain ⟨⟨va, ca, hva⟩, za, la⟩ := pmat_cell HT.out.fourth (by omega)
        have hne := pmat_ne HT.out
        have hne' := Ne.symm hne
        obtain ⟨⟨vb, cb, hvb⟩, zb, lb⟩ := pmat_cell HT.out.fifth.fourth (by omega)
        rw [hal] at ca za
        rw [hbl] at cb zb
        clear hal hbl hva hvb
        go_wp2
        go_region
        all_goals
          go_wp2
        all_goals
          go_roundw
          case rel =>
            first
              | exact ⟨i + 1, aL ++ [wr.heap.size], bs ++ [wr.heap.size + 1], by go_num, by omega, by simp [Hal.out], by simp [Hbl.out], Lib.hid ((two_rows' (X := #[.int .i64 0, .int .i64 0, .int .i64 0, .int .i64 0]) HT.out rfl Hal.out Hbl.out hlt).step ((Fr.refl [] _).drew))⟩
              | exact ⟨i + 1, aL ++ [wr.heap.size + 1], bs ++ [wr.heap.size], by go_num, by omega, by simp [Hal.out], by simp [Hbl.out], Lib.hid ((setCell_swap wr hne' _ _ ▸ two_rows' (X := #[.int .i64 0, .int .i64 0, .int .i64 0, .int .i64 0]) HT.out.fifth rfl Hbl.out Hal.out hlt).fifth.step ((Fr.refl [] _).drew))⟩
              | (trace_state; sorry)
          case measure => simp [intOf]; omega
      · obtain rfl : i = 4 := by omega
        have h4 := pmat_full (pmat_full HT.out.fourth Hal.out).back4.fifth.fourth Hbl.out
        have HT4 := Lib.hid h4.back4.fifth
        have hl2 := lost_le (radius_le r.hood).1 (radius_le r.hood).2
        have HFI := Lib.hid (fun w1 (hf : Fr [] wr w1) => fillAt_two (W := W) (r := r) (hv := .slice ha r.hood.length hc) (nv := .slice na r.nodes.length nc) (mb := mb) (sb := sb) (rb := rb) (ns := ns) (mm := mm) (ob := oa) (m := 4) (bs := aL) (Ps := matR ob 4 bs (fun _ _ => 0) :: Ps) (by omega) (fillAt_one (by omega) (fillAt_zero (by omega))) w1 (fun _ _ => 0) id t 0 0 2 0 0 rfl rfl rfl (HT4.out.step hf) HI.out (by omega) (by omega))
        clear h4 hal hbl HT
        go_wp2_with fail
        refine (HFI.out _ (by (repeat (first | exact Fr.refl _ _ | assumption | apply Fr.drewN | apply Fr.drew | apply Fr.alloc | refine Fr.setCell ?_ (Or.inr (by simp; try omega)) _)))).mono ?_
        rintro e w5 ⟨rfl, h⟩
        have H5 := Lib.hid h
        clear h HFI HT4
        have HF0 := Lib.hid (fun (i j : Int) (h1 : 0 ≤ i) (h2 : i < 4) (h3 : 0 ≤ j) (h4 : j < 4) => show paste (fun _ _ => 0) 2 t 0 0 i j = cell 2 t i j by
          unfold paste
          rw [if_pos (by show 0 ≤ i ∧ i < 0 + 4 ∧ 0 ≤ j ∧ j < 0 + 4; omega), Int.sub_zero, Int.sub_zero])
        have HFOK := Lib.hid (fun (i j : Int) (h1 : 0 ≤ i) (h2 : i < 4) (h3 : 0 ≤ j) (h4 : j < 4) => show 0 ≤ paste (fun _ _ => 0) 2 t 0 0 i j ∧ paste (fun _ _ => 0) 2 t 0 0 i j < r.S by
          rw [HF0.out i j h1 h2 h3 h4]
          exact cell_ok 2 HI.out.2.2.1 HI.out.2.2.2 h1 h2 h3 h4)
        have H5' := Lib.hid (show Has W w5 (memoL r (.slice ha r.hood.length hc) (.slice na r.nodes.length nc) mb sb rb ns mm (matR oa 4 aL (paste (fun _ _ => 0) 2 t 0 0) :: matR ob 4 bs (fun _ _ => 0) :: Ps)) from H5.out)
        clear H5
        generalize paste (fun _ _ => 0) 2 t 0 0 = F0 at H5' HF0 HFOK
        have hrad : radius r.hood ≤ 1 := by have := HLO.out; unfold lostOf at this; omega
        have HRAD := Lib.hid hrad
        clear hrad
        go_wp2
        go_loopw [12] (fun x' wr => ∃ (y : Nat) (G : Fld), x' = .int .i64 y ∧ 1 ≤ y ∧ y ≤ 3 ∧ Hid (NextSt W wr r (.slice ha r.hood.length hc) (.slice na r.nodes.length nc) mb sb rb ns mm Ps oa ob 4 aL bs F0 G 1 y 0)) (fun x _ => 3 - (intOf x).toNat)
        case atStart => exact ⟨1, _, rfl, by omega, by omega, Lib.hid ⟨H5'.out, fun i j h1 h2 h3 h4 h5 => by omega⟩⟩
        case round =>
          clear H5'
          obtain ⟨y, G, rfl, hy1, hy3, HS⟩ := hrel
          by_cases hy : y < 3
          · have hdy : decide ((y : Int) < 3) = true := by simp; omega
            go_wp2
            go_loopw [13] (fun x' wr => ∃ (x : Nat) (G : Fld), x' = .int .i64 x ∧ 1 ≤ x ∧ x ≤ 3 ∧ Hid (NextSt W wr r (.slice ha r.hood.length hc) (.slice na r.nodes.length nc) mb sb rb ns mm Ps oa ob 4 aL bs F0 G 1 y x)) (fun x _ => 3 - (intOf x).toNat)
            case atStart => exact ⟨1, _, rfl, by omega, by omega, Lib.hid ⟨HS.out.has, fun i j h1 h2 h3 h4 h5 => HS.out.done i j h1 h2 h3 h4 (by omega)⟩⟩
            case round =>
              clear HS
              obtain ⟨x, G, rfl, hx1, hx3, HS⟩ := hrel
              by_cases hx : x < 3
              · have hdx : decide ((x : Int) < 3) = true := by simp; omega
                obtain ⟨m0, m1, m2, m3, _, _, ml⟩ := memo_cells HS.out.has
                have HRN := Lib.hid (HRU.out wr _ HS.out.has (fun P hP => by unfold memoL; simp [hP]))
                have hnl := right_len hR
                have hhl := right_hlen hR
                obtain ⟨wq, hwq⟩ : ∃ wq, wq = wr := ⟨_, rfl⟩
                go_wp2
                rw [← hwq] at HS HRN m0 m1 m2 m3 ml ⊢
                go_loopw [14, 75] (fun k' h' wl => ∃ hh : Nat, h' = .int .i64 hh ∧ hh ≤ r.hood.length ∧ k' = .int .i64 (down r ((r.hood.take hh).map fun p => F0 (x + p.1) (y + p.2))) ∧ Fr [] wq wl) (fun _ x _ => r.hood.length - (intOf x).toNat)
                case atStart => exact ⟨0, rfl, by omega, rfl, Fr.refl _ _⟩
                case round =>
                  obtain ⟨hh, rfl, hh1, rfl, hf⟩ := hrel
                  have Hf := Lib.hid hf
                  clear hf m0 m1 m2 m3 ml
                  have hs9 := HS.out.has.step Hf.out
                  by_cases hlt : hh < r.hood.length
                  · obtain ⟨⟨ox, oy⟩, hp⟩ : ∃ p, r.hood[hh]? = some p := ⟨_, List.getElem?_eq_getElem hlt⟩
                    obtain ⟨o1, o2, o3, o4⟩ := hood_in (right_hood hR) (List.mem_of_getElem? hp)
                    have hrad := HRAD.out
                    simp only at o1 o2 o3 o4
                    have b1 : -1 ≤ ox := by omega
                    have b2 : ox ≤ 1 := by omega
                    have b3 : -1 ≤ oy := by omega
                    have b4 : oy ≤ 1 := by omega
                    clear o1 o2 o3 o4 hrad
                    obtain ⟨gh, oh, heh, hgh, p0, p1⟩ := (HRN.out.1.fr Hf.out).cell hp
                    simp only at p0 p1
                    have hok := HFOK.out (x + ox) (y + oy) (by omega) (by omega) (by omega) (by omega)
                    have hst : ∀ s ∈ (r.hood.take hh).map (fun p => F0 (x + p.1) (y + p.2)), 0 ≤ s ∧ s < r.S := by
                      intro s hs
                      obtain ⟨q, hq, rfl⟩ := List.mem_map.1 hs
                      have hq' := hood_in (right_hood hR) (List.mem_of_mem_take hq)
                      have hrad := HRAD.out
                      exact HFOK.out _ _ (by omega) (by omega) (by omega) (by omega)
                    have hsn := down_snoc r ((r.hood.take hh).map fun p => F0 (x + p.1) (y + p.2)) (F0 (x + ox) (y + oy))
                    rw [← take_map_succ hp (fun p => F0 (x + p.1) (y + p.2))] at hsn
                    obtain ⟨k, gn, on, g2, off2, rl, rc, hk, hkl, hen, hgn, n1, hrl, hg2, n2⟩ := down_cell hR (HRN.out.2.fr Hf.out) hst (by simp; omega) hok.1 hok.2
                    obtain ⟨b, hb, c0, c1, _, cl, ol⟩ := mat_row hs9.fourth (y := (y + oy).toNat) (by omega)
                    replace c1 := c1 (x + ox).toNat (by omega)
                    rw [show (((x + ox).toNat : Nat) : Int) = x + ox by omega, show (((y + oy).toNat : Nat) : Int) = y + oy by omega] at c1
                    obtain ⟨m0, m1, m2, m3, _, _, ml⟩ := memo_cells hs9
                    rw [hk] at hsn ⊢
                    have HSN := Lib.hid hsn
                    generalize F0 (x + ox) (y + oy) = s at c1 n2 hok HSN
                    obtain ⟨s0, s1⟩ := hok
                    have e1 : (0 : Int) ≤ y + oy := by omega
                    have e2 : (0 : Int) ≤ x + ox := by omega
                    have e3 : (y : Int) + oy < 4 := by omega
                    have e4 : (x : Int) + ox < 4 := by omega
                    subst heh
                    subst hen
                    clear hp hst hsn hk hb hs9
                    go_wp2
                    (refine wp_region_text (by kernel_rfl) (by kernel_rfl) ?_)
                    have s2 : s < (rl : Int) := by omega
                    clear hrl s1
                    go_wp2
                    refine Strict.intro rfl ?_
                    go_wp2
                    go_roundw
                    case rel => exact ⟨hh + 1, by go_num, by omega, by rw [HSN.out], by have := Hf.out; (repeat (first | exact Fr.refl _ _ | assumption | apply Fr.drewN | apply Fr.drew | apply Fr.alloc | refine Fr.setCell ?_ (Or.inr (by simp; try omega)) _))⟩
                    case measure => simp [intOf]; omega
                  · have hhe : hh = r.hood.length := by omega
                    subst hhe
                    rw [List.take_length]
                    obtain ⟨b, hb, c0, c1, cf, cl, ol⟩ := mat_row hs9.fifth.fourth (y := y) (by omega)
                    have c1x := c1 x (by omega)
                    have cfx := cf x
                    go_wp2
                    go_roundw
                    case rel =>
                      obtain ⟨G', hG⟩ := NextSt.put HS.out Hf.out (by omega) hb (v := down r (r.hood.map fun p => F0 (x + p.1) (y + p.2))) rfl
                      exact ⟨x + 1, G', by go_num, by omega, by omega, Lib.hid hG⟩
                    case measure => simp [intOf]; omega
              · obtain rfl : x = 3 := by omega
                go_wp2
                go_roundw
                case rel => exact ⟨y + 1, G, by go_num, by omega, by omega, Lib.hid ⟨HS.out.has, fun i j h1 h2 h3 h4 h5 => HS.out.done i j h1 h2 h3 h4 (by omega)⟩⟩
                case measure => simp [intOf]; omega
          · obtain rfl : y = 3 := by omega
            have hG : ∀ i j : Nat, 1 ≤ i → i < 3 → 1 ≤ j → j < 3 → G i j = gen r F0 i j := fun i j h1 h2 h3 h4 => HS.out.done i j h1 (by omega) h3 (by omega) (by omega)
            have hrad := HRAD.out
            have hE : mk 1 G ((1 : Nat) : Int) ((1 : Nat) : Int) = stp (gen r) 2 0 t := by
              refine mk_congr 1 fun i j h1 h2 h3 h4 => ?_
              rw [p2_succ, p2_zero] at h2 h4
              have h5 := hG (1 + i).toNat (1 + j).toNat (by omega) (by omega) (by omega) (by omega)
              rw [show (((1 + i).toNat : Nat) : Int) = 1 + i by omega, show (((1 + j).toNat : Nat) : Int) = 1 + j by omega] at h5
              refine h5.trans (gen_local hR fun p q a1 a2 a3 a4 => ?_)
              exact HF0.out _ _ (by omega) (by omega) (by omega) (by omega)
            have HSQ := Lib.hid (squareAt_one (W := W) (r := r) (hv := .slice ha r.hood.length hc) (nv := .slice na r.nodes.length nc) (mb := mb) (sb := sb) (rb := rb) (L := L) (mm := mm) (ob := ob) (m := 4) (bs := bs) (F := G) (by omega) (squareAt_zero (by omega)) wr (matR oa 4 aL F0 :: Ps) ns 1 1 1 1 1 rfl rfl rfl HS.out.has.fifth Hroom.out (by omega) (by omega) (fun i j h1 h2 h3 h4 => by
              rw [hG i j h1 (by omega) h3 (by omega)]
              exact gen_ok hR fun p q a1 a2 a3 a4 => HFOK.out _ _ (by omega) (by omega) (by omega) (by omega)) (fun u hu => HL.out u (hE ▸ hu)))
            rw [hE] at HSQ
            clear hG hE hrad
            go_wp2_with fail
            refine HSQ.out.mono ?_
            rintro e w6 ⟨res, ns', rfl, h1, h2, h3, h4⟩
            have H6 := Lib.hid (And.intro h1 (And.intro h2 (And.intro h3 h4)))
            clear h1 h2 h3 h4 HSQ
            go_wp2
            go_ret2
            exact ⟨res, ns', mm, rfl, H6.out.1.fourth.drop.fourth.drop, H6.out.2.1, H6.out.2.2.1, Hkept.out.grow H6.out.2.1, H6.out.2.2.2, Keeps.refl mm⟩
end Go.Proofs.Ytppmnmheodimoaa
end

section
/- direct of package memo: the walk. -/
namespace Go.Proofs.Ytppmnmheodimoaa
open Go Go.RowKit Go.Proofs.Rg Go.Proofs.Mp Go.Proofs.Hp Go.Proofs.Qs Go.Proofs.Ev
set_option linter.unusedVariables false
set_option linter.unusedSimpArgs false
theorem make_rows8 (w : World) : (Instr.makeSlice 54 (.int .i64 8) (.int .i64 8)).run Try.prog w = .ok (.slice (some ⟨w.heap.size, 0, none⟩) 8 8) (w.alloc (.cells #[.slice none 0 0, .slice none 0 0, .slice none 0 0, .slice none 0 0, .slice none 0 0, .slice none 0 0, .slice none 0 0, .slice none 0 0] 71 (0, 0))) := by kernel_rfl
theorem make_row8 (w : World) : (Instr.makeSlice 71 (.int .i64 8) (.int .i64 8)).run Try.prog w = .ok (.slice (some ⟨w.heap.size, 0, none⟩) 8 8) (w.alloc (.cells #[.int .i64 0, .int .i64 0, .int .i64 0, .int .i64 0, .int .i64 0, .int .i64 0, .int .i64 0, .int .i64 0] 3 (0, 0))) := by kernel_rfl
set_option maxHeartbeats 16000000 in
set_option maxRecDepth 100000 in
theorem direct_eight {W : World} {r : Rule} {ha na : Option Addr} {hc nc : Nat} {mb sb rb : Nat} {L : List Tr} (hR : rightR r = true) (hlo : lostOf (radius r.hood) = 3) : DirectAt W r (.slice ha r.hood.length hc) (.slice na r.nodes.length nc) mb sb rb L 3 := by
  intro w Ps ns mm id t h hroom hkept hi hL hru
  show Calls Try.prog 60 #[.pointer (some ⟨mb, 0, none⟩), .int .i64 id, .int .i64 3] w _
  have HRU := Lib.hid hru
  have H := Lib.hid h
  have Hroom := Lib.hid hroom
  have Hkept := Lib.hid hkept
  have HI := Lib.hid hi
  have HL := Lib.hid hL
  have hmk := make_rows8
  have HLO := Lib.hid hlo
  clear hru h hroom hkept hi hL hlo
  go_enter Try.func60, Try.ntmps60
  go_upto_region 2 with fail
  go_cut [9, 10] (fun s9 s10 wx => ∃ oa ob : Nat, s9 = .slice (some ⟨oa, 0, none⟩) 8 8 ∧ s10 = .slice (some ⟨ob, 0, none⟩) 8 8 ∧ Hid (Has W wx (memoL r (.slice ha r.hood.length hc) (.slice na r.nodes.length nc) mb sb rb ns mm (pmatR oa 8 [] :: pmatR ob 8 [] :: Ps))))
  case first =>
    go_region
    all_goals
      go_wp2_with fail
      go_meet
    · exact ⟨_, _, rfl, rfl, Lib.hid ((two_tabs (m := 8) (X := #[.slice none 0 0, .slice none 0 0, .slice none 0 0, .slice none 0 0, .slice none 0 0, .slice none 0 0, .slice none 0 0, .slice none 0 0]) H.out rfl).step ((Fr.refl [] _).drew))⟩
    · exact ⟨_, _, rfl, rfl, Lib.hid ((two_tabs (m := 8) (X := #[.slice none 0 0, .slice none 0 0, .slice none 0 0, .slice none 0 0, .slice none 0 0, .slice none 0 0, .slice none 0 0, .slice none 0 0]) H.out rfl).fifth.step ((Fr.refl [] _).drew))⟩
  case rest =>
    obtain ⟨oa, ob, rfl, rfl, HT⟩ := hcut
    clear hmk H
    have hmk := make_row8
    go_wp2
    go_loopw [25] (fun x wr => ∃ (i : Nat) (aL bs : List Nat), x = .int .i64 i ∧ i ≤ 8 ∧ aL.length = i ∧ bs.length = i ∧ Hid (Has W wr (memoL r (.slice ha r.hood.length hc) (.slice na r.nodes.length nc) mb sb rb ns mm (pmatR oa 8 aL :: pmatR ob 8 bs :: Ps)))) (fun x _ => 8 - (intOf x).toNat)
    case atStart => exact ⟨0, [], [], rfl, by omega, rfl, rfl, HT⟩
    case round =>
      clear HT
      obtain ⟨i, aL, bs, rfl, hi4, hal, hbl, HT⟩ := hrel
      have Hal := Lib.hid hal
      have Hbl := Lib.hid hbl
      by_cases hlt : i < 8
      · obtain ⟨⟨va, ca, hva⟩, za, la⟩ := pmat_cell HT.out.fourth (by omega)
        have hne := pmat_ne HT.out
        have hne' := Ne.symm hne
        obtain ⟨⟨vb, cb, hvb⟩, zb, lb⟩ := pmat_cell HT.out.fifth.fourth (by omega)
        rw [hal] at ca za
        rw [hbl] at cb zb
        clear hal hbl hva hvb
        go_wp2
        go_region
        all_goals
          go_wp2
        all_goals
          go_roundw
          case rel =>
            first
              | exact ⟨i + 1, aL ++ [wr.heap.size], bs ++ [wr.heap.size + 1], by go_num, by omega, by simp [Hal.out], by simp [Hbl.out], Lib.hid ((two_rows' (X := #[.int .i64 0, .int .i64 0, .int .i64 0, .int .i64 0, .int .i64 0, .int .i64 0, .int .i64 0, .int .i64 0]) HT.out rfl Hal.out Hbl.out hlt).step ((Fr.refl [] _).drew))⟩
              | exact ⟨i + 1, aL ++ [wr.heap.size + 1], bs ++ [wr.heap.size], by go_num, by omega, by simp [Hal.out], by simp [Hbl.out], Lib.hid ((setCell_swap wr hne' _ _ ▸ two_rows' (X := #[.int .i64 0, .int .i64 0, .int .i64 0, .int .i64 0, .int .i64 0, .int .i64 0, .int .i64 0, .int .i64 0]) HT.out.fifth rfl Hbl.out Hal.out hlt).fifth.step ((Fr.refl [] _).drew))⟩
              | (trace_state; sorry)
          case measure => simp [intOf]; omega
      · obtain rfl : i = 8 := by omega
        have h4 := pmat_full (pmat_full HT.out.fourth Hal.out).back4.fifth.fourth Hbl.out
        have HT4 := Lib.hid h4.back4.fifth
        have hl2 := lost_le (radius_le r.hood).1 (radius_le r.hood).2
        have HFI := Lib.hid (fun w1 (hf : Fr [] wr w1) => fillAt_three (W := W) (r := r) (hv := .slice ha r.hood.length hc) (nv := .slice na r.nodes.length nc) (mb := mb) (sb := sb) (rb := rb) (ns := ns) (mm := mm) (ob := oa) (m := 8) (bs := aL) (Ps := matR ob 8 bs (fun _ _ => 0) :: Ps) (by omega) (fillAt_two (by omega) (fillAt_one (by omega) (fillAt_zero (by omega)))) w1 (fun _ _ => 0) id t 0 0 3 0 0 rfl rfl rfl (HT4.out.step hf) HI.out (by omega) (by omega))
        clear h4 hal hbl HT
        go_wp2_with fail
        refine (HFI.out _ (by (repeat (first | exact Fr.refl _ _ | assumption | apply Fr.drewN | apply Fr.drew | apply Fr.alloc | refine Fr.setCell ?_ (Or.inr (by simp; try omega)) _)))).mono ?_
        rintro e w5 ⟨rfl, h⟩
        have H5 := Lib.hid h
        clear h HFI HT4
        have HF0 := Lib.hid (fun (i j : Int) (h1 : 0 ≤ i) (h2 : i < 8) (h3 : 0 ≤ j) (h4 : j < 8) => show paste (fun _ _ => 0) 3 t 0 0 i j = cell 3 t i j by
          unfold paste
          rw [if_pos (by show 0 ≤ i ∧ i < 0 + 8 ∧ 0 ≤ j ∧ j < 0 + 8; omega), Int.sub_zero, Int.sub_zero])
        have HFOK := Lib.hid (fun (i j : Int) (h1 : 0 ≤ i) (h2 : i < 8) (h3 : 0 ≤ j) (h4 : j < 8) => show 0 ≤ paste (fun _ _ => 0) 3 t 0 0 i j ∧ paste (fun _ _ => 0) 3 t 0 0 i j < r.S by
          rw [HF0.out i j h1 h2 h3 h4]
          exact cell_ok 3 HI.out.2.2.1 HI.out.2.2.2 h1 h2 h3 h4)
        have H5' := Lib.hid (show Has W w5 (memoL r (.slice ha r.hood.length hc) (.slice na r.nodes.length nc) mb sb rb ns mm (matR oa 8 aL (paste (fun _ _ => 0) 3 t 0 0) :: matR ob 8 bs (fun _ _ => 0) :: Ps)) from H5.out)
        clear H5
        generalize paste (fun _ _ => 0) 3 t 0 0 = F0 at H5' HF0 HFOK
        have hrad : radius r.hood ≤ 2 := by have := HLO.out; unfold lostOf at this; omega
        have HRAD := Lib.hid hrad
        clear hrad
        go_wp2
        go_loopw [12] (fun x' wr => ∃ (y : Nat) (G : Fld), x' = .int .i64 y ∧ 2 ≤ y ∧ y ≤ 6 ∧ Hid (NextSt W wr r (.slice ha r.hood.length hc) (.slice na r.nodes.length nc) mb sb rb ns mm Ps oa ob 8 aL bs F0 G 2 y 0)) (fun x _ => 6 - (intOf x).toNat)
        case atStart => exact ⟨2, _, rfl, by omega, by omega, Lib.hid ⟨H5'.out, fun i j h1 h2 h3 h4 h5 => by omega⟩⟩
        case round =>
          clear H5'
          obtain ⟨y, G, rfl, hy1, hy3, HS⟩ := hrel
          by_cases hy : y < 6
          · have hdy : decide ((y : Int) < 6) = true := by simp; omega
            go_wp2
            go_loopw [13] (fun x' wr => ∃ (x : Nat) (G : Fld), x' = .int .i64 x ∧ 2 ≤ x ∧ x ≤ 6 ∧ Hid (NextSt W wr r (.slice ha r.hood.length hc) (.slice na r.nodes.length nc) mb sb rb ns mm Ps oa ob 8 aL bs F0 G 2 y x)) (fun x _ => 6 - (intOf x).toNat)
            case atStart => exact ⟨2, _, rfl, by omega, by omega, Lib.hid ⟨HS.out.has, fun i j h1 h2 h3 h4 h5 => HS.out.done i j h1 h2 h3 h4 (by omega)⟩⟩
            case round =>
              clear HS
              obtain ⟨x, G, rfl, hx1, hx3, HS⟩ := hrel
              by_cases hx : x < 6
              · have hdx : decide ((x : Int) < 6) = true := by simp; omega
                obtain ⟨m0, m1, m2, m3, _, _, ml⟩ := memo_cells HS.out.has
                have HRN := Lib.hid (HRU.out wr _ HS.out.has (fun P hP => by unfold memoL; simp [hP]))
                have hnl := right_len hR
                have hhl := right_hlen hR
                obtain ⟨wq, hwq⟩ : ∃ wq, wq = wr := ⟨_, rfl⟩
                go_wp2
                rw [← hwq] at HS HRN m0 m1 m2 m3 ml ⊢
                go_loopw [14, 75] (fun k' h' wl => ∃ hh : Nat, h' = .int .i64 hh ∧ hh ≤ r.hood.length ∧ k' = .int .i64 (down r ((r.hood.take hh).map fun p => F0 (x + p.1) (y + p.2))) ∧ Fr [] wq wl) (fun _ x _ => r.hood.length - (intOf x).toNat)
                case atStart => exact ⟨0, rfl, by omega, rfl, Fr.refl _ _⟩
                case round =>
                  obtain ⟨hh, rfl, hh1, rfl, hf⟩ := hrel
                  have Hf := Lib.hid hf
                  clear hf m0 m1 m2 m3 ml
                  have hs9 := HS.out.has.step Hf.out
                  by_cases hlt : hh < r.hood.length
                  · obtain ⟨⟨ox, oy⟩, hp⟩ : ∃ p, r.hood[hh]? = some p := ⟨_, List.getElem?_eq_getElem hlt⟩
                    obtain ⟨o1, o2, o3, o4⟩ := hood_in (right_hood hR) (List.mem_of_getElem? hp)
                    have hrad := HRAD.out
                    simp only at o1 o2 o3 o4
                    have b1 : -2 ≤ ox := by omega
                    have b2 : ox ≤ 2 := by omega
                    have b3 : -2 ≤ oy := by omega
                    have b4 : oy ≤ 2 := by omega
                    clear o1 o2 o3 o4 hrad
                    obtain ⟨gh, oh, heh, hgh, p0, p1⟩ := (HRN.out.1.fr Hf.out).cell hp
                    simp only at p0 p1
                    have hok := HFOK.out (x + ox) (y + oy) (by omega) (by omega) (by omega) (by omega)
                    have hst : ∀ s ∈ (r.hood.take hh).map (fun p => F0 (x + p.1) (y + p.2)), 0 ≤ s ∧ s < r.S := by
                      intro s hs
                      obtain ⟨q, hq, rfl⟩ := List.mem_map.1 hs
                      have hq' := hood_in (right_hood hR) (List.mem_of_mem_take hq)
                      have hrad := HRAD.out
                      exact HFOK.out _ _ (by omega) (by omega) (by omega) (by omega)
                    have hsn := down_snoc r ((r.hood.take hh).map fun p => F0 (x + p.1) (y + p.2)) (F0 (x + ox) (y + oy))
                    rw [← take_map_succ hp (fun p => F0 (x + p.1) (y + p.2))] at hsn
                    obtain ⟨k, gn, on, g2, off2, rl, rc, hk, hkl, hen, hgn, n1, hrl, hg2, n2⟩ := down_cell hR (HRN.out.2.fr Hf.out) hst (by simp; omega) hok.1 hok.2
                    obtain ⟨b, hb, c0, c1, _, cl, ol⟩ := mat_row hs9.fourth (y := (y + oy).toNat) (by omega)
                    replace c1 := c1 (x + ox).toNat (by omega)
                    rw [show (((x + ox).toNat : Nat) : Int) = x + ox by omega, show (((y + oy).toNat : Nat) : Int) = y + oy by omega] at c1
                    obtain ⟨m0, m1, m2, m3, _, _, ml⟩ := memo_cells hs9
                    rw [hk] at hsn ⊢
                    have HSN := Lib.hid hsn
                    generalize F0 (x + ox) (y + oy) = s at c1 n2 hok HSN
                    obtain ⟨s0, s1⟩ := hok
                    have e1 : (0 : Int) ≤ y + oy := by omega
                    have e2 : (0 : Int) ≤ x + ox := by omega
                    have e3 : (y : Int) + oy < 8 := by omega
                    have e4 : (x : Int) + ox < 8 := by omega
                    subst heh
                    subst hen
                    clear hp hst hsn hk hb hs9
                    go_wp2
                    (refine wp_region_text (by kernel_rfl) (by kernel_rfl) ?_)
                    have s2 : s < (rl : Int) := by omega
                    clear hrl s1
                    go_wp2
                    refine Strict.intro rfl ?_
                    go_wp2
                    go_roundw
                    case rel => exact ⟨hh + 1, by go_num, by omega, by rw [HSN.out], by have := Hf.out; (repeat (first | exact Fr.refl _ _ | assumption | apply Fr.drewN | apply Fr.drew | apply Fr.alloc | refine Fr.setCell ?_ (Or.inr (by simp; try omega)) _))⟩
                    case measure => simp [intOf]; omega
                  · have hhe : hh = r.hood.length := by omega
                    subst hhe
                    rw [List.take_length]
                    obtain ⟨b, hb, c0, c1, cf, cl, ol⟩ := mat_row hs9.fifth.fourth (y := y) (by omega)
                    have c1x := c1 x (by omega)
                    have cfx := cf x
                    go_wp2
                    go_roundw
                    case rel =>
                      obtain ⟨G', hG⟩ := NextSt.put HS.out Hf.out (by omega) hb (v := down r (r.hood.map fun p => F0 (x + p.1) (y + p.2))) rfl
                      exact ⟨x + 1, G', by go_num, by omega, by omega, Lib.hid hG⟩
                    case measure => simp [intOf]; omega
              · obtain rfl : x = 6 := by omega
                go_wp2
                go_roundw
                case rel => exact ⟨y + 1, G, by go_num, by omega, by omega, Lib.hid ⟨HS.out.has, fun i j h1 h2 h3 h4 h5 => HS.out.done i j h1 h2 h3 h4 (by omega)⟩⟩
                case measure => simp [intOf]; omega
          · obtain rfl : y = 6 := by omega
            have hG : ∀ i j : Nat, 2 ≤ i → i < 6 → 2 ≤ j → j < 6 → G i j = gen r F0 i j := fun i j h1 h2 h3 h4 => HS.out.done i j h1 (by omega) h3 (by omega) (by omega)
            have hrad := HRAD.out
            have hE : mk 2 G ((2 : Nat) : Int) ((2 : Nat) : Int) = stp (gen r) 3 0 t := by
              refine mk_congr 2 fun i j h1 h2 h3 h4 => ?_
              rw [p2_succ, p2_succ, p2_zero] at h2 h4
              have h5 := hG (2 + i).toNat (2 + j).toNat (by omega) (by omega) (by omega) (by omega)
              rw [show (((2 + i).toNat : Nat) : Int) = 2 + i by omega, show (((2 + j).toNat : Nat) : Int) = 2 + j by omega] at h5
              refine h5.trans (gen_local hR fun p q a1 a2 a3 a4 => ?_)
              exact HF0.out _ _ (by omega) (by omega) (by omega) (by omega)
            have HSQ := Lib.hid (squareAt_two (W := W) (r := r) (hv := .slice ha r.hood.length hc) (nv := .slice na r.nodes.length nc) (mb := mb) (sb := sb) (rb := rb) (L := L) (mm := mm) (ob := ob) (m := 8) (bs := bs) (F := G) (by omega) (squareAt_one (by omega) (squareAt_zero (by omega))) wr (matR oa 8 aL F0 :: Ps) ns 2 2 2 2 2 rfl rfl rfl HS.out.has.fifth Hroom.out (by omega) (by omega) (fun i j h1 h2 h3 h4 => by
              rw [hG i j h1 (by omega) h3 (by omega)]
              exact gen_ok hR fun p q a1 a2 a3 a4 => HFOK.out _ _ (by omega) (by omega) (by omega) (by omega)) (fun u hu => HL.out u (hE ▸ hu)))
            rw [hE] at HSQ
            clear hG hE hrad
            go_wp2_with fail
            refine HSQ.out.mono ?_
            rintro e w6 ⟨res, ns', rfl, h1, h2, h3, h4⟩
            have H6 := Lib.hid (And.intro h1 (And.intro h2 (And.intro h3 h4)))
            clear h1 h2 h3 h4 HSQ
            go_wp2
            go_ret2
            exact ⟨res, ns', mm, rfl, H6.out.1.fourth.drop.fourth.drop, H6.out.2.1, H6.out.2.2.1, Hkept.out.grow H6.out.2.1, H6.out.2.2.2, Keeps.refl mm⟩
end Go.Proofs.Ytppmnmheodimoaa
end
