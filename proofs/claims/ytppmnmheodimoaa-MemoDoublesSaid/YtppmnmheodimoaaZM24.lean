/- Own texts of this claim, part 25: no condition. -/
import Derived.Test.YtppmnmheodimoaaZM14
import Derived.Test.YtppmnmheodimoaaZM16
import Derived.Test.YtppmnmheodimoaaZM13
import Derived.Test.YtppmnmheodimoaaZM18
import Derived.Test.YtppmnmheodimoaaZM23
section
/- What the laws of memo call: Ints, same, rows, Few. -/
namespace Go.Proofs.Ytppmnmheodimoaa
open Go Go.RowKit Go.Proofs.Rg Go.Proofs.Mp Go.Proofs.Hp Go.Proofs.Qs Go.Proofs.Ev
set_option linter.unusedVariables false
set_option linter.unusedSimpArgs false
theorem lists_eq {α : Type} {l m : List α} (hl : l.length = m.length) (h : ∀ i, i < l.length → l[i]? = m[i]?) : l = m := by
  apply List.ext_getElem?
  intro i
  by_cases hi : i < l.length
  · exact h i hi
  · rw [List.getElem?_eq_none (by omega), List.getElem?_eq_none (by omega)]
set_option maxHeartbeats 4000000 in
set_option maxRecDepth 100000 in
theorem LInts_calls {w : World} {u v : Value} {l m : List Int} (hl : IntsAt w u l) (hm : IntsAt w v m) (h1 : l.length ≤ 1000000) (h2 : m.length ≤ 1000000) :
    Calls Try.prog 50 #[u, v] w fun e w' => e = .returned (.bool (decide (l = m))) ∧ Fr [] w w' := by
  obtain ⟨ua, uc, rfl⟩ := hl.form
  obtain ⟨va, vc, rfl⟩ := hm.form
  by_cases hlen : l.length = m.length
  · have HL := Lib.hid hl
    have HM := Lib.hid hm
    have HLEN := Lib.hid hlen
    rw [← hlen] at HM ⊢
    have hq : (((l.length : Nat) : Int) != ((l.length : Nat) : Int)) = false := by simp
    clear hl hm hlen h2
    go_enter Try.func50, Try.ntmps50
    go_wp2
    go_loopw [13] (fun x wr => ∃ i : Nat, x = .int .i64 i ∧ i ≤ l.length ∧ Hid (∀ j, j < i → l[j]? = m[j]?) ∧ Hid (Fr [] w wr)) (fun z _ => l.length - (intOf z).toNat)
    case atStart => exact ⟨0, rfl, by omega, Lib.hid (by omega), Lib.hid (Fr.refl _ _)⟩
    case round =>
      obtain ⟨i, rfl, hi, HE, Hf⟩ := hrel
      by_cases hlt : i < l.length
      · obtain ⟨x, hx⟩ : ∃ x, l[i]? = some x := ⟨_, List.getElem?_eq_getElem hlt⟩
        obtain ⟨y, hy⟩ : ∃ y, m[i]? = some y := ⟨_, List.getElem?_eq_getElem (by have := HLEN.out; omega)⟩
        obtain ⟨gx, ox, rfl, lx, cx⟩ := (HL.out.fr Hf.out).cell hx
        obtain ⟨gy, oy, rfl, ly, cy⟩ := (HM.out.fr Hf.out).cell hy
        by_cases hxy : x = y
        · have HXY := Lib.hid (show ∀ j, j < i + 1 → l[j]? = m[j]? from fun j hj => by
            by_cases e : j = i
            · subst e; rw [hx, hy, hxy]
            · exact HE.out j (by omega))
          have hne : (x != y) = false := by simp [hxy]
          clear hx hy hxy HE
          go_wp2
          (refine wp_region_text (by kernel_rfl) (by kernel_rfl) ?_)
          go_wp2
          refine Strict.intro rfl ?_
          go_wp2
          go_roundw
          case rel => exact ⟨i + 1, by go_num, by omega, HXY, Lib.hid (Hf.out.trans0 (by (repeat (first | exact Fr.refl _ _ | assumption | apply Fr.drewN | apply Fr.drew | apply Fr.alloc | refine Fr.setCell ?_ (Or.inr (by simp; try omega)) _))))⟩
          case measure => simp [intOf]; omega
        · have HNE := Lib.hid (show decide (l = m) = false from by
            rw [decide_eq_false_iff_not]
            intro e
            rw [e, hy] at hx
            exact hxy (Option.some.inj hx).symm)
          have hne : (x != y) = true := by simpa using hxy
          clear hx hy hxy HE
          go_wp2
          (refine wp_region_text (by kernel_rfl) (by kernel_rfl) ?_)
          go_wp2
          refine Strict.intro rfl ?_
          go_wp2
          go_ret
          exact ⟨ret_bool' HNE.out.symm, by have := Hf.out; (repeat (first | exact Fr.refl _ _ | assumption | apply Fr.drewN | apply Fr.drew | apply Fr.alloc | refine Fr.setCell ?_ (Or.inr (by simp; try omega)) _))⟩
      · have HEQ := Lib.hid (show decide (l = m) = true by
          rw [decide_eq_true_iff]
          exact lists_eq HLEN.out fun j hj => HE.out j (by omega))
        obtain rfl : i = l.length := by omega
        go_wp2
        go_ret
        exact ⟨ret_bool' HEQ.out.symm, by have := Hf.out; (repeat (first | exact Fr.refl _ _ | assumption | apply Fr.drewN | apply Fr.drew | apply Fr.alloc | refine Fr.setCell ?_ (Or.inr (by simp; try omega)) _))⟩
  · have HNE := Lib.hid (show decide (l = m) = false by rw [decide_eq_false_iff_not]; intro e; exact hlen (by rw [e]))
    have hq : (((l.length : Nat) : Int) != ((m.length : Nat) : Int)) = true := by simp; omega
    clear hl hm hlen
    go_enter Try.func50, Try.ntmps50
    go_wp2
    go_ret
    exact ⟨ret_bool' HNE.out.symm, by (repeat (first | exact Fr.refl _ _ | assumption | apply Fr.drewN | apply Fr.drew | apply Fr.alloc | refine Fr.setCell ?_ (Or.inr (by simp; try omega)) _))⟩
set_option maxHeartbeats 4000000 in
set_option maxRecDepth 100000 in
theorem LSame_calls {w : World} {u v : Value} {L M : List (List Int)} (hl : RowsAt w u L) (hm : RowsAt w v M) (h1 : L.length ≤ 1000000) (h2 : M.length ≤ 1000000) (h3 : ∀ r ∈ L, r.length ≤ 1000000) (h4 : ∀ r ∈ M, r.length ≤ 1000000) :
    Calls Try.prog 22 #[u, v] w fun e w' => e = .returned (.bool (decide (L = M))) ∧ Fr [] w w' := by
  obtain ⟨ua, uc, rfl⟩ := hl.form
  obtain ⟨va, vc, rfl⟩ := hm.form
  by_cases hlen : L.length = M.length
  · have HL := Lib.hid hl
    have HM := Lib.hid hm
    have HLEN := Lib.hid hlen
    have H3 := Lib.hid h3
    have H4 := Lib.hid h4
    rw [← hlen] at HM ⊢
    have hq : (((L.length : Nat) : Int) != ((L.length : Nat) : Int)) = false := by simp
    clear hl hm hlen h2 h3 h4
    go_enter Try.func22, Try.ntmps22
    go_wp2
    go_loopw [13] (fun x wr => ∃ i : Nat, x = .int .i64 i ∧ i ≤ L.length ∧ Hid (∀ j, j < i → L[j]? = M[j]?) ∧ Hid (Fr [] w wr)) (fun z _ => L.length - (intOf z).toNat)
    case atStart => exact ⟨0, rfl, by omega, Lib.hid (by omega), Lib.hid (Fr.refl _ _)⟩
    case round =>
      obtain ⟨i, rfl, hi, HE, Hf⟩ := hrel
      by_cases hlt : i < L.length
      · obtain ⟨x, hx⟩ : ∃ x, L[i]? = some x := ⟨_, List.getElem?_eq_getElem hlt⟩
        obtain ⟨y, hy⟩ : ∃ y, M[i]? = some y := ⟨_, List.getElem?_eq_getElem (by have := HLEN.out; omega)⟩
        obtain ⟨gx, ox, rxa, rxc, rfl, lx, cx, hxi⟩ := (HL.out.fr Hf.out).row hx
        obtain ⟨gy, oy, rya, ryc, rfl, ly, cy, hyi⟩ := (HM.out.fr Hf.out).row hy
        have HC := Lib.hid (fun w1 (hf : Fr [] wr w1) => LInts_calls (hxi.fr hf) (hyi.fr hf) (H3.out x (List.mem_of_getElem? hx)) (H4.out y (List.mem_of_getElem? hy)))
        by_cases hxy : x = y
        · have HXY := Lib.hid (show ∀ j, j < i + 1 → L[j]? = M[j]? from fun j hj => by
            by_cases e : j = i
            · subst e; rw [hx, hy, hxy]
            · exact HE.out j (by omega))
          rw [decide_eq_true hxy] at HC
          clear hx hy hxy HE hxi hyi
          go_wp2
          (refine wp_region_text (by kernel_rfl) (by kernel_rfl) ?_)
          go_wp2_with fail
          refine (HC.out _ (by (repeat (first | exact Fr.refl _ _ | assumption | apply Fr.drewN | apply Fr.drew | apply Fr.alloc | refine Fr.setCell ?_ (Or.inr (by simp; try omega)) _)))).mono ?_
          rintro e w5 ⟨rfl, hf⟩
          have Hf := Lib.hid (Hf.out.trans0 (Fr.trans0 (by (repeat (first | exact Fr.refl _ _ | assumption | apply Fr.drewN | apply Fr.drew | apply Fr.alloc | refine Fr.setCell ?_ (Or.inr (by simp; try omega)) _))) hf))
          clear hf cx cy lx ly
          go_wp2
          refine Strict.intro rfl ?_
          go_wp2
          go_roundw
          case rel => exact ⟨i + 1, by go_num, by omega, HXY, Lib.hid (Hf.out.trans0 (by (repeat (first | exact Fr.refl _ _ | assumption | apply Fr.drewN | apply Fr.drew | apply Fr.alloc | refine Fr.setCell ?_ (Or.inr (by simp; try omega)) _))))⟩
          case measure => simp [intOf]; omega
        · have HNE := Lib.hid (show decide (L = M) = false from by
            rw [decide_eq_false_iff_not]
            intro e
            rw [e, hy] at hx
            exact hxy (Option.some.inj hx).symm)
          rw [decide_eq_false hxy] at HC
          clear hx hy hxy HE hxi hyi
          go_wp2
          (refine wp_region_text (by kernel_rfl) (by kernel_rfl) ?_)
          go_wp2_with fail
          refine (HC.out _ (by (repeat (first | exact Fr.refl _ _ | assumption | apply Fr.drewN | apply Fr.drew | apply Fr.alloc | refine Fr.setCell ?_ (Or.inr (by simp; try omega)) _)))).mono ?_
          rintro e w5 ⟨rfl, hf⟩
          have Hf := Lib.hid (Hf.out.trans0 (Fr.trans0 (by (repeat (first | exact Fr.refl _ _ | assumption | apply Fr.drewN | apply Fr.drew | apply Fr.alloc | refine Fr.setCell ?_ (Or.inr (by simp; try omega)) _))) hf))
          clear hf cx cy lx ly
          go_wp2
          refine Strict.intro rfl ?_
          go_wp2
          go_ret
          exact ⟨ret_bool' HNE.out.symm, by have := Hf.out; (repeat (first | exact Fr.refl _ _ | assumption | apply Fr.drewN | apply Fr.drew | apply Fr.alloc | refine Fr.setCell ?_ (Or.inr (by simp; try omega)) _))⟩
      · have HEQ := Lib.hid (show decide (L = M) = true by
          rw [decide_eq_true_iff]
          exact lists_eq HLEN.out fun j hj => HE.out j (by omega))
        obtain rfl : i = L.length := by omega
        go_wp2
        go_ret
        exact ⟨ret_bool' HEQ.out.symm, by have := Hf.out; (repeat (first | exact Fr.refl _ _ | assumption | apply Fr.drewN | apply Fr.drew | apply Fr.alloc | refine Fr.setCell ?_ (Or.inr (by simp; try omega)) _))⟩
  · have HNE := Lib.hid (show decide (L = M) = false by rw [decide_eq_false_iff_not]; intro e; exact hlen (by rw [e]))
    have hq : (((L.length : Nat) : Int) != ((M.length : Nat) : Int)) = true := by simp; omega
    clear hl hm hlen
    go_enter Try.func22, Try.ntmps22
    go_wp2
    go_ret
    exact ⟨ret_bool' HNE.out.symm, by (repeat (first | exact Fr.refl _ _ | assumption | apply Fr.drewN | apply Fr.drew | apply Fr.alloc | refine Fr.setCell ?_ (Or.inr (by simp; try omega)) _))⟩
set_option maxHeartbeats 4000000 in
set_option maxRecDepth 100000 in
theorem LRows_calls {W w : World} {b : Nat} {s : Int} {ns : List K4} {Ps : List Res} (h : Has W w (storeR b s ns :: Ps)) {n : Nat} {id : Int} {t : Tr} (hi : Is s ns n id t) (hn : n ≤ 6) (hlen : ns.length ≤ 90000) :
    Calls Try.prog 23 #[.pointer (some ⟨b, 0, none⟩), .int .i64 id] w fun e w' => ∃ a c, e = .returned (.slice a (2 ^ n) c) ∧ Gath w' w.heap.size (ge w.heap.size) (.slice a (2 ^ n) c) (cellsL n t) ∧ Fr [] w w' := by
  have HI := Lib.hid hi
  have H := Lib.hid h
  have hg := has_good h
  have HC := Lib.hid (fun b => cells_all (s := s) (ns := ns) (b := b) n (by omega))
  have hn6 : (n : Int) ≤ 6 := by omega
  have hn0 : decide ((n : Int) < 0) = false := by simp
  unfold CellsAt at HC
  generalize hm : 2 ^ n = m at HC
  have HM := Lib.hid hm
  clear h hi hm
  go_enter Try.func23, Try.ntmps23
  go_wp2_with fail
  refine (Data_has H.out).mono ?_
  rintro e w1 ⟨xa, xc, rfl, ho, h1, hf⟩
  have Hf := Lib.hid hf
  have HR := Lib.hid (Reads.of_owns ho)
  clear ho h1 hf
  go_wp2_with fail
  refine (RLoad_calls (ns := ns) hlen (HR.out.fr (by (repeat (first | exact Fr.refl _ _ | assumption | apply Fr.drewN | apply Fr.drew | apply Fr.alloc | refine Fr.setCell ?_ (Or.inr (by simp; try omega)) _))))).mono ?_
  rintro e w2 ⟨hpos, hneg⟩
  obtain ⟨b2, F, rfl, hS, hf, _⟩ := hpos hg
  have HS := Lib.hid hS
  have Hf := Lib.hid (Hf.out.trans0 (Fr.trans0 (by (repeat (first | exact Fr.refl _ _ | assumption | apply Fr.drewN | apply Fr.drew | apply Fr.alloc | refine Fr.setCell ?_ (Or.inr (by simp; try omega)) _))) hf))
  clear hpos hneg hS hf HR
  go_wp2_with fail
  refine (RLevelIs (HS.out.fr (G := []) (by (repeat (first | exact Fr.refl _ _ | assumption | apply Fr.drewN | apply Fr.drew | apply Fr.alloc | refine Fr.setCell ?_ (Or.inr (by simp; try omega)) _))) (by simp)) HI.out).mono ?_
  rintro e w3 ⟨rfl, hf⟩
  have hf3 : Fr [] w2 w3 := Fr.trans0 (by (repeat (first | exact Fr.refl _ _ | assumption | apply Fr.drewN | apply Fr.drew | apply Fr.alloc | refine Fr.setCell ?_ (Or.inr (by simp; try omega)) _))) hf
  have HS := Lib.hid (HS.out.fr hf3 (by simp))
  have Hf := Lib.hid (Hf.out.trans0 hf3)
  clear hf hf3
  go_wp2_with fail
  refine (RLevelIs (HS.out.fr (G := []) (by (repeat (first | exact Fr.refl _ _ | assumption | apply Fr.drewN | apply Fr.drew | apply Fr.alloc | refine Fr.setCell ?_ (Or.inr (by simp; try omega)) _))) (by simp)) HI.out).mono ?_
  rintro e w4 ⟨rfl, hf⟩
  have hf3 : Fr [] w3 w4 := Fr.trans0 (by (repeat (first | exact Fr.refl _ _ | assumption | apply Fr.drewN | apply Fr.drew | apply Fr.alloc | refine Fr.setCell ?_ (Or.inr (by simp; try omega)) _))) hf
  have HS := Lib.hid (HS.out.fr hf3 (by simp))
  have Hf := Lib.hid (Hf.out.trans0 hf3)
  clear hf hf3
  go_wp2_with fail
  refine (HC.out b2 _ F id t (HS.out.fr (G := []) (by (repeat (first | exact Fr.refl _ _ | assumption | apply Fr.drewN | apply Fr.drew | apply Fr.alloc | refine Fr.setCell ?_ (Or.inr (by simp; try omega)) _))) (by simp)) HI.out).mono ?_
  rintro e w5 ⟨ra, rc, rfl, hg5, hf⟩
  have hs4 : w.heap.size ≤ w4.heap.size := Hf.out.size
  have HG := Lib.hid (hg5.low (base' := w.heap.size) (P' := ge w.heap.size) (by first | exact hs4 | (first | omega | (simp only [hp_drew, hp_drewN, hp_alloc_size]; omega) | (simp; omega))) (fun g hg => Nat.le_trans (by first | exact hs4 | (first | omega | (simp only [hp_drew, hp_drewN, hp_alloc_size]; omega) | (simp; omega))) hg))
  have Hf := Lib.hid (Hf.out.trans0 (Fr.trans0 (by (repeat (first | exact Fr.refl _ _ | assumption | apply Fr.drewN | apply Fr.drew | apply Fr.alloc | refine Fr.setCell ?_ (Or.inr (by simp; try omega)) _))) hf))
  clear hf hg5
  go_wp2
  go_ret
  exact ⟨ra, rc, rfl, HG.out, by have := Hf.out; (repeat (first | exact Fr.refl _ _ | assumption | apply Fr.drewN | apply Fr.drew | apply Fr.alloc | refine Fr.setCell ?_ (Or.inr (by simp; try omega)) _))⟩
/-- are a rule's lists short? -/
def few12 (r : Rule) : Bool := decide (r.hood.length ≤ 40) && decide (r.nodes.length ≤ 400) && r.nodes.all fun x => decide (x.2.length ≤ 20)
set_option maxHeartbeats 4000000 in
set_option maxRecDepth 100000 in
theorem LFew12_calls {w : World} {r : Rule} {ha na : Option Addr} {hc nc : Nat} (hru : RuleAt w (.slice ha r.hood.length hc) (.slice na r.nodes.length nc) r) :
    Calls Try.prog 15 #[.agg #[.int .i64 r.S, .slice ha r.hood.length hc, .slice na r.nodes.length nc]] w fun e w' => e = .returned (.bool (few12 r)) ∧ Fr [] w w' := by
  have HN := Lib.hid hru.2
  clear hru
  by_cases h1 : r.hood.length ≤ 40
  · by_cases h2 : r.nodes.length ≤ 400
    · go_enter Try.func15, Try.ntmps15
      go_wp2
      obtain ⟨w1, hw1⟩ : ∃ w1, w.alloc (Obj.cells #[Value.int .i64 r.S, .slice ha r.hood.length hc, .slice na r.nodes.length nc] 31 (0, 0)) = w1 := ⟨_, rfl⟩
      have hb1 : w1.heap[w.heap.size]? = some (.cells #[Value.int .i64 r.S, .slice ha r.hood.length hc, .slice na r.nodes.length nc] 31 (0, 0)) := by rw [← hw1]; (repeat (first | rw [if_pos (by omega)] | rw [if_neg (by omega)] | rw [hp_drew] | rw [hp_drewN] | rw [hp_alloc_size] | rw [hp_setCell_size] | rw [hp_alloc] | rw [hp_setCell] | rw [Option.map_some] | rw [upd_cells] | rw [List.set_cons_zero] | rw [List.set_cons_succ] | rfl))
      have Hf := Lib.hid (show Fr [] w w1 by rw [← hw1]; (repeat (first | exact Fr.refl _ _ | assumption | apply Fr.drewN | apply Fr.drew | apply Fr.alloc | refine Fr.setCell ?_ (Or.inr (by simp; try omega)) _)))
      rw [hw1]
      have Ht := Lib.hid hb1
      obtain ⟨tb, htb⟩ : ∃ t, w.heap.size = t := ⟨_, rfl⟩
      rw [htb] at Ht ⊢
      clear hw1 hb1 htb
      have hfk := Fr.refl [] w1
      (try clear t0)
      (try clear t1)
      (try clear t2)
      (try clear tl)
      have ht_ := (hfk.block _ (lt_of_block Ht.out) (by simp)).trans Ht.out
      clear Ht
      have t0 := heap_eq_cell ht_ 0
      have t1 := heap_eq_cell ht_ 1
      have t2 := heap_eq_cell ht_ 2
      have tl := lt_of_block ht_
      have Ht := Lib.hid ht_
      clear ht_
      clear hfk
      go_loopw [17] (fun x wr => ∃ i : Nat, x = .int .i64 i ∧ i ≤ r.nodes.length ∧ Hid (∀ j x, j < i → r.nodes[j]? = some x → x.2.length ≤ 20) ∧ wr = w1) (fun z _ => r.nodes.length - (intOf z).toNat)
      case atStart => exact ⟨0, rfl, by omega, Lib.hid (by omega), rfl⟩
      case round =>
        obtain ⟨i, rfl, hi, HE, rfl⟩ := hrel
        by_cases hlt : i < r.nodes.length
        · obtain ⟨x, hx⟩ : ∃ x, r.nodes[i]? = some x := ⟨_, List.getElem?_eq_getElem hlt⟩
          obtain ⟨g, off, ra, rc, rfl, hg, e0, e1, hi9⟩ := (HN.out.fr Hf.out).node hx
          have HX := Lib.hid hx
          clear hx hi9 e0
          by_cases hle : x.2.length ≤ 20
          · have HE' := Lib.hid (show ∀ j x, j < i + 1 → r.nodes[j]? = some x → x.2.length ≤ 20 from fun j y hj hy => by
              by_cases e : j = i
              · subst e; rw [HX.out] at hy; obtain rfl := Option.some.inj hy; exact hle
              · exact HE.out j y (by omega) hy)
            generalize x.2.length = xl at *
            go_wp2
            go_roundw
            case rel => exact ⟨i + 1, by go_num, by omega, HE', trivial⟩
            case measure => simp [intOf]; omega
          · have HNE := Lib.hid (show few12 r = false by
              unfold few12
              have : r.nodes.all (fun x => decide (x.2.length ≤ 20)) = false := all_false HX.out (by simpa using hle)
              rw [this]; simp)
            generalize x.2.length = xl at *
            go_wp2
            go_ret
            exact ⟨ret_bool' HNE.out.symm, by have := Hf.out; (repeat (first | exact Fr.refl _ _ | assumption | apply Fr.drewN | apply Fr.drew | apply Fr.alloc | refine Fr.setCell ?_ (Or.inr (by simp; try omega)) _))⟩
        · have HEQ := Lib.hid (show few12 r = true by
            unfold few12
            rw [decide_eq_true h1, decide_eq_true h2, all_true (fun j x hx hj => decide_eq_true (HE.out j x (by omega) hx))]; rfl)
          obtain rfl : i = r.nodes.length := by omega
          go_wp2
          go_ret
          exact ⟨ret_bool' HEQ.out.symm, by have := Hf.out; (repeat (first | exact Fr.refl _ _ | assumption | apply Fr.drewN | apply Fr.drew | apply Fr.alloc | refine Fr.setCell ?_ (Or.inr (by simp; try omega)) _))⟩
    · have HNE := Lib.hid (show few12 r = false by unfold few12; rw [decide_eq_false h2]; simp)
      go_enter Try.func15, Try.ntmps15
      go_wp2
      go_ret
      exact ⟨ret_bool' HNE.out.symm, by (repeat (first | exact Fr.refl _ _ | assumption | apply Fr.drewN | apply Fr.drew | apply Fr.alloc | refine Fr.setCell ?_ (Or.inr (by simp; try omega)) _))⟩
  · have HNE := Lib.hid (show few12 r = false by unfold few12; rw [decide_eq_false h1]; simp)
    go_enter Try.func15, Try.ntmps15
    go_wp2
    go_ret
    exact ⟨ret_bool' HNE.out.symm, by (repeat (first | exact Fr.refl _ _ | assumption | apply Fr.drewN | apply Fr.drew | apply Fr.alloc | refine Fr.setCell ?_ (Or.inr (by simp; try omega)) _))⟩
/-- is a node of a store that is read small? -/
def few27 (s : Int) (ns : List K4) (id : Int) : Prop := ns.length ≤ 600 ∧ (GoodQ s ns → lvl s (levs s ns) id ≤ 6)
set_option maxHeartbeats 4000000 in
set_option maxRecDepth 100000 in
theorem LFew27_calls {w : World} {s id : Int} {ns : List K4} {a : Option Addr} {c : Nat} (hv : Reads w (.slice a ns.length c) ns.length 4 (flat ns)) :
    Calls Try.prog 16 #[.agg #[.int .i64 s, .slice a ns.length c, .int .i64 id]] w fun e w' => ∃ b, e = .returned (.bool b) ∧ (b = true ↔ few27 s ns id) ∧ Fr [] w w' := by
  have HV := Lib.hid hv
  clear hv
  by_cases h1 : ns.length ≤ 600
  · go_enter Try.func16, Try.ntmps16
    go_wp2_with fail
    refine (RLoad_calls (ns := ns) (by omega) (HV.out.fr (by (repeat (first | exact Fr.refl _ _ | assumption | apply Fr.drewN | apply Fr.drew | apply Fr.alloc | refine Fr.setCell ?_ (Or.inr (by simp; try omega)) _))))).mono ?_
    rintro e w2 ⟨hpos, hneg⟩
    by_cases hg : GoodQ s ns
    · obtain ⟨b2, F, rfl, hS, hf, _⟩ := hpos hg
      have ht_ := (hf.block (w.heap.size) (by first | (simp; done) | (simp; omega)) (by simp)).trans (show _ = some (.cells #[.int .i64 s, .slice a ns.length c, .int .i64 id] 41 (0, 0)) by (repeat (first | rw [if_pos (by omega)] | rw [if_neg (by omega)] | rw [hp_drew] | rw [hp_drewN] | rw [hp_alloc_size] | rw [hp_setCell_size] | rw [hp_alloc] | rw [hp_setCell] | rw [Option.map_some] | rw [upd_cells] | rw [List.set_cons_zero] | rw [List.set_cons_succ] | rfl)))
      have t0 := heap_eq_cell ht_ 0
      have t1 := heap_eq_cell ht_ 1
      have t2 := heap_eq_cell ht_ 2
      have tl := lt_of_block ht_
      have Ht := Lib.hid ht_
      clear ht_
      have HS := Lib.hid hS
      have Hf := Lib.hid (Fr.trans0 (by (repeat (first | exact Fr.refl _ _ | assumption | apply Fr.drewN | apply Fr.drew | apply Fr.alloc | refine Fr.setCell ?_ (Or.inr (by simp; try omega)) _)) : Fr [] w _) hf)
      have hlv := RLevel_calls hS id
      have HB := Lib.hid (show decide (lvl s (levs s ns) id ≤ 6) = true ↔ few27 s ns id from ⟨fun h => ⟨h1, fun _ => by simpa using h⟩, fun h => by simpa using h.2 hg⟩)
      generalize lvl s (levs s ns) id = lv at hlv HB
      have HLV := Lib.hid hlv
      clear hpos hneg hS hf hlv
      go_wp2_with fail
      refine HLV.out.mono ?_
      rintro e w3 ⟨rfl, hf⟩
      have Hf := Lib.hid (Hf.out.trans0 (Fr.trans0 (by (repeat (first | exact Fr.refl _ _ | assumption | apply Fr.drewN | apply Fr.drew | apply Fr.alloc | refine Fr.setCell ?_ (Or.inr (by simp; try omega)) _))) hf))
      clear hf HLV HS
      go_wp2
      go_ret
      exact ⟨_, rfl, by simpa using HB.out, by have := Hf.out; (repeat (first | exact Fr.refl _ _ | assumption | apply Fr.drewN | apply Fr.drew | apply Fr.alloc | refine Fr.setCell ?_ (Or.inr (by simp; try omega)) _))⟩
    · obtain ⟨rfl, hf⟩ := hneg hg
      have ht_ := (hf.block (w.heap.size) (by first | (simp; done) | (simp; omega)) (by simp)).trans (show _ = some (.cells #[.int .i64 s, .slice a ns.length c, .int .i64 id] 41 (0, 0)) by (repeat (first | rw [if_pos (by omega)] | rw [if_neg (by omega)] | rw [hp_drew] | rw [hp_drewN] | rw [hp_alloc_size] | rw [hp_setCell_size] | rw [hp_alloc] | rw [hp_setCell] | rw [Option.map_some] | rw [upd_cells] | rw [List.set_cons_zero] | rw [List.set_cons_succ] | rfl)))
      have t0 := heap_eq_cell ht_ 0
      have t1 := heap_eq_cell ht_ 1
      have t2 := heap_eq_cell ht_ 2
      have tl := lt_of_block ht_
      have Ht := Lib.hid ht_
      clear ht_
      have Hf := Lib.hid (Fr.trans0 (by (repeat (first | exact Fr.refl _ _ | assumption | apply Fr.drewN | apply Fr.drew | apply Fr.alloc | refine Fr.setCell ?_ (Or.inr (by simp; try omega)) _)) : Fr [] w _) hf)
      have HB := Lib.hid (show true = true ↔ few27 s ns id from ⟨fun _ => ⟨h1, fun h => absurd h hg⟩, fun _ => rfl⟩)
      clear hpos hneg hf
      go_wp2
      go_ret
      exact ⟨_, rfl, by simpa using HB.out, by have := Hf.out; (repeat (first | exact Fr.refl _ _ | assumption | apply Fr.drewN | apply Fr.drew | apply Fr.alloc | refine Fr.setCell ?_ (Or.inr (by simp; try omega)) _))⟩
  · have HB := Lib.hid (show false = true ↔ few27 s ns id from ⟨fun h => (by cases h), fun h => absurd h.1 h1⟩)
    go_enter Try.func16, Try.ntmps16
    go_wp2
    go_ret
    exact ⟨_, rfl, by simpa using HB.out, by (repeat (first | exact Fr.refl _ _ | assumption | apply Fr.drewN | apply Fr.drew | apply Fr.alloc | refine Fr.setCell ?_ (Or.inr (by simp; try omega)) _))⟩
end Go.Proofs.Ytppmnmheodimoaa
end
