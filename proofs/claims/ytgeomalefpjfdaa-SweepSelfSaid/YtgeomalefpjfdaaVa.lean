/- The references of layer 28: Same, Known, find. -/
import Derived.Test.YtgeomalefpjfdaaWc
namespace Go.Proofs.Ytgeomalefpjfdaa
open Go Go.RowKit Go.Proofs.Rg Go.Proofs.Mp Go.Proofs.Hp Go.Proofs.Qs
set_option linter.unusedVariables false
set_option maxHeartbeats 2000000 in
theorem RSame_calls {w : World} {v1 v2 : Value} {L1 L2 : List Int} (h1 : Reads w v1 L1.length 1 (i64s L1)) (h2 : Reads w v2 L2.length 1 (i64s L2)) (hl : L1.length ≤ 1048576) :
    Calls Try.prog 13 #[v1, v2] w fun e w' => e = .returned (.bool (decide (L1 = L2))) ∧ Drew w w' := by
  obtain ⟨_, a1, c1, rfl, ha1⟩ := h1
  obtain ⟨_, a2, c2, rfl, ha2⟩ := h2
  have Ha1 := Lib.hid ha1
  have Ha2 := Lib.hid ha2
  clear ha1 ha2
  by_cases he : L1.length = L2.length
  · have hc : ((L1.length : Int) != (L2.length : Int)) = false := by simp; omega
    have He := Lib.hid he
    clear he
    go_enter Try.func13, Try.ntmps13
    go_wp2
    go_loopw [5] (fun x wr => ∃ (k : Nat), x = .int .i64 k ∧ k ≤ L1.length ∧ (∀ j, j < k → L1[j]? = L2[j]?) ∧ Drew w wr) (fun x _ => L1.length - (intOf x).toNat)
    case atStart => exact ⟨0, rfl, by omega, by omega, Drew.refl _⟩
    case round =>
      obtain ⟨k, rfl, hk, hn, m, rfl⟩ := hrel
      have Hn := Lib.hid hn
      clear hn
      by_cases hlt : k < L1.length
      · have hlt2 : k < L2.length := by have := He.out; omega
        obtain ⟨g1, off1, rfl, hg1, hc1⟩ := Ha1.out (by omega)
        obtain ⟨g2, off2, rfl, hg2, hc2⟩ := Ha2.out (by omega)
        obtain ⟨x, hx⟩ : ∃ x, L1[k]? = some x := ⟨_, List.getElem?_eq_getElem hlt⟩
        obtain ⟨y, hy⟩ : ∃ y, L2[k]? = some y := ⟨_, List.getElem?_eq_getElem hlt2⟩
        have e1 := hc1 k (.int .i64 x) (by rw [i64s, List.getElem?_map, hx]; rfl)
        have e2 := hc2 k (.int .i64 y) (by rw [i64s, List.getElem?_map, hy]; rfl)
        have Hx := Lib.hid hx
        have Hy := Lib.hid hy
        clear hc1 hc2 hx hy
        by_cases hxy : x = y
        · subst hxy
          go_wp2
          (refine wp_region_text (by kernel_rfl) (by kernel_rfl) ?_)
          go_wp2
          refine Strict.intro rfl ?_
          go_wp2
          go_roundw
          case rel =>
            refine ⟨k + 1, by go_num, by omega, fun j hj => ?_, ⟨m + 1, rfl⟩⟩
            by_cases h : j = k
            · rw [h, Hx.out, Hy.out]
            · exact Hn.out j (by omega)
          case measure => simp [intOf]; omega
        · have hb : (x != y) = true := by simp; omega
          have hne : L1 ≠ L2 := fun e => by
            have h1 := Hx.out
            rw [e, Hy.out] at h1
            exact hxy (Option.some.inj h1).symm
          have Hne := Lib.hid hne
          clear hne hxy
          go_wp2
          (refine wp_region_text (by kernel_rfl) (by kernel_rfl) ?_)
          go_wp2
          refine Strict.intro rfl ?_
          go_wp2
          go_ret
          exact ⟨by rw [decide_eq_false Hne.out]; rfl, ⟨m + 1, rfl⟩⟩
      · obtain rfl : k = L1.length := by omega
        have heq : L1 = L2 := List.ext_getElem? fun j => by
          by_cases h : j < L1.length
          · exact Hn.out j h
          · rw [List.getElem?_eq_none (by omega), List.getElem?_eq_none (by have := He.out; omega)]
        have Heq := Lib.hid heq
        clear heq
        go_wp2
        go_ret
        exact ⟨by rw [decide_eq_true Heq.out]; rfl, m, rfl⟩
  · have hc : ((L1.length : Int) != (L2.length : Int)) = true := by simp; omega
    have hne : L1 ≠ L2 := fun e => he (by rw [e])
    have Hne := Lib.hid hne
    clear he hne
    go_enter Try.func13, Try.ntmps13
    go_wp2
    go_ret
    exact ⟨by rw [decide_eq_false Hne.out]; rfl, Drew.refl _⟩
/-- is a number known, over a content as a value -/
theorem Known_calls {w : World} {S : Nat} {va : Option Addr} {n c : Nat} {id : Int} (hS : S ≤ 8) (hn : n ≤ 100000) :
    Calls Try.prog 23 #[.agg #[.int .i64 S, .slice va n c], .int .i64 id] w fun e w' => e = .returned (.bool (decide (0 ≤ id ∧ id < (S : Int) + n))) ∧ Fr [] w w' := by
  by_cases h0 : 0 ≤ id
  · have hd : decide (0 ≤ id) = true := by simpa using h0
    by_cases h1 : id < (S : Int) + n
    · have hd1 : decide (id < (S : Int) + n) = true := by simpa using h1
      have H := Lib.hid (decide_eq_true (p := 0 ≤ id ∧ id < (S : Int) + n) ⟨h0, h1⟩)
      clear h0 h1
      go_enter Try.func23, Try.ntmps23
      go_wp2
      go_ret
      exact ⟨by rw [H.out]; rfl, by (repeat (first | exact Fr.refl _ _ | assumption | apply Fr.drewN | apply Fr.drew | apply Fr.alloc | refine Fr.setCell ?_ (Or.inr (by simp; try omega)) _))⟩
    · have hd1 : decide (id < (S : Int) + n) = false := by simpa using h1
      have H := Lib.hid (decide_eq_false (p := 0 ≤ id ∧ id < (S : Int) + n) (fun h => h1 h.2))
      clear h0 h1
      go_enter Try.func23, Try.ntmps23
      go_wp2
      go_ret
      exact ⟨by rw [H.out]; rfl, by (repeat (first | exact Fr.refl _ _ | assumption | apply Fr.drewN | apply Fr.drew | apply Fr.alloc | refine Fr.setCell ?_ (Or.inr (by simp; try omega)) _))⟩
  · have hd : decide (0 ≤ id) = false := by simpa using h0
    have H := Lib.hid (decide_eq_false (p := 0 ≤ id ∧ id < (S : Int) + n) (fun h => h0 h.1))
    clear h0
    go_enter Try.func23, Try.ntmps23
    go_wp2
    go_ret
    exact ⟨by rw [H.out]; rfl, by (repeat (first | exact Fr.refl _ _ | assumption | apply Fr.drewN | apply Fr.drew | apply Fr.alloc | refine Fr.setCell ?_ (Or.inr (by simp; try omega)) _))⟩
/-- the number of the node with some quadrants -/
def findN (s : Int) (ns : List K4) (k : K4) : Int := match ns.idxOf? k with
  | some o => s + (o : Nat)
  | none => -1
theorem idxOf_at {ns : List K4} {k : K4} {i : Nat} (h : ns[i]? = some k) (hn : ∀ j, j < i → ns[j]? ≠ some k) : ns.idxOf? k = some i := by
  rw [List.idxOf?_eq_some_iff]
  have hi := (List.getElem?_eq_some_iff.1 h).1
  have hv := (List.getElem?_eq_some_iff.1 h).2
  refine ⟨hi, by simpa using hv, fun j hj => ?_⟩
  have := hn j hj
  rw [List.getElem?_eq_getElem (by omega)] at this
  simpa using fun e => this (congrArg some e)
set_option maxHeartbeats 4000000 in
set_option maxRecDepth 100000 in
theorem find_calls {w : World} {S : Nat} {ns : List K4} {v : Value} (k : K4) (hS : S ≤ 8) (hn : ns.length ≤ 1000000) (hv : Reads w v ns.length 4 (flat ns)) :
    Calls Try.prog 34 #[.agg #[.int .i64 S, v], kv k] w fun e w' => e = .returned (.int .i64 (findN S ns k)) ∧ Fr [] w w' := by
  obtain ⟨_, a, c, rfl, hav⟩ := hv
  have Hav := Lib.hid hav
  clear hav
  unfold kv
  go_enter Try.func34, Try.ntmps34
  go_wp2
  go_loopw [5] (fun x wl => ∃ (i : Nat), x = .int .i64 i ∧ i ≤ ns.length ∧ (∀ j, j < i → ns[j]? ≠ some k) ∧ Fr [] w wl ∧ wl.heap[w.heap.size]? = some (.cells #[.int .i64 S, .slice a ns.length c] 24 (0, 0)) ∧
      wl.heap[w.heap.size + 1]? = some (.cells #[.int .i64 k.a, .int .i64 k.b, .int .i64 k.c, .int .i64 k.d] 57 (0, 0))) (fun x _ => ns.length - (intOf x).toNat)
  case atStart => exact ⟨0, rfl, by omega, by omega, by (repeat (first | exact Fr.refl _ _ | assumption | apply Fr.drewN | apply Fr.drew | apply Fr.alloc | refine Fr.setCell ?_ (Or.inr (by simp; try omega)) _)), by (repeat (first | rw [if_pos (by omega)] | rw [if_neg (by omega)] | rw [hp_drew] | rw [hp_drewN] | rw [hp_alloc_size] | rw [hp_setCell_size] | rw [hp_alloc] | rw [hp_setCell] | rw [Option.map_some] | rw [upd_cells] | rw [List.set_cons_zero] | rw [List.set_cons_succ] | rfl)), by (repeat (first | rw [if_pos (by omega)] | rw [if_neg (by omega)] | rw [hp_drew] | rw [hp_drewN] | rw [hp_alloc_size] | rw [hp_setCell_size] | rw [hp_alloc] | rw [hp_setCell] | rw [Option.map_some] | rw [upd_cells] | rw [List.set_cons_zero] | rw [List.set_cons_succ] | rfl))⟩
  case round =>
    obtain ⟨i, rfl, hi, hno, hf, hb0, hb1⟩ := hrel
    have b0 := heap_eq_cell hb0 0
    have b1 := heap_eq_cell hb0 1
    have d0 := heap_eq_cell hb1 0
    have d1 := heap_eq_cell hb1 1
    have d2 := heap_eq_cell hb1 2
    have d3 := heap_eq_cell hb1 3
    have hl1 := lt_of_block hb1
    by_cases hlt : i < ns.length
    · obtain ⟨g, off, rfl, hg, hc⟩ := Hav.out (by omega)
      obtain ⟨x, hx⟩ : ∃ x, ns[i]? = some x := ⟨_, List.getElem?_eq_getElem hlt⟩
      obtain ⟨f0, f1, f2, f3⟩ := flat_get hx
      rw [Nat.mul_comm] at f0 f1 f2 f3
      have hgw : ∀ j, wr.cell? ⟨g, off + j, none⟩ = w.cell? ⟨g, off + j, none⟩ := fun j => hf.cell (p := ⟨g, off + j, none⟩) hg (by simp)
      have e0 := (hgw _).trans (hc _ _ f0)
      have e1 := (hgw _).trans (hc _ _ f1)
      have e2 := (hgw _).trans (hc _ _ f2)
      have e3 := (hgw _).trans (hc _ _ f3)
      simp only [← Nat.add_assoc] at e1 e2 e3
      have hgr : g < wr.heap.size := by have := hf.size; omega
      have heq : (x.a == k.a && (x.b == k.b && (x.c == k.c && x.d == k.d))) = decide (x = k) := by
        rw [Bool.eq_iff_iff]; cases x; cases k; simp
      have Hx := Lib.hid hx
      have Hno := Lib.hid hno
      have Hf := Lib.hid hf
      have Hb0 := Lib.hid hb0
      have Hb1 := Lib.hid hb1
      clear hx hno hf hb0 hb1 hc f0 f1 f2 f3 hgw
      by_cases hxk : x = k
      · rw [decide_eq_true hxk] at heq
        have Hxk := Lib.hid hxk
        clear hxk
        go_wp2
        (refine wp_region_text (by kernel_rfl) (by kernel_rfl) ?_)
        go_wp2
        refine Strict.intro rfl ?_
        go_wp2
        go_ret
        have hx := Hx.out
        rw [Hxk.out] at hx
        refine ⟨?_, Hf.out.drew⟩
        unfold findN
        rw [idxOf_at hx Hno.out]
        rfl
      · rw [decide_eq_false hxk] at heq
        have Hxk := Lib.hid hxk
        clear hxk
        go_wp2
        (refine wp_region_text (by kernel_rfl) (by kernel_rfl) ?_)
        go_wp2
        refine Strict.intro rfl ?_
        go_wp2
        go_roundw
        case rel =>
          refine ⟨i + 1, by go_num, by omega, fun j hj => ?_, Hf.out.drew, Hb0.out, Hb1.out⟩
          by_cases h : j = i
          · rw [h, Hx.out]; exact fun e => Hxk.out (Option.some.inj e)
          · exact Hno.out j (by omega)
        case measure => simp [intOf]; omega
    · have hnone : ns.idxOf? k = none := by
        rw [List.idxOf?_eq_none_iff]
        intro hin
        obtain ⟨j, hj⟩ := List.getElem?_of_mem hin
        have := (List.getElem?_eq_some_iff.1 hj).1
        exact hno j (by omega) hj
      have Hnone := Lib.hid hnone
      have Hf := Lib.hid hf
      clear hnone hno hf hb0 hb1
      go_wp2
      go_ret
      refine ⟨?_, Hf.out⟩
      unfold findN
      rw [Hnone.out]
      rfl
end Go.Proofs.Ytgeomalefpjfdaa
