/- Own texts of this claim, part 15: no condition. -/
import Derived.Test.YtppmnmheodimoaaZM7
import Derived.Test.YtppmnmheodimoaaZM13
import Derived.Test.YtppmnmheodimoaaZM10
section
/- The reference's cells of a node. -/
namespace Go.Proofs.Ytppmnmheodimoaa
open Go Go.RowKit Go.Proofs.Rg Go.Proofs.Mp Go.Proofs.Hp Go.Proofs.Qs Go.Proofs.Ev
set_option linter.unusedVariables false
set_option linter.unusedSimpArgs false
theorem RLevelIs {w : World} {b : Nat} {s : Int} {ns : List K4} {F : List Nat} (hS : RefAt w b s ns F) {n : Nat} {id : Int} {t : Tr} (hi : Is s ns n id t) :
    Calls Try.prog 42 #[.pointer (some ⟨b, 0, none⟩), .int .i64 id] w fun e w' => e = .returned (.int .i64 n) ∧ Fr [] w w' := by
  have := RLevel_calls hS id
  rwa [hi.lvl hS.1] at this
theorem RKidsIs {w : World} {b : Nat} {s : Int} {ns : List K4} {F : List Nat} (hS : RefAt w b s ns F) {n : Nat} {id : Int} {t : Tr} (hi : Is s ns (n + 1) id t) :
    Calls Try.prog 51 #[.pointer (some ⟨b, 0, none⟩), .int .i64 id] w fun e w' => e = .returned (.tuple #[.agg #[.int .i64 (nodeOf s ns id).a, .int .i64 (nodeOf s ns id).b, .int .i64 (nodeOf s ns id).c, .int .i64 (nodeOf s ns id).d], .bool true]) ∧ Fr [] w w' := by
  obtain ⟨h1, h2, _⟩ := hi.node hS.1
  have e : kidsOf s ns id = (nodeOf s ns id, true) := by
    unfold kidsOf
    rw [if_neg (by omega), h2]
  have := RKids_calls hS id
  rwa [e] at this
def At3 (P : Nat → Prop) (z : Int) : Prop := z = 0 ∧ P 0 ∨ z = 1 ∧ P 1 ∨ z = 2 ∧ P 2
/-- what Cells leaves -/
def CellsAt (s : Int) (ns : List K4) (b : Nat) (n : Nat) : Prop := ∀ (w : World) (F : List Nat) (id : Int) (t : Tr), RefAt w b s ns F → Is s ns n id t →
  Calls Try.prog 24 #[.pointer (some ⟨b, 0, none⟩), .int .i64 id] w fun e w' => ∃ a c, e = .returned (.slice a (2 ^ n) c) ∧ Gath w' w.heap.size (ge w.heap.size) (.slice a (2 ^ n) c) (cellsL n t) ∧ Fr [] w w'
theorem cells_zero {s : Int} {ns : List K4} {b : Nat} : CellsAt s ns b 0 := by
  intro w F id t hS hi
  obtain ⟨_, _, rfl⟩ := hi.zero hS.1
  have HL := Lib.hid (RLevelIs hS hi)
  clear hS hi
  go_enter Try.func24, Try.ntmps24
  go_wp2_with fail
  refine HL.out.mono ?_
  rintro e w1 ⟨rfl, hf⟩
  have Hf := Lib.hid hf
  clear hf
  go_wp2
  go_ret
  refine ⟨_, _, rfl, ?_, by have := Hf.out; (repeat (first | exact Fr.refl _ _ | assumption | apply Fr.drewN | apply Fr.drew | apply Fr.alloc | refine Fr.setCell ?_ (Or.inr (by simp; try omega)) _))⟩
  have hs := Hf.out.size
  refine ⟨[.slice (some ⟨w1.heap.size, 0, none⟩) 1 1], owns_mk (g := w1.heap.size + 1) (cur := #[.slice (some ⟨w1.heap.size, 0, none⟩) 1 1]) (by (repeat (first | rw [if_pos (by omega)] | rw [if_neg (by omega)] | rw [hp_drew] | rw [hp_drewN] | rw [hp_alloc_size] | rw [hp_setCell_size] | rw [hp_alloc] | rw [hp_setCell] | rw [Option.map_some] | rw [upd_cells] | rw [List.set_cons_zero] | rw [List.set_cons_succ] | rfl))) (by omega) (by omega) (by decide) rfl rfl, fun i r hi => ?_⟩
  cases i with
  | succ i => simp [cellsL_zero] at hi
  | zero =>
    rw [cellsL_zero] at hi
    obtain rfl := Option.some.inj hi
    refine ⟨_, rfl, reads_blk (t := 3) (fr := (0, 0)) (cs := [.int .i64 id]) (by (repeat (first | rw [if_pos (by omega)] | rw [if_neg (by omega)] | rw [hp_drew] | rw [hp_drewN] | rw [hp_alloc_size] | rw [hp_setCell_size] | rw [hp_alloc] | rw [hp_setCell] | rw [Option.map_some] | rw [upd_cells] | rw [List.set_cons_zero] | rw [List.set_cons_succ] | rfl))) rfl, Nat.le_refl 1, fun g hg => ?_⟩
    have hg : w1.heap.size = g := by simpa [Value.ownBlock] using hg
    subst hg
    refine ⟨by simp [hp_alloc_size]; omega, hs, fun e => ?_⟩
    simp [Value.ownBlock, hp_alloc_size] at e
set_option maxHeartbeats 8000000 in
set_option maxRecDepth 100000 in
theorem cells_succ {s : Int} {ns : List K4} {b n : Nat} (hn : n ≤ 10) (ih : CellsAt s ns b n) : CellsAt s ns b (n + 1) := by
  intro w F id t hS hi
  obtain ⟨_, _, hk⟩ := hi.node hS.1
  obtain ⟨ta, tb, tc, td, rfl⟩ : ∃ ta tb tc td, t = .node ta tb tc td := by
    have h := hi.2.2.1
    cases t with
    | leaf v => exact absurd h (by simp [Full])
    | node a b c d => exact ⟨a, b, c, d, rfl⟩
  have HL := Lib.hid (RLevelIs hS hi)
  have HK := Lib.hid (fun w1 (hf : Fr [] w w1) => RKidsIs (hS.fr hf (by simp)) hi)
  have hC := fun q (hq : q < 4) w1 (hf : Fr [] w w1) => ih w1 F _ _ (hS.fr hf (by simp)) (hk q hq)
  obtain ⟨ka, kb, kc, kd, hkk⟩ : ∃ ka kb kc kd, nodeOf s ns id = ⟨ka, kb, kc, kd⟩ := ⟨_, _, _, _, rfl⟩
  rw [hkk] at HK hC
  have hrow : ∀ (P : Nat → Nat → Prop), P (2 ^ n) (2 ^ (n + 1)) → ∃ m m2, 2 ^ n = m ∧ 2 ^ (n + 1) = m2 ∧ P m m2 := fun P h => ⟨_, _, rfl, rfl, h⟩
  have hm1 : 2 ^ n ≤ 1024 := Nat.pow_le_pow_right (by omega) hn
  have hm0 : 1 ≤ 2 ^ n := Nat.one_le_two_pow
  have HN := Lib.hid (fun y (h : y < 2 ^ n) => row_north (a := ta) (b := tb) (c := tc) (d := td) h)
  have HSo := Lib.hid (fun y (h : y < 2 ^ n) => row_south (a := ta) (b := tb) (c := tc) (d := td) h)
  have hget := fun (t : Tr) y (h : y < 2 ^ n) => cellsL_get (n := n) (t := t) h
  have H2 := Lib.hid (show 2 ^ (n + 1) = 2 * 2 ^ n by omega)
  have HGET := Lib.hid hget
  have hc0 : ∀ w1, Fr [] w w1 → _ := hC 0 (by omega)
  have hc1 : ∀ w1, Fr [] w w1 → _ := hC 1 (by omega)
  have hc2 : ∀ w1, Fr [] w w1 → _ := hC 2 (by omega)
  have hc3 : ∀ w1, Fr [] w w1 → _ := hC 3 (by omega)
  simp only [K4.get, Tr.q] at hc0 hc1 hc2 hc3
  have HC0 := Lib.hid hc0
  have HC1 := Lib.hid hc1
  have HC2 := Lib.hid hc2
  have HC3 := Lib.hid hc3
  have HRES := Lib.hid (show cellsL (n + 1) (.node ta tb tc td) = rowsL (2 ^ (n + 1)) (2 ^ (n + 1)) (cell (n + 1) (.node ta tb tc td)) 0 0 from rfl)
  clear hS hi hk hkk hget hrow hC hc0 hc1 hc2 hc3 ih
  generalize hm : 2 ^ n = m at *
  generalize hm2 : 2 ^ (n + 1) = m2 at *
  clear hm hm2
  go_enter Try.func24, Try.ntmps24
  go_wp2_with fail
  refine HL.out.mono ?_
  rintro e w1 ⟨rfl, hf⟩
  have Hf := Lib.hid hf
  clear hf
  have hz : (((n + 1 : Nat) : Int) == 0) = false := by simp; omega
  go_wp2_with fail
  refine (HK.out _ (by have := Hf.out; (repeat (first | exact Fr.refl _ _ | assumption | apply Fr.drewN | apply Fr.drew | apply Fr.alloc | refine Fr.setCell ?_ (Or.inr (by simp; try omega)) _)))).mono ?_
  rintro e w2 ⟨rfl, hf⟩
  have Hf := Lib.hid (Hf.out.trans0 (Fr.trans0 (by (repeat (first | exact Fr.refl _ _ | assumption | apply Fr.drewN | apply Fr.drew | apply Fr.alloc | refine Fr.setCell ?_ (Or.inr (by simp; try omega)) _))) hf))
  clear hf hz
  go_wp2
  obtain ⟨w3, hw3⟩ : ∃ w3, w2.alloc (Obj.cells #[Value.int IntKind.i64 ka, Value.int IntKind.i64 kb, Value.int IntKind.i64 kc, Value.int IntKind.i64 kd] 75 (0, 0)) = w3 := ⟨_, rfl⟩
  have hk3 : w3.heap[w2.heap.size]? = some (.cells #[Value.int IntKind.i64 ka, Value.int IntKind.i64 kb, Value.int IntKind.i64 kc, Value.int IntKind.i64 kd] 75 (0, 0)) := by rw [← hw3]; (repeat (first | rw [if_pos (by omega)] | rw [if_neg (by omega)] | rw [hp_drew] | rw [hp_drewN] | rw [hp_alloc_size] | rw [hp_setCell_size] | rw [hp_alloc] | rw [hp_setCell] | rw [Option.map_some] | rw [upd_cells] | rw [List.set_cons_zero] | rw [List.set_cons_succ] | rfl))
  have Hf := Lib.hid (show Fr [] w w3 by rw [← hw3]; have := Hf.out; (repeat (first | exact Fr.refl _ _ | assumption | apply Fr.drewN | apply Fr.drew | apply Fr.alloc | refine Fr.setCell ?_ (Or.inr (by simp; try omega)) _)))
  rw [hw3]
  obtain ⟨kb9, hkb9⟩ : ∃ k, w2.heap.size = k := ⟨_, rfl⟩
  rw [hkb9] at hk3 ⊢
  have Hk := Lib.hid hk3
  clear hw3 hkb9 hk3
  go_loopw [8, 9] (fun x8 x9 wr => ∃ z : Int, x9 = .int .i64 z ∧ At3 (fun q => Hid (Gath wr w3.heap.size (ge w3.heap.size) x8 (rowsL (q * m) m2 (cell (n + 1) (.node ta tb tc td)) 0 0))) z ∧ Hid (Fr [] w3 wr)) (fun _ x _ => 2 - (intOf x).toNat)
  case atStart => exact ⟨0, rfl, .inl ⟨rfl, Lib.hid (by rw [Nat.zero_mul]; exact Gath.nil _ _ _)⟩, Lib.hid (Fr.refl _ _)⟩
  case round =>
    obtain ⟨z, rfl, hz, Hf3⟩ := hrel
    have hfk := Hf3.out
    (try clear k0)
    (try clear k1)
    (try clear k2)
    (try clear k3)
    (try clear kl)
    have hk_ := (hfk.block _ (lt_of_block Hk.out) (by simp)).trans Hk.out
    clear Hk
    have k0 := heap_eq_cell hk_ 0
    have k1 := heap_eq_cell hk_ 1
    have k2 := heap_eq_cell hk_ 2
    have k3 := heap_eq_cell hk_ 3
    have kl := lt_of_block hk_
    have Hk := Lib.hid hk_
    clear hk_
    clear hfk
    rcases hz with ⟨rfl, HG⟩ | ⟨rfl, HG⟩ | ⟨rfl, HG⟩
    ·
      obtain ⟨j0, hj0⟩ : ∃ k, 0 * m = k := ⟨_, rfl⟩
      have hk1 : j0 ≤ m := by rw [← hj0]; omega
      have HG := Lib.hid (hj0 ▸ HG.out)
      have HK0 := Lib.hid hj0
      clear hj0
      obtain ⟨z9, hz9⟩ : ∃ z, wr.heap.size = z := ⟨_, rfl⟩
      have HG0 := Lib.hid (show ∀ g, u8.ownBlock = some g → g < z9 from fun g hg => hz9 ▸ HG.out.blk hg)
      have HZ9 := Lib.hid hz9
      clear hz9
      go_wp2
      refine wp_region_segs [([0, 1, 2, 3, 4, 6, 7, 8, 9, 10, 11, 5], [11]), ([12, 13, 14], [])] (by kernel_rfl) (by kernel_rfl) ?_
      (simp only [wpSegs, pick, Array.getD_eq_getD_getElem?, List.getElem?_toArray, List.getElem?_cons_succ, List.getElem?_cons_zero, Option.getD_some])
      go_wp2_with fail
      refine (HC0.out _ (Fr.trans0 Hf.out (by have := Hf3.out; (repeat (first | exact Fr.refl _ _ | assumption | apply Fr.drewN | apply Fr.drew | apply Fr.alloc | refine Fr.setCell ?_ (Or.inr (by simp; try omega)) _))))).mono ?_
      rintro e w4 ⟨xa, xc, rfl, hx, hf⟩
      have hfk : Fr [] w3 w4 := Fr.trans0 (by have := Hf3.out; (repeat (first | exact Fr.refl _ _ | assumption | apply Fr.drewN | apply Fr.drew | apply Fr.alloc | refine Fr.setCell ?_ (Or.inr (by simp; try omega)) _))) hf
      (try clear k0)
      (try clear k1)
      (try clear k2)
      (try clear k3)
      (try clear kl)
      have hk_ := (hf.block _ (lt_of_block Hk.out) (by simp)).trans Hk.out
      clear Hk
      have k0 := heap_eq_cell hk_ 0
      have k1 := heap_eq_cell hk_ 1
      have k2 := heap_eq_cell hk_ 2
      have k3 := heap_eq_cell hk_ 3
      have kl := lt_of_block hk_
      have Hk := Lib.hid hk_
      clear hk_
      have Hf3 := Lib.hid hfk
      have HG := Lib.hid (HG.out.fr (Fr.trans0 (by (repeat (first | exact Fr.refl _ _ | assumption | apply Fr.drewN | apply Fr.drew | apply Fr.alloc | refine Fr.setCell ?_ (Or.inr (by simp; try omega)) _))) hf))
      have HX := Lib.hid (hx.low (base' := z9) (P' := ge z9) (by have := HZ9.out; (first | omega | (simp only [hp_drew, hp_drewN, hp_alloc_size]; omega) | (simp; omega))) (fun g hg => Nat.le_trans (by have := HZ9.out; (first | omega | (simp only [hp_drew, hp_drewN, hp_alloc_size]; omega) | (simp; omega))) hg))
      have H49 := Lib.hid (show z9 ≤ w4.heap.size by have := hf.size; have := HZ9.out; simp at *; omega)
      clear hfk hx hf HZ9
      go_wp2
      refine Mid.intro ⟨⟨again_cell (T := 3) rfl rfl rfl Try.underlying3 rfl k1 rfl, trivial⟩, ?_⟩
      go_wp2_with fail
      refine (HC1.out _ (Fr.trans0 Hf.out (by have := Hf3.out; (repeat (first | exact Fr.refl _ _ | assumption | apply Fr.drewN | apply Fr.drew | apply Fr.alloc | refine Fr.setCell ?_ (Or.inr (by simp; try omega)) _))))).mono ?_
      rintro e w5 ⟨ya, yc, rfl, hy, hf⟩
      have hfk : Fr [] w3 w5 := Fr.trans0 (by have := Hf3.out; (repeat (first | exact Fr.refl _ _ | assumption | apply Fr.drewN | apply Fr.drew | apply Fr.alloc | refine Fr.setCell ?_ (Or.inr (by simp; try omega)) _))) hf
      (try clear k0)
      (try clear k1)
      (try clear k2)
      (try clear k3)
      (try clear kl)
      have hk_ := (hf.block _ (lt_of_block Hk.out) (by simp)).trans Hk.out
      clear Hk
      have k0 := heap_eq_cell hk_ 0
      have k1 := heap_eq_cell hk_ 1
      have k2 := heap_eq_cell hk_ 2
      have k3 := heap_eq_cell hk_ 3
      have kl := lt_of_block hk_
      have Hk := Lib.hid hk_
      clear hk_
      have Hf3 := Lib.hid hfk
      have HG := Lib.hid (HG.out.fr (Fr.trans0 (by (repeat (first | exact Fr.refl _ _ | assumption | apply Fr.drewN | apply Fr.drew | apply Fr.alloc | refine Fr.setCell ?_ (Or.inr (by simp; try omega)) _))) hf))
      have HX := Lib.hid (HX.out.fr (Fr.trans0 (by (repeat (first | exact Fr.refl _ _ | assumption | apply Fr.drewN | apply Fr.drew | apply Fr.alloc | refine Fr.setCell ?_ (Or.inr (by simp; try omega)) _))) hf))
      have HY := Lib.hid (hy.low (base' := z9) (P' := ge z9) (by have := H49.out; (first | omega | (simp only [hp_drew, hp_drewN, hp_alloc_size]; omega) | (simp; omega))) (fun g hg => Nat.le_trans (by have := H49.out; (first | omega | (simp only [hp_drew, hp_drewN, hp_alloc_size]; omega) | (simp; omega))) hg))
      clear hfk hy hf H49
      go_wp2
      refine Mid.intro ⟨trivial, Strict.intro rfl ?_⟩
      obtain ⟨G8, hG8⟩ : ∃ G, G = u8.ownBlock.toList := ⟨_, rfl⟩
      have HB5 := Lib.hid (show ∀ x ∈ G8, x < z9 ∧ ¬ ge z9 x by
        subst hG8
        intro x hx
        have h := HG0.out x (show u8.ownBlock = some x by simpa using hx)
        exact ⟨h, fun hg => absurd h (Nat.not_lt.2 hg)⟩)
      have HGG := Lib.hid (show ∀ x ∈ G8, x ∈ ([] : List Nat) ∨ w3.heap.size ≤ x by
        subst hG8
        intro x hx
        obtain ⟨vs, ho, _⟩ := HG.out
        exact .inr (owns_ge ho (show u8.ownBlock = some x by simpa using hx)))
      have HU8 := Lib.hid (show ∀ g, u8.ownBlock = some g → g ∈ G8 ∨ w5.heap.size ≤ g from fun g hg => .inl (by rw [hG8, hg]; simp))
      clear hG8 HG0
      go_wp2
      go_loopw [8, 12] (fun x8 x12 wr => ∃ y : Nat, x12 = .int .i64 y ∧ y ≤ m ∧ Hid (Gath wr w3.heap.size (ge w3.heap.size) x8 (rowsL (j0 + y) m2 (cell (n + 1) (.node ta tb tc td)) 0 0)) ∧ Hid (Fr G8 w5 wr) ∧ Hid (∀ g, x8.ownBlock = some g → g ∈ G8 ∨ w5.heap.size ≤ g)) (fun _ x _ => m - (intOf x).toNat)
      case atStart => exact ⟨0, rfl, by omega, by rw [Nat.add_zero]; exact HG, Lib.hid (Fr.refl _ _), HU8⟩
      case round =>
        clear HG HU8
        obtain ⟨y, rfl, hy, HG, Hf5, HU8⟩ := hrel
        by_cases hlt : y < m
        · have hix := row_one (HX.out.frG Hf5.out HB5.out).rows (HGET.out ta y hlt) (by rw [rowL_length]; omega)
          have hiy := row_one (HY.out.frG Hf5.out HB5.out).rows (HGET.out tb y hlt) (by rw [rowL_length]; omega)
          rw [rowL_length] at hix hiy
          obtain ⟨gx, ox, g2x, o2x, rcx, rfl, lx, cx, hxi, lx2⟩ := hix
          obtain ⟨gy, oy, g2y, o2y, rcy, rfl, ly, cy, hyi, ly2⟩ := hiy
          have HXI := Lib.hid hxi
          have HYI := Lib.hid hyi
          clear hxi hyi
          have hwr : wr.heap.size = wr.heap.size := rfl
          go_wp2_with (at_builtin; refine append_reads (base := wr.heap.size) (e := 3) (z := .int .i64 0) (size := 1) (bytes := 8) (n := 0) (xs := []) (news := iv (rowL m (cell n ta) 0 y)) rfl rfl Try.underlying71 (by kernel_rfl) rfl (by decide) rfl (World.ownsRow_nil _ _ _ _) rfl ?e10 (fun h => by cases h) (iv_one _) ?e20 ?e30 ?e40 ?_)
          case e10 => have := HXI.out.fr (by (repeat (first | exact Fr.refl _ _ | assumption | apply Fr.drewN | apply Fr.drew | apply Fr.alloc | refine Fr.setCell ?_ (Or.inr (by simp; try omega)) _)) : Fr [] wr _); unfold IntsAt at this; rwa [rowL_length] at this
          case e20 => exact Nat.le_trans (by omega : _ ≤ 1024) (by decide)
          case e30 => omega
          intro rv6 w6 hown6 hF6 hb6
          try simp only [Nat.zero_add, List.nil_append] at hown6
          have hf6 : Fr [] wr w6 := Fr.trans0 (by (repeat (first | exact Fr.refl _ _ | assumption | apply Fr.drewN | apply Fr.drew | apply Fr.alloc | refine Fr.setCell ?_ (Or.inr (by simp; try omega)) _))) hF6
          have HO6 := Lib.hid hown6
          have HF6 := Lib.hid hf6
          have l6 := hf6.size
          clear hown6 hF6 hb6 cx hwr
          have cy6 := (hf6.cell (p := ⟨gy, oy + y, none⟩) ly (by simp)).trans cy
          have ly6 : gy < w6.heap.size := by omega
          clear hf6 cy ly
          go_wp2_with (at_builtin; refine append_reads (base := wr.heap.size) (e := 3) (z := .int .i64 0) (size := 1) (bytes := 8) (n := m) (xs := iv (rowL m (cell n ta) 0 y)) (news := iv (rowL m (cell n tb) 0 y)) rfl rfl Try.underlying71 (by kernel_rfl) rfl (by decide) rfl ?f10 rfl ?f20 (fun h => by cases h) (iv_one _) ?f30 ?f40 ?f50 ?_)
          case f10 => exact HO6.out
          case f20 => have := HYI.out.fr HF6.out; unfold IntsAt at this; rwa [rowL_length] at this
          case f30 => exact Nat.le_trans (by omega : _ ≤ 2048) (by decide)
          case f40 => omega
          case f50 => omega
          intro rv7 w7 hown7 hF7 hb7
          have hf7 : Fr [] wr w7 := HF6.out.trans hF7 fun x hx => .inr (owns_ge HO6.out (by simpa using hx))
          rw [iv_append, HN.out y hlt, show m + m = m2 by have := H2.out; omega] at hown7
          obtain ⟨ra7, rc7, rfl, _, _⟩ := owns_form hown7
          have HO7 := Lib.hid hown7
          have HF7 := Lib.hid hf7
          have HG7 := Lib.hid (HG.out.fr hf7)
          have HGB := HG
          have HB7 := Lib.hid (fun g (hg : Value.ownBlock (.slice ra7 _ rc7) = some g) => show g < w7.heap.size ∧ w3.heap.size ≤ g ∧ u8.ownBlock ≠ some g from ⟨owns_lt hown7 hg, (by have h1 := owns_ge hown7 hg; have h3 := Hf3.out.size; have h5 := Hf5.out.size; omega), fun e => by have := HG.out.blk e; have := owns_ge hown7 hg; omega⟩)
          have l7 := hf7.size
          clear hown7 hF7 hf7 hb7 HO6 HF6 cy6 ly6 HXI HYI
          go_wp2_with (at_builtin; refine append_row (base := w3.heap.size) (P := ge w3.heap.size) (u := .slice ra7 m2 rc7) (L := rowsL (j0 + y) m2 (cell (n + 1) (.node ta tb tc td)) 0 0) (r := rowL m2 (cell (n + 1) (.node ta tb tc td)) 0 ((y : Nat) : Int)) rfl rfl rfl rfl ?g10 ?g20 ?g30 ?gf0 ?g40 ?g50 ?g60 ?_)
          case g10 => exact HG7.out.fr (by (repeat (first | exact Fr.refl _ _ | assumption | apply Fr.drewN | apply Fr.drew | apply Fr.alloc | refine Fr.setCell ?_ (Or.inr (by simp; try omega)) _)))
          case g20 => (repeat (first | rw [if_pos (by omega)] | rw [if_neg (by omega)] | rw [hp_drew] | rw [hp_drewN] | rw [hp_alloc_size] | rw [hp_setCell_size] | rw [hp_alloc] | rw [hp_setCell] | rw [Option.map_some] | rw [upd_cells] | rw [List.set_cons_zero] | rw [List.set_cons_succ] | rfl))
          case g30 => refine IntsAt.fr (ints_of_owns (base := wr.heap.size) ?_) (by (repeat (first | exact Fr.refl _ _ | assumption | apply Fr.drewN | apply Fr.drew | apply Fr.alloc | refine Fr.setCell ?_ (Or.inr (by simp; try omega)) _)) : Fr [] w7 _); rw [rowL_length]; exact HO7.out
          case gf0 => exact owns_fits HO7.out
          case g40 => intro g hg; have := HB7.out g hg; exact ⟨by rw [hp_alloc_size]; omega, this.2⟩
          case g50 => rw [rowsL_length]; omega
          case g60 => have h3 := Hf3.out.size; have h5 := Hf5.out.size; rw [hp_alloc_size]; omega
          intro v8 w8 hg8 hF8 hloc8
          have hfr : Fr G8 w5 w8 := Fr.trans (Hf5.out.trans (Fr.trans0 HF7.out (by (repeat (first | exact Fr.refl _ _ | assumption | apply Fr.drewN | apply Fr.drew | apply Fr.alloc | refine Fr.setCell ?_ (Or.inr (by simp; try omega)) _)))) (by simp)) hF8 fun x hx => HU8.out x (by simpa using hx)
          have HU9 := Lib.hid (show ∀ g, v8.ownBlock = some g → g ∈ G8 ∨ w5.heap.size ≤ g from fun g hg => by
            rcases hloc8 with h | h
            · exact HU8.out g (by rw [← h]; exact hg)
            · rw [h] at hg
              have hg : _ = g := Option.some.inj hg
              have h5 := Hf5.out.size
              exact .inr (by omega))
          have HF8 := Lib.hid hfr
          have HG8 := Lib.hid (show Gath w8 w3.heap.size (ge w3.heap.size) v8 (rowsL (j0 + (y + 1)) m2 (cell (n + 1) (.node ta tb tc td)) 0 0) by
            rw [show j0 + (y + 1) = j0 + y + 1 by omega, ← rowsL_snoc, show (0 : Int) + ((j0 + y : Nat) : Int) = ((y : Nat) : Int) by have := HK0.out; first | omega | (push_cast; omega)]
            exact hg8)
          clear hg8 hF8 hfr hloc8
          go_wp2
          go_roundw
          case rel => exact ⟨y + 1, by go_num, by omega, HG8, HF8, HU9⟩
          case measure => simp [intOf]; omega
        · obtain rfl : m = y := by omega
          go_wp2
          go_roundw
          case rel => exact ⟨0 + 1, by go_num, by
            have hj0 := HK0.out
            exact (.inr (.inl ⟨rfl, Lib.hid (by have h := HG.out; rwa [show j0 + m = 1 * m by omega] at h)⟩)), Lib.hid (Hf3.out.trans Hf5.out HGG.out)⟩
          case measure => simp [intOf]
    ·
      obtain ⟨j0, hj0⟩ : ∃ k, 1 * m = k := ⟨_, rfl⟩
      have hk1 : j0 ≤ m := by rw [← hj0]; omega
      have HG := Lib.hid (hj0 ▸ HG.out)
      have HK0 := Lib.hid hj0
      clear hj0
      obtain ⟨z9, hz9⟩ : ∃ z, wr.heap.size = z := ⟨_, rfl⟩
      have HG0 := Lib.hid (show ∀ g, u8.ownBlock = some g → g < z9 from fun g hg => hz9 ▸ HG.out.blk hg)
      have HZ9 := Lib.hid hz9
      clear hz9
      go_wp2
      refine wp_region_segs [([0, 1, 2, 3, 4, 6, 7, 8, 9, 10, 11, 5], [11]), ([12, 13, 14], [])] (by kernel_rfl) (by kernel_rfl) ?_
      (simp only [wpSegs, pick, Array.getD_eq_getD_getElem?, List.getElem?_toArray, List.getElem?_cons_succ, List.getElem?_cons_zero, Option.getD_some])
      go_wp2_with fail
      refine (HC2.out _ (Fr.trans0 Hf.out (by have := Hf3.out; (repeat (first | exact Fr.refl _ _ | assumption | apply Fr.drewN | apply Fr.drew | apply Fr.alloc | refine Fr.setCell ?_ (Or.inr (by simp; try omega)) _))))).mono ?_
      rintro e w4 ⟨xa, xc, rfl, hx, hf⟩
      have hfk : Fr [] w3 w4 := Fr.trans0 (by have := Hf3.out; (repeat (first | exact Fr.refl _ _ | assumption | apply Fr.drewN | apply Fr.drew | apply Fr.alloc | refine Fr.setCell ?_ (Or.inr (by simp; try omega)) _))) hf
      (try clear k0)
      (try clear k1)
      (try clear k2)
      (try clear k3)
      (try clear kl)
      have hk_ := (hf.block _ (lt_of_block Hk.out) (by simp)).trans Hk.out
      clear Hk
      have k0 := heap_eq_cell hk_ 0
      have k1 := heap_eq_cell hk_ 1
      have k2 := heap_eq_cell hk_ 2
      have k3 := heap_eq_cell hk_ 3
      have kl := lt_of_block hk_
      have Hk := Lib.hid hk_
      clear hk_
      have Hf3 := Lib.hid hfk
      have HG := Lib.hid (HG.out.fr (Fr.trans0 (by (repeat (first | exact Fr.refl _ _ | assumption | apply Fr.drewN | apply Fr.drew | apply Fr.alloc | refine Fr.setCell ?_ (Or.inr (by simp; try omega)) _))) hf))
      have HX := Lib.hid (hx.low (base' := z9) (P' := ge z9) (by have := HZ9.out; (first | omega | (simp only [hp_drew, hp_drewN, hp_alloc_size]; omega) | (simp; omega))) (fun g hg => Nat.le_trans (by have := HZ9.out; (first | omega | (simp only [hp_drew, hp_drewN, hp_alloc_size]; omega) | (simp; omega))) hg))
      have H49 := Lib.hid (show z9 ≤ w4.heap.size by have := hf.size; have := HZ9.out; simp at *; omega)
      clear hfk hx hf HZ9
      go_wp2
      refine Mid.intro ⟨⟨again_cell (T := 3) rfl rfl rfl Try.underlying3 rfl k3 rfl, trivial⟩, ?_⟩
      go_wp2_with fail
      refine (HC3.out _ (Fr.trans0 Hf.out (by have := Hf3.out; (repeat (first | exact Fr.refl _ _ | assumption | apply Fr.drewN | apply Fr.drew | apply Fr.alloc | refine Fr.setCell ?_ (Or.inr (by simp; try omega)) _))))).mono ?_
      rintro e w5 ⟨ya, yc, rfl, hy, hf⟩
      have hfk : Fr [] w3 w5 := Fr.trans0 (by have := Hf3.out; (repeat (first | exact Fr.refl _ _ | assumption | apply Fr.drewN | apply Fr.drew | apply Fr.alloc | refine Fr.setCell ?_ (Or.inr (by simp; try omega)) _))) hf
      (try clear k0)
      (try clear k1)
      (try clear k2)
      (try clear k3)
      (try clear kl)
      have hk_ := (hf.block _ (lt_of_block Hk.out) (by simp)).trans Hk.out
      clear Hk
      have k0 := heap_eq_cell hk_ 0
      have k1 := heap_eq_cell hk_ 1
      have k2 := heap_eq_cell hk_ 2
      have k3 := heap_eq_cell hk_ 3
      have kl := lt_of_block hk_
      have Hk := Lib.hid hk_
      clear hk_
      have Hf3 := Lib.hid hfk
      have HG := Lib.hid (HG.out.fr (Fr.trans0 (by (repeat (first | exact Fr.refl _ _ | assumption | apply Fr.drewN | apply Fr.drew | apply Fr.alloc | refine Fr.setCell ?_ (Or.inr (by simp; try omega)) _))) hf))
      have HX := Lib.hid (HX.out.fr (Fr.trans0 (by (repeat (first | exact Fr.refl _ _ | assumption | apply Fr.drewN | apply Fr.drew | apply Fr.alloc | refine Fr.setCell ?_ (Or.inr (by simp; try omega)) _))) hf))
      have HY := Lib.hid (hy.low (base' := z9) (P' := ge z9) (by have := H49.out; (first | omega | (simp only [hp_drew, hp_drewN, hp_alloc_size]; omega) | (simp; omega))) (fun g hg => Nat.le_trans (by have := H49.out; (first | omega | (simp only [hp_drew, hp_drewN, hp_alloc_size]; omega) | (simp; omega))) hg))
      clear hfk hy hf H49
      go_wp2
      refine Mid.intro ⟨trivial, Strict.intro rfl ?_⟩
      obtain ⟨G8, hG8⟩ : ∃ G, G = u8.ownBlock.toList := ⟨_, rfl⟩
      have HB5 := Lib.hid (show ∀ x ∈ G8, x < z9 ∧ ¬ ge z9 x by
        subst hG8
        intro x hx
        have h := HG0.out x (show u8.ownBlock = some x by simpa using hx)
        exact ⟨h, fun hg => absurd h (Nat.not_lt.2 hg)⟩)
      have HGG := Lib.hid (show ∀ x ∈ G8, x ∈ ([] : List Nat) ∨ w3.heap.size ≤ x by
        subst hG8
        intro x hx
        obtain ⟨vs, ho, _⟩ := HG.out
        exact .inr (owns_ge ho (show u8.ownBlock = some x by simpa using hx)))
      have HU8 := Lib.hid (show ∀ g, u8.ownBlock = some g → g ∈ G8 ∨ w5.heap.size ≤ g from fun g hg => .inl (by rw [hG8, hg]; simp))
      clear hG8 HG0
      go_wp2
      go_loopw [8, 12] (fun x8 x12 wr => ∃ y : Nat, x12 = .int .i64 y ∧ y ≤ m ∧ Hid (Gath wr w3.heap.size (ge w3.heap.size) x8 (rowsL (j0 + y) m2 (cell (n + 1) (.node ta tb tc td)) 0 0)) ∧ Hid (Fr G8 w5 wr) ∧ Hid (∀ g, x8.ownBlock = some g → g ∈ G8 ∨ w5.heap.size ≤ g)) (fun _ x _ => m - (intOf x).toNat)
      case atStart => exact ⟨0, rfl, by omega, by rw [Nat.add_zero]; exact HG, Lib.hid (Fr.refl _ _), HU8⟩
      case round =>
        clear HG HU8
        obtain ⟨y, rfl, hy, HG, Hf5, HU8⟩ := hrel
        by_cases hlt : y < m
        · have hix := row_one (HX.out.frG Hf5.out HB5.out).rows (HGET.out tc y hlt) (by rw [rowL_length]; omega)
          have hiy := row_one (HY.out.frG Hf5.out HB5.out).rows (HGET.out td y hlt) (by rw [rowL_length]; omega)
          rw [rowL_length] at hix hiy
          obtain ⟨gx, ox, g2x, o2x, rcx, rfl, lx, cx, hxi, lx2⟩ := hix
          obtain ⟨gy, oy, g2y, o2y, rcy, rfl, ly, cy, hyi, ly2⟩ := hiy
          have HXI := Lib.hid hxi
          have HYI := Lib.hid hyi
          clear hxi hyi
          have hwr : wr.heap.size = wr.heap.size := rfl
          go_wp2_with (at_builtin; refine append_reads (base := wr.heap.size) (e := 3) (z := .int .i64 0) (size := 1) (bytes := 8) (n := 0) (xs := []) (news := iv (rowL m (cell n tc) 0 y)) rfl rfl Try.underlying71 (by kernel_rfl) rfl (by decide) rfl (World.ownsRow_nil _ _ _ _) rfl ?e11 (fun h => by cases h) (iv_one _) ?e21 ?e31 ?e41 ?_)
          case e11 => have := HXI.out.fr (by (repeat (first | exact Fr.refl _ _ | assumption | apply Fr.drewN | apply Fr.drew | apply Fr.alloc | refine Fr.setCell ?_ (Or.inr (by simp; try omega)) _)) : Fr [] wr _); unfold IntsAt at this; rwa [rowL_length] at this
          case e21 => exact Nat.le_trans (by omega : _ ≤ 1024) (by decide)
          case e31 => omega
          intro rv6 w6 hown6 hF6 hb6
          try simp only [Nat.zero_add, List.nil_append] at hown6
          have hf6 : Fr [] wr w6 := Fr.trans0 (by (repeat (first | exact Fr.refl _ _ | assumption | apply Fr.drewN | apply Fr.drew | apply Fr.alloc | refine Fr.setCell ?_ (Or.inr (by simp; try omega)) _))) hF6
          have HO6 := Lib.hid hown6
          have HF6 := Lib.hid hf6
          have l6 := hf6.size
          clear hown6 hF6 hb6 cx hwr
          have cy6 := (hf6.cell (p := ⟨gy, oy + y, none⟩) ly (by simp)).trans cy
          have ly6 : gy < w6.heap.size := by omega
          clear hf6 cy ly
          go_wp2_with (at_builtin; refine append_reads (base := wr.heap.size) (e := 3) (z := .int .i64 0) (size := 1) (bytes := 8) (n := m) (xs := iv (rowL m (cell n tc) 0 y)) (news := iv (rowL m (cell n td) 0 y)) rfl rfl Try.underlying71 (by kernel_rfl) rfl (by decide) rfl ?f11 rfl ?f21 (fun h => by cases h) (iv_one _) ?f31 ?f41 ?f51 ?_)
          case f11 => exact HO6.out
          case f21 => have := HYI.out.fr HF6.out; unfold IntsAt at this; rwa [rowL_length] at this
          case f31 => exact Nat.le_trans (by omega : _ ≤ 2048) (by decide)
          case f41 => omega
          case f51 => omega
          intro rv7 w7 hown7 hF7 hb7
          have hf7 : Fr [] wr w7 := HF6.out.trans hF7 fun x hx => .inr (owns_ge HO6.out (by simpa using hx))
          rw [iv_append, HSo.out y hlt, show m + m = m2 by have := H2.out; omega] at hown7
          obtain ⟨ra7, rc7, rfl, _, _⟩ := owns_form hown7
          have HO7 := Lib.hid hown7
          have HF7 := Lib.hid hf7
          have HG7 := Lib.hid (HG.out.fr hf7)
          have HGB := HG
          have HB7 := Lib.hid (fun g (hg : Value.ownBlock (.slice ra7 _ rc7) = some g) => show g < w7.heap.size ∧ w3.heap.size ≤ g ∧ u8.ownBlock ≠ some g from ⟨owns_lt hown7 hg, (by have h1 := owns_ge hown7 hg; have h3 := Hf3.out.size; have h5 := Hf5.out.size; omega), fun e => by have := HG.out.blk e; have := owns_ge hown7 hg; omega⟩)
          have l7 := hf7.size
          clear hown7 hF7 hf7 hb7 HO6 HF6 cy6 ly6 HXI HYI
          go_wp2_with (at_builtin; refine append_row (base := w3.heap.size) (P := ge w3.heap.size) (u := .slice ra7 m2 rc7) (L := rowsL (j0 + y) m2 (cell (n + 1) (.node ta tb tc td)) 0 0) (r := rowL m2 (cell (n + 1) (.node ta tb tc td)) 0 ((m + y : Nat) : Int)) rfl rfl rfl rfl ?g11 ?g21 ?g31 ?gf1 ?g41 ?g51 ?g61 ?_)
          case g11 => exact HG7.out.fr (by (repeat (first | exact Fr.refl _ _ | assumption | apply Fr.drewN | apply Fr.drew | apply Fr.alloc | refine Fr.setCell ?_ (Or.inr (by simp; try omega)) _)))
          case g21 => (repeat (first | rw [if_pos (by omega)] | rw [if_neg (by omega)] | rw [hp_drew] | rw [hp_drewN] | rw [hp_alloc_size] | rw [hp_setCell_size] | rw [hp_alloc] | rw [hp_setCell] | rw [Option.map_some] | rw [upd_cells] | rw [List.set_cons_zero] | rw [List.set_cons_succ] | rfl))
          case g31 => refine IntsAt.fr (ints_of_owns (base := wr.heap.size) ?_) (by (repeat (first | exact Fr.refl _ _ | assumption | apply Fr.drewN | apply Fr.drew | apply Fr.alloc | refine Fr.setCell ?_ (Or.inr (by simp; try omega)) _)) : Fr [] w7 _); rw [rowL_length]; exact HO7.out
          case gf1 => exact owns_fits HO7.out
          case g41 => intro g hg; have := HB7.out g hg; exact ⟨by rw [hp_alloc_size]; omega, this.2⟩
          case g51 => rw [rowsL_length]; omega
          case g61 => have h3 := Hf3.out.size; have h5 := Hf5.out.size; rw [hp_alloc_size]; omega
          intro v8 w8 hg8 hF8 hloc8
          have hfr : Fr G8 w5 w8 := Fr.trans (Hf5.out.trans (Fr.trans0 HF7.out (by (repeat (first | exact Fr.refl _ _ | assumption | apply Fr.drewN | apply Fr.drew | apply Fr.alloc | refine Fr.setCell ?_ (Or.inr (by simp; try omega)) _)))) (by simp)) hF8 fun x hx => HU8.out x (by simpa using hx)
          have HU9 := Lib.hid (show ∀ g, v8.ownBlock = some g → g ∈ G8 ∨ w5.heap.size ≤ g from fun g hg => by
            rcases hloc8 with h | h
            · exact HU8.out g (by rw [← h]; exact hg)
            · rw [h] at hg
              have hg : _ = g := Option.some.inj hg
              have h5 := Hf5.out.size
              exact .inr (by omega))
          have HF8 := Lib.hid hfr
          have HG8 := Lib.hid (show Gath w8 w3.heap.size (ge w3.heap.size) v8 (rowsL (j0 + (y + 1)) m2 (cell (n + 1) (.node ta tb tc td)) 0 0) by
            rw [show j0 + (y + 1) = j0 + y + 1 by omega, ← rowsL_snoc, show (0 : Int) + ((j0 + y : Nat) : Int) = ((m + y : Nat) : Int) by have := HK0.out; first | omega | (push_cast; omega)]
            exact hg8)
          clear hg8 hF8 hfr hloc8
          go_wp2
          go_roundw
          case rel => exact ⟨y + 1, by go_num, by omega, HG8, HF8, HU9⟩
          case measure => simp [intOf]; omega
        · obtain rfl : m = y := by omega
          go_wp2
          go_roundw
          case rel => exact ⟨1 + 1, by go_num, by
            have hj0 := HK0.out
            exact (.inr (.inr ⟨rfl, Lib.hid (by have h := HG.out; rwa [show j0 + m = 2 * m by omega] at h)⟩)), Lib.hid (Hf3.out.trans Hf5.out HGG.out)⟩
          case measure => simp [intOf]
    · have hG := HG.out
      rw [← H2.out] at hG
      obtain ⟨ao, co, hao⟩ := hG.form
      rw [rowsL_length] at hao
      rw [hao] at hG
      subst hao
      have hs3 := Hf.out.size
      have HR := Lib.hid (hG.low (base' := w.heap.size) (P' := ge w.heap.size) hs3 (fun g hg => Nat.le_trans hs3 hg))
      clear HG hG
      go_wp2
      go_ret
      exact ⟨ao, co, rfl, by rw [HRES.out]; exact HR.out, Hf.out.trans0 (by have := Hf3.out; (repeat (first | exact Fr.refl _ _ | assumption | apply Fr.drewN | apply Fr.drew | apply Fr.alloc | refine Fr.setCell ?_ (Or.inr (by simp; try omega)) _)))⟩
theorem cells_all {s : Int} {ns : List K4} {b : Nat} : ∀ n, n ≤ 10 → CellsAt s ns b n
  | 0, _ => cells_zero
  | n + 1, h => cells_succ (by omega) (cells_all n (by omega))
end Go.Proofs.Ytppmnmheodimoaa
end
