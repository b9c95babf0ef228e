/- Calls of a store that a law has made; awake. -/
import Derived.Test.YtgcompnpjpmanaaQl
namespace Go.Proofs.Ytgcompnpjpmanaa
open Go Go.RowKit Go.Proofs.Rg Go.Proofs.Mp Go.Proofs.Hp Go.Proofs.Qs
/-- a store that lies in blocks that are new since w0 -/
def Own (w0 w : World) (b : Nat) (s : Int) (ns : List K4) : Prop := ∃ F, StoreAt w b s ns F ∧ Fr [] w0 w ∧ ∀ x ∈ F, w0.heap.size ≤ x
theorem Own.step {w0 w w' : World} {b : Nat} {s : Int} {ns : List K4} (h : Own w0 w b s ns) (hf : Fr [] w w') : Own w0 w' b s ns := by
  obtain ⟨F, hS, h0, hF⟩ := h
  exact ⟨F, hS.fr hf (by simp), h0.trans0 hf, hF⟩
theorem Own.fr {w0 w : World} {b : Nat} {s : Int} {ns : List K4} (h : Own w0 w b s ns) : Fr [] w0 w := by obtain ⟨F, _, h0, _⟩ := h; exact h0
theorem Own.good {w0 w : World} {b : Nat} {s : Int} {ns : List K4} (h : Own w0 w b s ns) : GoodQ s ns := by obtain ⟨F, h, _⟩ := h; exact h.1
theorem own_two {w0 w w' : World} {b : Nat} {s : Int} {F F' : List Nat} {ns' : List K4} (h0 : Fr [] w0 w) (hF : ∀ x ∈ F, w0.heap.size ≤ x) (hS : StoreAt w' b s ns' F') (hf : Fr F w w') (hF' : ∀ x ∈ F', x ∈ F ∨ w.heap.size ≤ x) : Own w0 w' b s ns' :=
  ⟨F', hS, h0.trans hf fun x hx => .inr (hF x hx), fun x hx => by
    rcases hF' x hx with h | h
    · exact hF x h
    · have := h0.size; omega⟩
theorem New_own (s : Int) (w0 w : World) (h : 2 ≤ s) (h' : s ≤ 8) (h0 : Fr [] w0 w) :
    Calls Try.prog 15 #[.int .i64 s] w fun e w' => ∃ b, e = .returned (.tuple #[.pointer (some ⟨b, 0, none⟩), .int .i64 0]) ∧ Own w0 w' b s [] :=
  (New_ok s w h h').mono fun e w' ⟨b, F, he, hS, hf, hF⟩ => ⟨b, he, F, hS, h0.trans0 hf, fun x hx => by have := hF x hx; have := h0.size; omega⟩
theorem Join_own {w0 w : World} {b : Nat} {s : Int} {ns : List K4} (h : Own w0 w b s ns) (x y z u : Int) :
    Calls Try.prog 19 #[.pointer (some ⟨b, 0, none⟩), .int .i64 x, .int .i64 y, .int .i64 z, .int .i64 u] w fun e w' =>
      e = .returned (.tuple #[.int .i64 (join s ns ⟨x, y, z, u⟩).1.1, .int .i64 (join s ns ⟨x, y, z, u⟩).1.2]) ∧ Own w0 w' b s (join s ns ⟨x, y, z, u⟩).2 := by
  obtain ⟨F, hS, h0, hF⟩ := h
  exact (Join_calls hS ⟨x, y, z, u⟩).mono fun e w' ⟨he, F', hS', hf, hF'⟩ => ⟨he, own_two h0 hF hS' hf hF'⟩
theorem Join_at {w0 w : World} {b : Nat} {s : Int} {ns ns' : List K4} {r q : Int} (h : Own w0 w b s ns) (x y z u : Int) (hj : join s ns ⟨x, y, z, u⟩ = ((r, q), ns')) :
    Calls Try.prog 19 #[.pointer (some ⟨b, 0, none⟩), .int .i64 x, .int .i64 y, .int .i64 z, .int .i64 u] w fun e w' =>
      e = .returned (.tuple #[.int .i64 r, .int .i64 q]) ∧ Own w0 w' b s ns' := by
  have := Join_own h x y z u
  rw [hj] at this
  exact this
theorem Empty_own {w0 w : World} {b : Nat} {s : Int} {ns : List K4} (h : Own w0 w b s ns) (l : Int) :
    Calls Try.prog 21 #[.pointer (some ⟨b, 0, none⟩), .int .i64 l] w fun e w' =>
      e = .returned (.tuple #[.int .i64 (emptyQ s ns l).1.1, .int .i64 (emptyQ s ns l).1.2]) ∧ Own w0 w' b s (emptyQ s ns l).2 := by
  obtain ⟨F, hS, h0, hF⟩ := h
  exact (Empty_calls hS l).mono fun e w' ⟨he, F', hS', hf, hF'⟩ => ⟨he, own_two h0 hF hS' hf hF'⟩
theorem Empty_at {w0 w : World} {b : Nat} {s : Int} {ns ns' : List K4} {r q : Int} (h : Own w0 w b s ns) (l : Int) (hj : emptyQ s ns l = ((r, q), ns')) :
    Calls Try.prog 21 #[.pointer (some ⟨b, 0, none⟩), .int .i64 l] w fun e w' =>
      e = .returned (.tuple #[.int .i64 r, .int .i64 q]) ∧ Own w0 w' b s ns' := by
  have := Empty_own h l
  rw [hj] at this
  exact this
theorem Level_own {w0 w : World} {b : Nat} {s : Int} {ns : List K4} (h : Own w0 w b s ns) (id : Int) :
    Calls Try.prog 20 #[.pointer (some ⟨b, 0, none⟩), .int .i64 id] w fun e w' => e = .returned (.int .i64 (lvl s (levs s ns) id)) ∧ Own w0 w' b s ns ∧ Fr [] w w' := by
  obtain ⟨F, hS, h0, hF⟩ := h
  exact (Level_calls hS id).mono fun e w' ⟨he, hd⟩ => ⟨he, ⟨F, hS.drew hd, h0.trans0 (hd.fr _), hF⟩, hd.fr _⟩
theorem Level_at {w0 w : World} {b : Nat} {s r : Int} {ns : List K4} (h : Own w0 w b s ns) (id : Int) (hr : lvl s (levs s ns) id = r) :
    Calls Try.prog 20 #[.pointer (some ⟨b, 0, none⟩), .int .i64 id] w fun e w' => e = .returned (.int .i64 r) ∧ Own w0 w' b s ns ∧ Fr [] w w' := by
  have := Level_own h id
  rw [hr] at this
  exact this
theorem Kids_own {w0 w : World} {b : Nat} {s : Int} {ns : List K4} (h : Own w0 w b s ns) (id : Int) :
    Calls Try.prog 18 #[.pointer (some ⟨b, 0, none⟩), .int .i64 id] w fun e w' => e = .returned (.tuple #[kv (kidsOf s ns id).1, .bool (kidsOf s ns id).2]) ∧ Own w0 w' b s ns ∧ Fr [] w w' := by
  have hk := h
  obtain ⟨F, hS, h0, hF⟩ := h
  exact (Kids_calls hS id).mono fun e w' ⟨he, hd⟩ => ⟨he, hk.step hd, hd⟩
theorem Kids_at {w0 w : World} {b : Nat} {s : Int} {ns : List K4} {k : K4} {q : Bool} (h : Own w0 w b s ns) (id : Int) (hr : kidsOf s ns id = (k, q)) :
    Calls Try.prog 18 #[.pointer (some ⟨b, 0, none⟩), .int .i64 id] w fun e w' => e = .returned (.tuple #[.agg #[.int .i64 k.a, .int .i64 k.b, .int .i64 k.c, .int .i64 k.d], .bool q]) ∧ Own w0 w' b s ns ∧ Fr [] w w' := by
  have := Kids_own h id
  rw [hr] at this
  exact this
theorem Data_own {w0 w : World} {b : Nat} {s : Int} {ns : List K4} (h : Own w0 w b s ns) :
    Calls Try.prog 14 #[.pointer (some ⟨b, 0, none⟩)] w fun e w' => ∃ a c, e = .returned (.agg #[.int .i64 s, .slice a ns.length c]) ∧ Reads w' (.slice a ns.length c) ns.length 4 (flat ns) ∧ Own w0 w' b s ns ∧ Fr [] w w' := by
  have hk := h
  obtain ⟨F, hS, h0, hF⟩ := h
  refine (Data_calls hS).mono ?_
  rintro e w' ⟨v, he, ho, hf⟩
  obtain ⟨a, c, rfl, _⟩ := owns_form ho
  exact ⟨a, c, he, Reads.of_owns ho, hk.step hf, hf⟩
def aw1 : List K4 := [⟨0, 1, 0, 0⟩]
def aw2 : List K4 := [⟨0, 1, 0, 0⟩, ⟨0, 0, 0, 0⟩]
def aw3 : List K4 := [⟨0, 1, 0, 0⟩, ⟨0, 0, 0, 0⟩, ⟨2, 3, 3, 3⟩]
def aw4 : List K4 := [⟨0, 1, 0, 0⟩, ⟨0, 0, 0, 0⟩, ⟨2, 3, 3, 3⟩, ⟨3, 3, 3, 3⟩]
set_option maxHeartbeats 4000000 in
set_option maxRecDepth 100000 in
theorem awake_calls (w : World) : Calls Try.prog 8 #[] w fun e w' => e = .returned (.bool true) ∧ Fr [] w w' := by
  go_enter Try.func8, Try.ntmps8
  go_wp2_with fail
  refine (New_own 2 w _ (by decide) (by decide) (Fr.refl _ _)).mono ?_
  rintro e w1 ⟨b, rfl, h1⟩
  go_wp2_with fail
  refine (Join_at h1 0 1 0 0 (ns' := aw1) (r := 2) (q := 0) (by decide)).mono ?_
  rintro e w2 ⟨rfl, h2⟩
  go_wp2_with fail
  refine (Join_at h2 0 0 0 0 (ns' := aw2) (r := 3) (q := 0) (by decide)).mono ?_
  rintro e w3 ⟨rfl, h3⟩
  go_wp2_with fail
  refine (Join_at h3 0 1 0 0 (ns' := aw2) (r := 2) (q := 0) (by decide)).mono ?_
  rintro e w4 ⟨rfl, h4⟩
  go_wp2_with fail
  refine (Join_at h4 2 3 3 3 (ns' := aw3) (r := 4) (q := 0) (by decide)).mono ?_
  rintro e w5 ⟨rfl, h5⟩
  go_wp2_with fail
  refine (Join_at h5 2 0 0 0 (ns' := aw3) (r := 0) (q := 18) (by decide)).mono ?_
  rintro e w6 ⟨rfl, h6⟩
  go_wp2_with fail
  refine (Join_at h6 9 0 0 0 (ns' := aw3) (r := 0) (q := 13) (by decide)).mono ?_
  rintro e w7 ⟨rfl, h7⟩
  go_wp2_with fail
  refine (Empty_at h7 2 (ns' := aw4) (r := 5) (q := 0) (by decide)).mono ?_
  rintro e w8 ⟨rfl, h8⟩
  go_wp2_with fail
  refine (Kids_at h8 2 (k := ⟨0, 1, 0, 0⟩) (q := true) (by decide)).mono ?_
  rintro e w9 ⟨rfl, h9, _⟩
  go_wp2_with fail
  refine (New_bad 9 _ (by decide)).mono ?_
  rintro e w10 ⟨rfl, rfl⟩
  have hk : (w9.alloc (.cells #[.int .i64 0, .int .i64 1, .int .i64 0, .int .i64 0] 42)).heap[w9.heap.size]? = some (.cells #[.int .i64 0, .int .i64 1, .int .i64 0, .int .i64 0] 42 (0, 0)) := by (repeat (first | rw [if_pos (by omega)] | rw [if_neg (by omega)] | rw [hp_drew] | rw [hp_drewN] | rw [hp_alloc_size] | rw [hp_setCell_size] | rw [hp_alloc] | rw [hp_setCell] | rw [Option.map_some] | rw [upd_cells] | rw [List.set_cons_zero] | rw [List.set_cons_succ] | rfl))
  have h10 := h9.step ((Fr.refl [] w9).alloc (.cells #[.int .i64 0, .int .i64 1, .int .i64 0, .int .i64 0] 42))
  generalize w9.alloc (.cells #[.int .i64 0, .int .i64 1, .int .i64 0, .int .i64 0] 42) = w10 at *
  generalize w9.heap.size = kb at *
  clear h1 h2 h3 h4 h5 h6 h7 h8 h9
  have Hk := Lib.hid hk
  clear hk
  go_wp2_with fail
  refine (Level_at h10 4 (r := 2) (by decide)).mono ?_
  rintro e w11 ⟨rfl, h11, hf11⟩
  have hk := (hf11.block kb (lt_of_block Hk.out) (by simp)).trans Hk.out
  have c0 := heap_eq_cell hk 0
  have c1 := heap_eq_cell hk 1
  have c2 := heap_eq_cell hk 2
  have c3 := heap_eq_cell hk 3
  simp at c0 c1 c2 c3
  have Hf11 := Lib.hid hf11
  clear hk Hk hf11
  go_wp2_with fail
  refine (Data_own h11).mono ?_
  rintro e w12 ⟨a, c, rfl, hr, h12, _⟩
  go_wp2_with fail
  refine (Right_calls (ns := aw4) (by decide) hr).mono ?_
  rintro e w13 ⟨rfl, hf13⟩
  rw [show decide (GoodQ 2 aw4) = true by decide]
  have h13 := h12.step hf13
  have Hh13 := Lib.hid h13
  clear c0 c1 c2 c3 hr hf13 h12 h11 h13 h10 Hf11
  go_wp2_with fail
  have hr : Reads (w13.alloc (.cells #[.int .i64 0, .int .i64 0, .int .i64 0, .int .i64 0, .int .i64 0, .int .i64 0, .int .i64 0, .int .i64 0] 48)) (.slice (some ⟨w13.heap.size, 0, none⟩) 2 2) 2 4 (flat [⟨0, 0, 0, 0⟩, ⟨0, 0, 0, 0⟩]) := by
    refine ⟨rfl, _, _, rfl, fun _ => ⟨_, _, rfl, by simp, fun j u hj => ?_⟩⟩
    rw [Nat.zero_add, heap_eq_cell (cs := #[.int .i64 0, .int .i64 0, .int .i64 0, .int .i64 0, .int .i64 0, .int .i64 0, .int .i64 0, .int .i64 0]) (t := 48) (fr := (0, 0)) (by (repeat (first | rw [if_pos (by omega)] | rw [if_neg (by omega)] | rw [hp_drew] | rw [hp_drewN] | rw [hp_alloc_size] | rw [hp_setCell_size] | rw [hp_alloc] | rw [hp_setCell] | rw [Option.map_some] | rw [upd_cells] | rw [List.set_cons_zero] | rw [List.set_cons_succ] | rfl))), ← hj]
    exact (Array.getElem?_toList (xs := #[Value.int .i64 0, .int .i64 0, .int .i64 0, .int .i64 0, .int .i64 0, .int .i64 0, .int .i64 0, .int .i64 0])).symm
  refine (Right_calls (ns := [⟨0, 0, 0, 0⟩, ⟨0, 0, 0, 0⟩]) (by decide) hr).mono ?_
  rintro e w14 ⟨rfl, hf14⟩
  rw [show decide (GoodQ 2 [⟨0, 0, 0, 0⟩, ⟨0, 0, 0, 0⟩]) = false by decide]
  have h14 := (Fr.alloc Hh13.out.fr _).trans0 hf14
  have Hh14 := Lib.hid h14
  clear hr hf14 h14 Hh13
  go_wp2
  go_ret
  exact ⟨rfl, Hh14.out⟩
end Go.Proofs.Ytgcompnpjpmanaa
