/- The reference's store of layer 25: New, Load, Level, Kids, Data. -/
import Derived.Test.YtgcompnpjpmanaaRv
namespace Go.Proofs.Ytgcompnpjpmanaa
open Go Go.RowKit Go.Proofs.Rg Go.Proofs.Mp Go.Proofs.Hp Go.Proofs.Qs
/-- the reference's store: one block with the number of states and the nodes -/
structure RefIn (w : World) (b : Nat) (s : Int) (ns : List K4) (nv : Value) : Prop where
  blk : w.heap[b]? = some (.cells #[.int .i64 s, nv] 57 (0, 0))
  nodes : w.ownsRow 0 48 4 nv ns.length (flat ns)
  ne : nv.ownBlock ≠ some b
def RefAt (w : World) (b : Nat) (s : Int) (ns : List K4) (F : List Nat) : Prop := GoodQ s ns ∧ ∃ nv, RefIn w b s ns nv ∧ F = b :: nv.ownBlock.toList
theorem RefAt.keep {w w' : World} {b : Nat} {s : Int} {ns : List K4} {F : List Nat} (h : RefAt w b s ns F) (hk : ∀ x ∈ F, w'.heap[x]? = w.heap[x]?) : RefAt w' b s ns F := by
  obtain ⟨hg, nv, hI, rfl⟩ := h
  exact ⟨hg, nv, ⟨(hk b (by simp)).trans hI.blk, owns_of_block hI.nodes fun g hg => hk g (by simp [hg]), hI.ne⟩, rfl⟩
theorem RefAt.lt {w : World} {b : Nat} {s : Int} {ns : List K4} {F : List Nat} (h : RefAt w b s ns F) : ∀ x ∈ F, x < w.heap.size := by
  obtain ⟨_, nv, hI, rfl⟩ := h
  intro x hx
  simp only [List.mem_cons, Option.mem_toList] at hx
  rcases hx with rfl | hx
  · exact lt_of_block hI.blk
  · exact owns_lt hI.nodes hx
theorem RefAt.fr {w w' : World} {b : Nat} {s : Int} {ns : List K4} {F G : List Nat} (h : RefAt w b s ns F) (hf : Fr G w w') (hd : ∀ x ∈ F, x ∉ G) : RefAt w' b s ns F := h.keep fun x hx => hf.block x (h.lt x hx) (hd x hx)
set_option maxHeartbeats 1000000 in
theorem RNew_bad (s : Int) (w : World) (h : s < 2 ∨ 8 < s) :
    Calls Try.prog 16 #[.int .i64 s] w fun e w' => e = .returned (.tuple #[.pointer none, .int .i64 2]) ∧ w = w' := by
  rcases h with h | h
  · go_enter Try.func16, Try.ntmps16
    go_wp2
    go_ret2
    exact ⟨rfl, rfl⟩
  · have h' : ¬ s < 2 := by omega
    go_enter Try.func16, Try.ntmps16
    go_wp2
    go_ret2
    exact ⟨rfl, rfl⟩
set_option maxHeartbeats 1000000 in
theorem RNew_ok (s : Int) (w : World) (h : 2 ≤ s) (h' : s ≤ 8) :
    Calls Try.prog 16 #[.int .i64 s] w fun e w' => ∃ b F, e = .returned (.tuple #[.pointer (some ⟨b, 0, none⟩), .int .i64 0]) ∧ RefAt w' b s [] F ∧ Fr [] w w' ∧ ∀ x ∈ F, w.heap.size ≤ x := by
  go_enter Try.func16, Try.ntmps16
  go_wp2
  go_ret2
  refine ⟨w.heap.size, [w.heap.size], rfl, ⟨GoodQ.nil h h', .slice none 0 0, ⟨by (repeat (first | rw [if_pos (by omega)] | rw [if_neg (by omega)] | rw [hp_drew] | rw [hp_drewN] | rw [hp_alloc_size] | rw [hp_setCell_size] | rw [hp_alloc] | rw [hp_setCell] | rw [Option.map_some] | rw [upd_cells] | rw [List.set_cons_zero] | rw [List.set_cons_succ] | rfl)), World.ownsRow_nil _ _ _ _, by simp [Value.ownBlock]⟩, rfl⟩, by (repeat (first | exact Fr.refl _ _ | assumption | apply Fr.drewN | apply Fr.drew | apply Fr.alloc | refine Fr.setCell ?_ (Or.inr (by simp; try omega)) _)), by simp⟩
/-- what the reference's Load leaves -/
def RLoadPost (w : World) (s : Int) (ns : List K4) (e : Ending) (w' : World) : Prop :=
  (GoodQ s ns → ∃ b F, e = .returned (.tuple #[.pointer (some ⟨b, 0, none⟩), .int .i64 0]) ∧ RefAt w' b s ns F ∧ Fr [] w w' ∧ ∀ x ∈ F, w.heap.size ≤ x) ∧
  (¬ GoodQ s ns → e = .returned (.tuple #[.pointer none, .int .i64 2]) ∧ Fr [] w w')
set_option maxHeartbeats 4000000 in
theorem RLoad_calls {w : World} {s : Int} {ns : List K4} {v : Value} (hl : ns.length ≤ 90000) (hv : Reads w v ns.length 4 (flat ns)) :
    Calls Try.prog 10 #[.agg #[.int .i64 s, v]] w (RLoadPost w s ns) := by
  have hvk := hv
  obtain ⟨_, a, c, rfl, hav⟩ := hv
  have Hvk := Lib.hid hvk
  have Hl := Lib.hid hl
  clear hav hvk hl
  go_enter Try.func10, Try.ntmps10
  go_wp2_with fail
  have hbx : (w.alloc (.cells #[.int .i64 s, .slice a ns.length c] 24)).heap[w.heap.size]? = some (.cells #[.int .i64 s, .slice a ns.length c] 24 (0, 0)) := by (repeat (first | rw [if_pos (by omega)] | rw [if_neg (by omega)] | rw [hp_drew] | rw [hp_drewN] | rw [hp_alloc_size] | rw [hp_setCell_size] | rw [hp_alloc] | rw [hp_setCell] | rw [Option.map_some] | rw [upd_cells] | rw [List.set_cons_zero] | rw [List.set_cons_succ] | rfl))
  have hf0 : Fr [] w (w.alloc (.cells #[.int .i64 s, .slice a ns.length c] 24)) := by (repeat (first | exact Fr.refl _ _ | assumption | apply Fr.drewN | apply Fr.drew | apply Fr.alloc | refine Fr.setCell ?_ (Or.inr (by simp; try omega)) _))
  generalize w.alloc (.cells #[.int .i64 s, .slice a ns.length c] 24) = w0 at *
  refine (RRight_calls (by have := Hl.out; omega) (Hvk.out.fr hf0)).mono ?_
  rintro e w1 ⟨rfl, hf1⟩
  have hb1 := (hf1.block _ (lt_of_block hbx) (by simp)).trans hbx
  have c0 := heap_eq_cell hb1 0
  have c1 := heap_eq_cell hb1 1
  simp at c0 c1
  have Hf1 := Lib.hid (hf0.trans0 hf1)
  clear hb1 hbx hf0 hf1
  by_cases hg : GoodQ s ns
  · rw [decide_eq_true hg]
    have Hg := Lib.hid hg
    clear hg
    go_wp2_with fail
    refine (copied_ref (by have := Hl.out; omega) (Hvk.out.fr Hf1.out)).mono ?_
    rintro e w2 ⟨v, rfl, ho, hf2⟩
    obtain ⟨va, vc, rfl, _⟩ := owns_form ho
    have Ho := Lib.hid ho
    have Hf2 := Lib.hid hf2
    clear ho hf2
    go_wp2
    go_ret2
    refine ⟨fun _ => ⟨w2.heap.size, w2.heap.size :: (Value.slice va ns.length vc).ownBlock.toList, rfl, ⟨Hg.out, _, ⟨by (repeat (first | rw [if_pos (by omega)] | rw [if_neg (by omega)] | rw [hp_drew] | rw [hp_drewN] | rw [hp_alloc_size] | rw [hp_setCell_size] | rw [hp_alloc] | rw [hp_setCell] | rw [Option.map_some] | rw [upd_cells] | rw [List.set_cons_zero] | rw [List.set_cons_succ] | rfl)), ?_, ?_⟩, rfl⟩, (Hf1.out.trans0 Hf2.out).alloc _, ?_⟩, fun h => absurd Hg.out h⟩
    · exact owns_of_block (owns_base Ho.out (by omega)) fun x hx => heap_alloc_else _ _ _ (owns_lt Ho.out hx)
    · intro h
      have := owns_lt Ho.out h
      omega
    · intro x hx
      simp only [List.mem_cons, Option.mem_toList] at hx
      have h1 := Hf1.out.size
      have h2 := Hf2.out.size
      rcases hx with rfl | hx
      · omega
      · have := owns_ge Ho.out hx; omega
  · rw [decide_eq_false hg]
    have Hg := Lib.hid hg
    clear hg
    go_wp2
    go_ret2
    exact ⟨fun h => absurd h Hg.out, fun _ => ⟨rfl, Hf1.out⟩⟩
end Go.Proofs.Ytgcompnpjpmanaa
