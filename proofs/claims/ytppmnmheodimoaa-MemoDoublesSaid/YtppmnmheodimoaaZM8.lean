/- Own texts of this claim, part 9: no condition. -/
import Derived.Test.YtppmnmheodimoaaZM7
section
/- The store of package quad in the heap; Level. -/
namespace Go.Proofs.Ytppmnmheodimoaa
set_option linter.unusedVariables false
set_option linter.unusedSimpArgs false
open Go Go.RowKit Go.Proofs.Rg Go.Proofs.Mp Go.Proofs.Hp Go.Proofs.Qs
/-- the cells of nodes -/
def flat (ns : List K4) : List Value := ns.flatMap fun k => [.int .i64 k.a, .int .i64 k.b, .int .i64 k.c, .int .i64 k.d]
/-- a store of package quad at block b: s states, the nodes ns -/
structure StoreIn (w : World) (b : Nat) (s : Int) (ns : List K4) (nv lv : Value) (mb : Nat) : Prop where
  blk : w.heap[b]? = some (.cells #[.int .i64 s, nv, lv, .map (some mb)] 107 (0, 0))
  nodes : w.ownsRow 0 77 4 nv ns.length (flat ns)
  levels : w.ownsRow 0 3 1 lv ns.length ((levs s ns).map (Value.int .i64))
  known : MapIs w mb kv (Value.int .i64) (pairs s ns)
  ne1 : b ≠ mb
  ne2 : nv.ownBlock ≠ some b
  ne3 : nv.ownBlock ≠ some mb
  ne4 : lv.ownBlock ≠ some b
  ne5 : lv.ownBlock ≠ some mb
  ne6 : ∀ g, nv.ownBlock = some g → lv.ownBlock ≠ some g
/-- the blocks of a store -/
def foot (b : Nat) (nv lv : Value) (mb : Nat) : List Nat := b :: mb :: (nv.ownBlock.toList ++ lv.ownBlock.toList)
/-- a store whose blocks are F -/
def StoreAt (w : World) (b : Nat) (s : Int) (ns : List K4) (F : List Nat) : Prop := GoodQ s ns ∧ ∃ nv lv mb, StoreIn w b s ns nv lv mb ∧ F = foot b nv lv mb
theorem StoreIn.keep {w w' : World} {b mb : Nat} {s : Int} {ns : List K4} {nv lv : Value} (h : StoreIn w b s ns nv lv mb) (hk : ∀ x ∈ foot b nv lv mb, w'.heap[x]? = w.heap[x]?) : StoreIn w' b s ns nv lv mb where
  blk := (hk b (by simp [foot])).trans h.blk
  nodes := owns_of_block h.nodes fun g hg => hk g (by simp [foot, hg])
  levels := owns_of_block h.levels fun g hg => hk g (by simp [foot, hg])
  known := h.known.of_block (hk mb (by simp [foot]))
  ne1 := h.ne1
  ne2 := h.ne2
  ne3 := h.ne3
  ne4 := h.ne4
  ne5 := h.ne5
  ne6 := h.ne6
theorem StoreIn.lt {w : World} {b mb : Nat} {s : Int} {ns : List K4} {nv lv : Value} (h : StoreIn w b s ns nv lv mb) : ∀ x ∈ foot b nv lv mb, x < w.heap.size := by
  intro x hx
  simp only [foot, List.mem_cons, List.mem_append, Option.mem_toList] at hx
  rcases hx with rfl | rfl | hx | hx
  · exact lt_of_block h.blk
  · exact h.known.lt
  · exact owns_lt h.nodes hx
  · exact owns_lt h.levels hx
theorem StoreAt.keep {w w' : World} {b : Nat} {s : Int} {ns : List K4} {F : List Nat} (h : StoreAt w b s ns F) (hk : ∀ x ∈ F, w'.heap[x]? = w.heap[x]?) : StoreAt w' b s ns F := by
  obtain ⟨hg, nv, lv, mb, hS, rfl⟩ := h
  exact ⟨hg, nv, lv, mb, hS.keep hk, rfl⟩
theorem StoreAt.lt {w : World} {b : Nat} {s : Int} {ns : List K4} {F : List Nat} (h : StoreAt w b s ns F) : ∀ x ∈ F, x < w.heap.size := by
  obtain ⟨hg, nv, lv, mb, hS, rfl⟩ := h
  exact hS.lt
theorem StoreAt.fr {w w' : World} {b : Nat} {s : Int} {ns : List K4} {F G : List Nat} (h : StoreAt w b s ns F) (hf : Fr G w w') (hd : ∀ x ∈ F, x ∉ G) : StoreAt w' b s ns F :=
  h.keep fun x hx => hf.block x (h.lt x hx) (hd x hx)
theorem StoreAt.drew {w w' : World} {b : Nat} {s : Int} {ns : List K4} {F : List Nat} (h : StoreAt w b s ns F) (hd : Drew w w') : StoreAt w' b s ns F := h.keep fun x _ => by rw [hd.heap]

set_option maxHeartbeats 400000 in
theorem Level_neg (b : Nat) (id : Int) (w : World) (h : id < 0) :
    Calls Try.prog 25 #[.pointer (some ⟨b, 0, none⟩), .int .i64 id] w fun e w' => e = .returned (.int .i64 (-1)) ∧ Drew w w' := by
  have hd : decide (id < 0) = true := by simpa using h
  go_enter Try.func25, Try.ntmps25
  go_wp2
  refine wp_region_text (by kernel_rfl) (by kernel_rfl) ?_
  go_wp2
  refine Strict.intro rfl ?_
  go_wp2
  go_ret
  exact ⟨rfl, (Drew.refl _).drew⟩
set_option maxHeartbeats 400000 in
theorem Level_nil (id : Int) (w : World) :
    Calls Try.prog 25 #[.pointer none, .int .i64 id] w fun e w' => e = .returned (.int .i64 (-1)) ∧ Drew w w' := by
  go_enter Try.func25, Try.ntmps25
  go_wp2
  refine wp_region_text (by kernel_rfl) (by kernel_rfl) ?_
  go_wp2
  refine Strict.intro rfl ?_
  go_wp2
  go_ret
  exact ⟨rfl, (Drew.refl _).drew⟩
set_option maxHeartbeats 400000 in
theorem Level_state (b : Nat) (id s : Int) (na : Option Addr) (nl nc : Nat) (w : World) (h0 : w.cell? ⟨b, 0, none⟩ = some (.int .i64 s)) (h1 : w.cell? ⟨b, 1, none⟩ = some (.slice na nl nc))
    (hs : 0 ≤ s) (hs2 : s ≤ 8) (hnl : nl ≤ 100000) (hid : 0 ≤ id) (hid2 : id < s) :
    Calls Try.prog 25 #[.pointer (some ⟨b, 0, none⟩), .int .i64 id] w fun e w' => e = .returned (.int .i64 0) ∧ Drew w w' := by
  have hd : decide (id < 0) = false := by simp; omega
  go_enter Try.func25, Try.ntmps25
  go_wp2
  refine wp_region_text (by kernel_rfl) (by kernel_rfl) ?_
  go_wp2
  refine Strict.intro rfl ?_
  go_wp2
  go_ret
  exact ⟨rfl, (Drew.refl _).drew⟩
set_option maxHeartbeats 400000 in
theorem Level_far (b : Nat) (id s : Int) (na : Option Addr) (nl nc : Nat) (w : World) (h0 : w.cell? ⟨b, 0, none⟩ = some (.int .i64 s)) (h1 : w.cell? ⟨b, 1, none⟩ = some (.slice na nl nc))
    (hs : 0 ≤ s) (hs2 : s ≤ 8) (hnl : nl ≤ 100000) (hid : s + nl ≤ id) :
    Calls Try.prog 25 #[.pointer (some ⟨b, 0, none⟩), .int .i64 id] w fun e w' => e = .returned (.int .i64 (-1)) ∧ Drew w w' := by
  have hd : decide (id < 0) = false := by simp; omega
  go_enter Try.func25, Try.ntmps25
  go_wp2
  refine wp_region_text (by kernel_rfl) (by kernel_rfl) ?_
  go_wp2
  refine Strict.intro rfl ?_
  go_wp2
  go_ret
  exact ⟨rfl, (Drew.refl _).drew⟩
set_option maxHeartbeats 400000 in
theorem Level_node (b : Nat) (s : Int) (k : Nat) (na : Option Addr) (nl nc nl' nc' lb : Nat) (v : Int) (w : World) (h0 : w.cell? ⟨b, 0, none⟩ = some (.int .i64 s)) (h1 : w.cell? ⟨b, 1, none⟩ = some (.slice na nl nc))
    (h2 : w.cell? ⟨b, 2, none⟩ = some (.slice (some ⟨lb, 0, none⟩) nl' nc')) (hs : 0 ≤ s) (hs2 : s ≤ 8) (hnl : nl ≤ 100000) (hid : k < nl) (hid' : k < nl') (hc : w.cell? ⟨lb, k, none⟩ = some (.int .i64 v)) :
    Calls Try.prog 25 #[.pointer (some ⟨b, 0, none⟩), .int .i64 (s + k)] w fun e w' => e = .returned (.int .i64 v) ∧ Drew w w' := by
  have hw1 : IntKind.i64.wrap (s + ↑k - s) = ↑k := IntWalk.i64_in _ (by omega) |>.trans (by omega)
  go_enter Try.func25, Try.ntmps25
  go_wp2
  refine wp_region_text (by kernel_rfl) (by kernel_rfl) ?_
  go_wp2
  refine Strict.intro rfl ?_
  go_wp2
  refine wp_region_text (by kernel_rfl) (by kernel_rfl) ?_
  go_wp2
  refine Strict.intro rfl ?_
  go_wp2
  go_ret
  exact ⟨rfl, (Drew.refl _).drew.drew⟩
/-- Level of a store. -/
theorem Level_calls {w : World} {b : Nat} {s : Int} {ns : List K4} {F : List Nat} (hS : StoreAt w b s ns F) (id : Int) :
    Calls Try.prog 25 #[.pointer (some ⟨b, 0, none⟩), .int .i64 id] w fun e w' => e = .returned (.int .i64 (lvl s (levs s ns) id)) ∧ Drew w w' := by
  obtain ⟨⟨hs, hs2, hl, _⟩, nv, lv, mb, hI, rfl⟩ := hS
  obtain ⟨na, nc, rfl, _⟩ := owns_form hI.nodes
  obtain ⟨la, lc, rfl, hla, _⟩ := owns_form hI.levels
  have h0 : w.cell? ⟨b, 0, none⟩ = some (.int .i64 s) := heap_eq_cell hI.blk 0
  have h1 : w.cell? ⟨b, 1, none⟩ = some (.slice na ns.length nc) := heap_eq_cell hI.blk 1
  have h2 : w.cell? ⟨b, 2, none⟩ = some (.slice la ns.length lc) := heap_eq_cell hI.blk 2
  have hlen := levs_length s ns
  unfold lvl
  by_cases hneg : id < 0
  · rw [if_pos hneg]; exact Level_neg b id w hneg
  · rw [if_neg hneg]
    by_cases hst : id < s
    · rw [if_pos hst]; exact Level_state b id s na _ nc w h0 h1 (by omega) hs2 hl (by omega) hst
    · rw [if_neg hst]
      by_cases hfar : s + ns.length ≤ id
      · rw [List.getD_eq_getElem?_getD, List.getElem?_eq_none (by omega)]
        exact Level_far b id s na _ nc w h0 h1 (by omega) hs2 hl hfar
      · obtain ⟨k, rfl⟩ : ∃ k : Nat, id = s + k := ⟨(id - s).toNat, by omega⟩
        obtain ⟨g, rfl⟩ := hla (by omega)
        have hk : k < (levs s ns).length := by omega
        have hk' : (s + ↑k - s).toNat = k := by omega
        rw [hk', List.getD_eq_getElem?_getD, List.getElem?_eq_getElem hk]
        exact Level_node b s k na _ nc _ lc g _ w h0 h1 h2 (by omega) hs2 hl (by omega) (by omega) (owns_cell hI.levels rfl (by simp [hk]))
end Go.Proofs.Ytppmnmheodimoaa
end
