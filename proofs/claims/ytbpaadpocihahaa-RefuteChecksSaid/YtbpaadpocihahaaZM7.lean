/- Own texts of this claim, part 8: no condition. -/
import Derived.Shelf.SlicesE.Index
import Derived.Shelf.SlicesE.IndexFunc
import Derived.Shelf.SlicesE.DeleteFunc
import Derived.Shelf.SlicesE.Compact
import Derived.Shelf.SlicesE.Clone
import Derived.Shelf.SlicesE.Delete
import Derived.Shelf.SlicesE.Reverse
import Derived.Shelf.SortM.Plain
import Derived.Shelf.SortM.SortNone
import Derived.Test.YtbpaadpocihahaaProg
import Derived.Lib.SlicesCompact
import Derived.Test.YtbpaadpocihahaaZM2
import Derived.Test.YtbpaadpocihahaaZM6
import Derived.Test.YtbpaadpocihahaaZM4
set_option linter.unusedVariables false
set_option linter.unusedSimpArgs false
section
/- The contracts of slices' functions at this dump, out of the shelf, in plain words. -/
namespace Go.Proofs
set_option linter.unusedVariables false
set_option linter.unusedSimpArgs false
open Go.Shelf
def Try.shIndexFunc_ren : Go.Shelf.Ren := ⟨fun | 6 => 60 | n => n, fun | 22 => 25 | 23 => 3 | 25 => 61 | 3 => 3 | 0 => 0 | 4 => 4 | n => n, fun | n => n⟩
theorem Try.shIndexFunc : Go.Proofs.SlLaysH.n6 Try.prog Try.shIndexFunc_ren := {
  mixed := by kernel_rfl
  f6 := ⟨Try.f60.name, by decide, Try.func60.trans (congrArg some (by kernel_rfl))⟩
  t0 := Try.underlying0
  a0 := Try.isAgg0
  z0 := Try.sizeOf0
  v0 := Try.zeroValue0
  t3 := Try.underlying3
  a3 := Try.isAgg3
  z3 := Try.sizeOf3
  v3 := Try.zeroValue3
  t4 := Try.underlying4
  a4 := Try.isAgg4
  z4 := Try.sizeOf4
  v4 := Try.zeroValue4
  t22 := Try.underlying25
  a22 := Try.isAgg25
  z22 := Try.sizeOf25
  v22 := Try.zeroValue25
  a23 := Try.isAgg3
  z23 := Try.sizeOf3
  t25 := Try.underlying61
  a25 := Try.isAgg61
  z25 := Try.sizeOf61
  v25 := Try.zeroValue61 }
def Try.shContainsI_ren : Go.Shelf.Ren := ⟨fun | 8 => 43 | 6 => 60 | n => n, fun | 22 => 25 | 23 => 3 | 25 => 61 | 4 => 4 | 3 => 3 | 0 => 0 | n => n, fun | n => n⟩
theorem Try.shContainsI : Go.Proofs.SlLaysH.n8 Try.prog Try.shContainsI_ren := {
  mixed := by kernel_rfl
  f6 := ⟨Try.f60.name, by decide, Try.func60.trans (congrArg some (by kernel_rfl))⟩
  f8 := ⟨Try.f43.name, by decide, Try.func43.trans (congrArg some (by kernel_rfl))⟩
  t0 := Try.underlying0
  a0 := Try.isAgg0
  z0 := Try.sizeOf0
  v0 := Try.zeroValue0
  t3 := Try.underlying3
  a3 := Try.isAgg3
  z3 := Try.sizeOf3
  v3 := Try.zeroValue3
  t4 := Try.underlying4
  a4 := Try.isAgg4
  z4 := Try.sizeOf4
  v4 := Try.zeroValue4
  t22 := Try.underlying25
  a22 := Try.isAgg25
  z22 := Try.sizeOf25
  v22 := Try.zeroValue25
  a23 := Try.isAgg3
  z23 := Try.sizeOf3
  t25 := Try.underlying61
  a25 := Try.isAgg61
  z25 := Try.sizeOf61
  v25 := Try.zeroValue61 }
def Try.shContains_ren : Go.Shelf.Ren := ⟨fun | 31 => 63 | 29 => 69 | n => n, fun | 22 => 25 | 23 => 3 | 4 => 4 | 3 => 3 | 0 => 0 | n => n, fun | n => n⟩
theorem Try.shContains : Go.Proofs.SlLaysE.n31 Try.prog Try.shContains_ren := {
  mixed := by kernel_rfl
  f29 := ⟨Try.f69.name, by decide, Try.func69.trans (congrArg some (by kernel_rfl))⟩
  f31 := ⟨Try.f63.name, by decide, Try.func63.trans (congrArg some (by kernel_rfl))⟩
  t0 := Try.underlying0
  a0 := Try.isAgg0
  z0 := Try.sizeOf0
  v0 := Try.zeroValue0
  t3 := Try.underlying3
  a3 := Try.isAgg3
  z3 := Try.sizeOf3
  v3 := Try.zeroValue3
  t4 := Try.underlying4
  a4 := Try.isAgg4
  z4 := Try.sizeOf4
  v4 := Try.zeroValue4
  t22 := Try.underlying25
  a22 := Try.isAgg25
  z22 := Try.sizeOf25
  v22 := Try.zeroValue25
  a23 := Try.isAgg3
  z23 := Try.sizeOf3 }
def Try.shCompact_ren : Go.Shelf.Ren := ⟨fun | 43 => 62 | n => n, fun | 22 => 25 | 23 => 3 | 3 => 3 | 4 => 4 | 0 => 0 | n => n, fun | n => n⟩
theorem Try.shCompact : Go.Proofs.SlLaysE.n43 Try.prog Try.shCompact_ren := {
  mixed := by kernel_rfl
  f43 := ⟨Try.f62.name, by decide, Try.func62.trans (congrArg some (by kernel_rfl))⟩
  t0 := Try.underlying0
  a0 := Try.isAgg0
  z0 := Try.sizeOf0
  v0 := Try.zeroValue0
  t3 := Try.underlying3
  a3 := Try.isAgg3
  z3 := Try.sizeOf3
  v3 := Try.zeroValue3
  t4 := Try.underlying4
  a4 := Try.isAgg4
  z4 := Try.sizeOf4
  v4 := Try.zeroValue4
  t22 := Try.underlying25
  a22 := Try.isAgg25
  z22 := Try.sizeOf25
  v22 := Try.zeroValue25
  a23 := Try.isAgg3
  z23 := Try.sizeOf3 }
def Try.shClone_ren : Go.Shelf.Ren := ⟨fun | 41 => 58 | n => n, fun | 22 => 25 | 23 => 3 | 4 => 4 | n => n, fun | n => n⟩
theorem Try.shClone : Go.Proofs.SlLaysE0.n41 Try.prog Try.shClone_ren := {
  mixed := by kernel_rfl
  f41 := ⟨Try.f58.name, by decide, Try.func58.trans (congrArg some (by kernel_rfl))⟩
  t4 := Try.underlying4
  a4 := Try.isAgg4
  z4 := Try.sizeOf4
  v4 := Try.zeroValue4
  t22 := Try.underlying25
  a22 := Try.isAgg25
  z22 := Try.sizeOf25
  v22 := Try.zeroValue25 }
def Try.shClones_ren : Go.Shelf.Ren := ⟨fun | 41 => 33 | n => n, fun | 22 => 22 | 23 => 25 | 4 => 4 | n => n, fun | n => n⟩
theorem Try.shClones : Go.Proofs.SlLaysE0.n41 Try.prog Try.shClones_ren := {
  mixed := by kernel_rfl
  f41 := ⟨Try.f33.name, by decide, Try.func33.trans (congrArg some (by kernel_rfl))⟩
  t4 := Try.underlying4
  a4 := Try.isAgg4
  z4 := Try.sizeOf4
  v4 := Try.zeroValue4
  t22 := Try.underlying22
  a22 := Try.isAgg22
  z22 := Try.sizeOf22
  v22 := Try.zeroValue22 }
def Try.shDeletes_ren : Go.Shelf.Ren := ⟨fun | 45 => 34 | n => n, fun | 22 => 22 | 23 => 25 | 3 => 3 | 4 => 4 | 0 => 0 | n => n, fun | n => n⟩
theorem Try.shDeletes : Go.Proofs.SlLaysE.n45 Try.prog Try.shDeletes_ren := {
  mixed := by kernel_rfl
  f45 := ⟨Try.f34.name, by decide, Try.func34.trans (congrArg some (by kernel_rfl))⟩
  t0 := Try.underlying0
  a0 := Try.isAgg0
  z0 := Try.sizeOf0
  v0 := Try.zeroValue0
  t3 := Try.underlying3
  a3 := Try.isAgg3
  z3 := Try.sizeOf3
  v3 := Try.zeroValue3
  t4 := Try.underlying4
  a4 := Try.isAgg4
  z4 := Try.sizeOf4
  v4 := Try.zeroValue4
  t22 := Try.underlying22
  a22 := Try.isAgg22
  z22 := Try.sizeOf22
  v22 := Try.zeroValue22
  a23 := Try.isAgg25
  z23 := Try.sizeOf25 }
def Try.shReverse_ren : Go.Shelf.Ren := ⟨fun | 35 => 35 | n => n, fun | 22 => 25 | 23 => 3 | 3 => 3 | 4 => 4 | 0 => 0 | n => n, fun | n => n⟩
theorem Try.shReverse : Go.Proofs.SlLaysE.n35 Try.prog Try.shReverse_ren := {
  mixed := by kernel_rfl
  f35 := ⟨Try.f35.name, by decide, Try.func35.trans (congrArg some (by kernel_rfl))⟩
  t0 := Try.underlying0
  a0 := Try.isAgg0
  z0 := Try.sizeOf0
  v0 := Try.zeroValue0
  t3 := Try.underlying3
  a3 := Try.isAgg3
  z3 := Try.sizeOf3
  v3 := Try.zeroValue3
  t4 := Try.underlying4
  a4 := Try.isAgg4
  z4 := Try.sizeOf4
  v4 := Try.zeroValue4
  t22 := Try.underlying25
  a22 := Try.isAgg25
  z22 := Try.sizeOf25
  v22 := Try.zeroValue25
  a23 := Try.isAgg3
  z23 := Try.sizeOf3 }
def Try.shSort_ren : Go.Shelf.Ren := ⟨fun | 5 => 61 | 8 => 68 | 7 => 67 | 19 => 79 | 20 => 80 | 10 => 70 | 11 => 71 | 12 => 72 | 13 => 73 | 14 => 74 | 15 => 75 | 16 => 76 | 17 => 77 | 18 => 78 | 30 => 81 | 31 => 82 | 32 => 83 | 33 => 84 | 34 => 85 | 35 => 86 | 40 => 87 | n => n, fun | 23 => 25 | 25 => 3 | 3 => 3 | 32 => 66 | 22 => 25 | 0 => 0 | 44 => 97 | 46 => 99 | 4 => 4 | 36 => 90 | 35 => 89 | 41 => 94 | 5 => 5 | 9 => 9 | 53 => 100 | 57 => 104 | 63 => 106 | 64 => 74 | n => n, fun | n => n⟩
theorem Try.shSort : Go.Proofs.SlLaysM.n5 Try.prog Try.shSort_ren := {
  mixed := by kernel_rfl
  f5 := ⟨Try.f61.name, by decide, Try.func61.trans (congrArg some (by kernel_rfl))⟩
  f7 := ⟨Try.f67.name, by decide, Try.func67.trans (congrArg some (by kernel_rfl))⟩
  f8 := Try.func68.trans (congrArg some (by kernel_rfl))
  f10 := ⟨Try.f70.name, by decide, Try.func70.trans (congrArg some (by kernel_rfl))⟩
  f11 := ⟨Try.f71.name, by decide, Try.func71.trans (congrArg some (by kernel_rfl))⟩
  f12 := ⟨Try.f72.name, by decide, Try.func72.trans (congrArg some (by kernel_rfl))⟩
  f13 := ⟨Try.f73.name, by decide, Try.func73.trans (congrArg some (by kernel_rfl))⟩
  f14 := ⟨Try.f74.name, by decide, Try.func74.trans (congrArg some (by kernel_rfl))⟩
  f15 := ⟨Try.f75.name, by decide, Try.func75.trans (congrArg some (by kernel_rfl))⟩
  f16 := ⟨Try.f76.name, by decide, Try.func76.trans (congrArg some (by kernel_rfl))⟩
  f17 := ⟨Try.f77.name, by decide, Try.func77.trans (congrArg some (by kernel_rfl))⟩
  f18 := ⟨Try.f78.name, by decide, Try.func78.trans (congrArg some (by kernel_rfl))⟩
  f19 := Try.func79.trans (congrArg some (by kernel_rfl))
  f20 := Try.func80.trans (congrArg some (by kernel_rfl))
  f30 := ⟨Try.f81.name, by decide, Try.func81.trans (congrArg some (by kernel_rfl))⟩
  f31 := Try.func82.trans (congrArg some (by kernel_rfl))
  f32 := Try.func83.trans (congrArg some (by kernel_rfl))
  f33 := ⟨Try.f84.name, by decide, Try.func84.trans (congrArg some (by kernel_rfl))⟩
  f34 := ⟨Try.f85.name, by decide, Try.func85.trans (congrArg some (by kernel_rfl))⟩
  f35 := ⟨Try.f86.name, by decide, Try.func86.trans (congrArg some (by kernel_rfl))⟩
  f40 := ⟨Try.f87.name, by decide, Try.func87.trans (congrArg some (by kernel_rfl))⟩
  t0 := Try.underlying0
  a0 := Try.isAgg0
  z0 := Try.sizeOf0
  v0 := Try.zeroValue0
  t3 := Try.underlying3
  a3 := Try.isAgg3
  z3 := Try.sizeOf3
  v3 := Try.zeroValue3
  t4 := Try.underlying4
  a4 := Try.isAgg4
  z4 := Try.sizeOf4
  v4 := Try.zeroValue4
  t5 := Try.underlying5
  a5 := Try.isAgg5
  z5 := Try.sizeOf5
  v5 := Try.zeroValue5
  t9 := Try.underlying9
  a9 := Try.isAgg9
  z9 := Try.sizeOf9
  v9 := Try.zeroValue9
  t22 := Try.underlying25
  a22 := Try.isAgg25
  z22 := Try.sizeOf25
  v22 := Try.zeroValue25
  t23 := Try.underlying25
  a23 := Try.isAgg25
  z23 := Try.sizeOf25
  v23 := Try.zeroValue25
  t25 := Try.underlying3
  a25 := Try.isAgg3
  z25 := Try.sizeOf3
  v25 := Try.zeroValue3
  t32 := Try.underlying66
  a32 := Try.isAgg66
  z32 := Try.sizeOf66
  v32 := Try.zeroValue66
  t35 := Try.underlying89
  a35 := Try.isAgg89
  z35 := Try.sizeOf89
  v35 := Try.zeroValue89
  t36 := Try.underlying90
  a36 := Try.isAgg90
  z36 := Try.sizeOf90
  v36 := Try.zeroValue90
  t41 := Try.underlying94
  a41 := Try.isAgg94
  z41 := Try.sizeOf94
  v41 := Try.zeroValue94
  t44 := Try.underlying97
  a44 := Try.isAgg97
  z44 := Try.sizeOf97
  v44 := Try.zeroValue97
  t46 := Try.underlying99
  a46 := Try.isAgg99
  z46 := Try.sizeOf99
  v46 := Try.zeroValue99
  t53 := Try.underlying100
  a53 := Try.isAgg100
  z53 := Try.sizeOf100
  v53 := Try.zeroValue100
  t57 := Try.underlying104
  a57 := Try.isAgg104
  z57 := Try.sizeOf104
  v57 := Try.zeroValue104
  t63 := Try.underlying106
  a63 := Try.isAgg106
  z63 := Try.sizeOf106
  v63 := Try.zeroValue106
  t64 := Try.underlying74
  a64 := Try.isAgg74
  z64 := Try.sizeOf74
  v64 := Try.zeroValue74 }
end Go.Proofs
end

section
/- What the library's slices functions do to rows. -/
namespace Go.Proofs.Ytbpaadpocihahaa
open Go Go.RowKit Go.Proofs.Rg Go.Proofs.Mp Go.Proofs.Hp Go.Sort Go.Lib
set_option linter.unusedVariables false
set_option linter.unusedSimpArgs false
theorem fr_grow {F : List Nat} {a w : World} (h : Fr F a w) (os : Array Obj) : Fr F a (grow w os) :=
  h.trans (G := []) ⟨rfl, rfl, rfl, by show w.heap.size ≤ (w.heap ++ os).size; rw [Array.size_append]; omega, fun b hb _ => by
    show (w.heap ++ os)[b]? = _
    rw [Array.getElem?_append_left hb]⟩ (by simp)
theorem heap_putRow {α : Type} [Inhabited α] {enc : α → Value} {w : World} {g : Nat} {d : Array α} {cur : Array Value} {e : TypeId} {fr : Nat × Nat} (h : w.heap[g]? = some (.cells cur e fr)) (n : Nat) (os : Array Obj) :
    (grow (putRow enc (Sort.ahead w n) g 0 d) os).heap[g]? = some (.cells (putCells enc 0 d cur) e fr) := by
  show ((Sort.ahead w n).heap.modify g _ ++ os)[g]? = _
  have hg := lt_of_block h
  have hs : (Sort.ahead w n).heap = w.heap := rfl
  rw [hs, Array.getElem?_append_left (by simpa using hg), Array.getElem?_modify, if_pos rfl, h]
  rfl
theorem putCells_take {α : Type} [Inhabited α] {enc : α → Value} {l : List α} {cur : Array Value} {n : Nat} (hl : l.length = n) (hn : n ≤ cur.size) : (putCells enc 0 l.toArray cur).toList.take n = l.map enc := by
  apply List.ext_getElem?
  intro i
  rw [List.getElem?_take, List.getElem?_map]
  unfold putCells
  split
  · rename_i hi
    have h1 : i < cur.size := by omega
    have h2 : i < l.length := by omega
    rw [Array.getElem?_toList, Array.getElem?_mapIdx, Array.getElem?_eq_getElem h1, List.getElem?_eq_getElem h2]
    simp [h2]
  · rename_i hi
    rw [List.getElem?_eq_none (by omega)]; rfl
theorem row_put {α : Type} [Inhabited α] {enc : α → Value} {W w : World} {Ps : List Res} {T n g cap : Nat} {xs : List Value} (h : Has W w (Hp.row T 1 (.slice (some ⟨g, 0, none⟩) n cap) n xs :: Ps)) {l : List α} (hl : l.length = n) (k : Nat) (os : Array Obj) :
    Has W (grow (putRow enc (Sort.ahead w k) g 0 l.toArray) os) (Hp.row T 1 (.slice (some ⟨g, 0, none⟩) n cap) n (l.map enc) :: Ps) :=
  h.turn fun F ⟨h1, h2⟩ => by
    obtain ⟨h3, h4⟩ := h1
    rcases h4 with ⟨h4, _⟩ | ⟨g', cap', cur, hv, hb, hh, hn, hc, hs, ht⟩
    · cases h4
    cases hv
    refine ⟨F, ⟨⟨by simp [hl], .inr ⟨g, cap, _, rfl, Nat.zero_le _, heap_putRow hh k os, hn, hc, by simpa [putCells] using hs, ?_⟩⟩, h2⟩, fr_grow (a := w) (w := putRow enc (Sort.ahead w k) g 0 l.toArray) ⟨rfl, rfl, rfl, ?_, ?_⟩ os, fun x hx => .inl hx⟩
    · rw [Nat.mul_one]; exact putCells_take hl (by omega)
    · show w.heap.size ≤ (w.heap.modify g _).size
      simp
    · intro b hb1 hb2
      show (w.heap.modify g _)[b]? = _
      rw [Array.getElem?_modify, if_neg (by rintro rfl; exact hb2 (by rw [h2]; simp [Value.ownBlock]))]
theorem row_holds {α : Type} [Inhabited α] {enc : α → Value} {w : World} {T n g cap : Nat} {l : List α} (h : w.ownsRow 0 T 1 (.slice (some ⟨g, 0, none⟩) n cap) n (l.map enc)) : Holds enc w g 0 l.toArray := by
  intro j hj
  have hj' : j < l.length := by simpa using hj
  refine ⟨?_, owns_frozen h rfl _⟩
  rw [Nat.zero_add, owns_cell h rfl (j := j) (u := enc l[j]) (by simp [hj'])]
  simp [hj']
theorem int1 : OneCell (Value.int .i64) := fun _ => rfl
/-! ### Sort and Compact -/
/-- a clause in ascending order, each literal once -/
def srt (l : List Int) : List Int := l.mergeSort fun x y => decide (x ≤ y)
def dd (l : List Int) : List Int := compactUpTo (srt l).toArray (srt l).length
theorem srt_len (l : List Int) : (srt l).length = l.length := List.length_mergeSort l
theorem srt_mem {l : List Int} {x : Int} : x ∈ srt l ↔ x ∈ l := List.mem_mergeSort
theorem srt_sorted (l : List Int) : (srt l).Pairwise (· ≤ ·) := by
  have h := List.pairwise_mergeSort (le := fun x y : Int => decide (x ≤ y)) (fun a b c h1 h2 => by simp at *; omega) (fun a b => by simp; omega) l
  exact h.imp (fun {a b} hab => by simpa using hab)
theorem compact_spec {l : List Int} (hs : l.Pairwise (· ≤ ·)) : ∀ m, m ≤ l.length → (compactUpTo l.toArray m).Pairwise (· < ·) ∧ (∀ x, x ∈ compactUpTo l.toArray m ↔ x ∈ l.take m) ∧ (compactUpTo l.toArray m).length ≤ m
  | 0, _ => by simp [compactUpTo]
  | m + 1, hm => by
    obtain ⟨h1, h2, h3⟩ := compact_spec hs m (by omega)
    rw [compactUpTo_succ]
    have hml : m < l.length := by omega
    have hget : l.toArray[m]! = l[m] := by simp [hml]
    have ht : l.take (m + 1) = l.take m ++ [l[m]] := by rw [List.take_add_one, List.getElem?_eq_getElem hml]; rfl
    rw [ht, hget]
    have hle : ∀ x ∈ l.take m, x ≤ l[m] := by
      intro x hx
      obtain ⟨i, hi, rfl⟩ := List.getElem_of_mem hx
      simp at hi
      rw [List.getElem_take]
      exact List.pairwise_iff_getElem.1 hs i m (by omega) hml (by omega)
    by_cases hk : keeps l.toArray m = true
    · rw [if_pos hk]
      refine ⟨?_, fun x => by rw [List.mem_append, List.mem_append, h2], by simp; omega⟩
      rw [List.pairwise_append]
      refine ⟨h1, by simp, fun x hx y hy => ?_⟩
      simp at hy
      subst hy
      rw [h2] at hx
      have h5 := hle x hx
      rcases Int.lt_or_eq_of_le h5 with h6 | h6
      · exact h6
      · exfalso
        unfold keeps at hk
        simp only [decide_eq_true_eq] at hk
        rcases hk with hk | hk
        · subst hk; simp at hx
        · rw [hget] at hk
          have hm1 : m - 1 < l.length := by omega
          rw [show l.toArray[m - 1]! = l[m - 1] by simp [hm1]] at hk
          obtain ⟨i, hi, rfl⟩ := List.getElem_of_mem hx
          simp at hi
          rw [List.getElem_take] at h6
          have h7 : l[i] ≤ l[m - 1] := by
            rcases Nat.lt_or_ge i (m - 1) with h8 | h8
            · exact List.pairwise_iff_getElem.1 hs i (m - 1) (by omega) hm1 h8
            · have : i = m - 1 := by omega
              subst this; exact Int.le_refl _
          have h9 : l[m - 1] ≤ l[m] := List.pairwise_iff_getElem.1 hs (m - 1) m hm1 hml (by omega)
          omega
    · rw [if_neg hk, List.append_nil]
      refine ⟨h1, fun x => ?_, by omega⟩
      rw [h2, List.mem_append]
      constructor
      · exact .inl
      · rintro (h | h)
        · exact h
        · simp at h
          subst h
          unfold keeps at hk
          simp only [decide_eq_true_eq, not_or, Decidable.not_not] at hk
          obtain ⟨hk1, hk2⟩ := hk
          have hm1 : m - 1 < l.length := by omega
          rw [hget, show l.toArray[m - 1]! = l[m - 1] by simp [hm1]] at hk2
          rw [hk2]
          have : (l.take m)[m - 1]? = some l[m - 1] := by rw [List.getElem?_take, if_pos (by omega), List.getElem?_eq_getElem hm1]
          exact List.mem_of_getElem? this
theorem dd_mem {l : List Int} {x : Int} : x ∈ dd l ↔ x ∈ l := by
  have h := (compact_spec (srt_sorted l) (srt l).length (Nat.le_refl _)).2.1 x
  rw [List.take_length] at h
  exact h.trans srt_mem
theorem dd_nodup (l : List Int) : (dd l).Nodup := (compact_spec (srt_sorted l) (srt l).length (Nat.le_refl _)).1.imp fun {a b} h => by omega
theorem dd_len (l : List Int) : (dd l).length ≤ l.length := by have := (compact_spec (srt_sorted l) (srt l).length (Nat.le_refl _)).2.2; have e := srt_len l; unfold dd; omega
theorem dd_nil : dd [] = [] := by simp [dd, srt, compactUpTo]
section
variable {W w : World} {Ps : List Res} {l : List Int}
theorem Sort_h {n g cap : Nat} (h : Has W w (Hp.row 3 1 (.slice (some ⟨g, 0, none⟩) n cap) n (iv l) :: Ps)) (hn : l.length = n) (hl : n ≤ 1000000) :
    Calls Try.prog 61 #[.slice (some ⟨g, 0, none⟩) n cap] w fun e w' => e = .returned (.tuple #[]) ∧ Has W w' (Hp.row 3 1 (.slice (some ⟨g, 0, none⟩) n cap) n (iv (srt l)) :: Ps) := by
  have hcon := AnyM.slices_Sort_int Try.shSort g 0 cap l w (row_holds (enc := Value.int .i64) h.row) (owns_lt h.row rfl) (by omega)
  change Calls Try.prog 61 _ _ _ at hcon
  rw [hn] at hcon
  refine hcon.mono ?_
  rintro e w' ⟨rfl, k, os, rfl⟩
  exact ⟨rfl, row_put h (l := srt l) (by rw [srt_len, hn]) k os⟩
theorem Compact_h {n g cap : Nat} (h : Has W w (Hp.row 3 1 (.slice (some ⟨g, 0, none⟩) n cap) n (iv (srt l)) :: Ps)) (hn : l.length = n) (hl : n ≤ 1000000) :
    Calls Try.prog 62 #[.slice (some ⟨g, 0, none⟩) n cap] w fun e w' => e = .returned (.slice (some ⟨g, 0, none⟩) (dd l).length cap) ∧ Has W w' (Hp.row 3 1 (.slice (some ⟨g, 0, none⟩) (dd l).length cap) (dd l).length (iv (dd l)) :: Ps) := by
  have hsl : (srt l).length = n := by rw [srt_len, hn]
  have hcap := owns_cap h.row
  have hcon := AnyE.slices_Compact Try.shCompact (Value.int .i64) int1 (EqlAt.intD _ _ .i64) (NeqAt.intD _ _ .i64) 0 Try.zeroValue3 g 0 cap (srt l).toArray w (row_holds (enc := Value.int .i64) h.row) (by simp [hsl]; omega) (by simp [hsl]; exact hcap)
  change Calls Try.prog 62 _ _ _ at hcon
  have e1 : (srt l).toArray.size = n := by simp [hsl]
  have e2 : compactUpTo (srt l).toArray n = dd l := by rw [← hsl]; rfl
  rw [e1, e2] at hcon
  refine hcon.mono ?_
  rintro e w' ⟨rfl, k, rfl⟩
  have hdl := dd_len l
  have h2 := row_put h (l := dd l ++ List.replicate (n - (dd l).length) 0) (enc := Value.int .i64) (by simp; omega) k #[]
  rw [grow_empty] at h2
  have h3 := h2.rowCut (m := (dd l).length) (by omega)
  rw [Nat.mul_one, List.map_append, List.take_left' (by simp)] at h3
  exact ⟨rfl, h3⟩
end
end Go.Proofs.Ytbpaadpocihahaa
end

section
/- refute: what an engine's state says of the clauses that were added, and what a run of it answers. Nothing of the program. -/
namespace Go.Proofs.Ytbpaadpocihahaa
open Go Go.Proofs.Sv Go.Proofs.Rp
set_option linter.unusedVariables false
set_option linter.unusedSimpArgs false
theorem ddm (l : List Int) (x : Int) : x ∈ dd l ↔ x ∈ l := dd_mem
/-- the engine's state after some clauses were added -/
structure Eng (V : Nat) (F : List (List Int)) (cl : List (List Int)) (wt : Int → List Nat) (us : List Int) (em : Bool) : Prop where
  hcl : ClOk V cl
  hwt : WtOk cl wt
  hperm : Perms (bigsOf dd F) cl
  hus : us = onesOf dd F
  hem : em = noneOf dd F
  lits : Lits V F
theorem Lits.noz {V : Nat} {F : List (List Int)} (h : Lits V F) : NoZ F := fun C hC x hx => (h C hC x hx).1
theorem Eng.usV {V : Nat} {F cl : List (List Int)} {wt : Int → List Nat} {us : List Int} {em : Bool} (h : Eng V F cl wt us em) : ∀ x ∈ us, x ≠ 0 ∧ x.natAbs ≤ V := fun x hx => by
  rw [h.hus] at hx
  obtain ⟨c, hc, h1⟩ := List.mem_filterMap.1 hx
  obtain ⟨c0, hc0, rfl⟩ := List.mem_map.1 hc
  split at h1
  · rename_i z hz
    obtain rfl := Option.some.inj h1
    exact h.lits c0 hc0 z ((ddm _ _).1 (by rw [hz]; simp))
  · cases h1
theorem bigs_ok {V : Nat} {F : List (List Int)} (h : Lits V F) : ClOk V (bigsOf dd F) := fun c hc => by
  obtain ⟨hc, hp⟩ := List.mem_filter.1 hc
  obtain ⟨c0, hc0, rfl⟩ := List.mem_map.1 hc
  simp only [Bool.and_eq_true, decide_eq_true_eq] at hp
  exact ⟨hp.2, dd_nodup _, fun x hx => h c0 hc0 x ((ddm _ _).1 hx)⟩
theorem bigs_len (F : List (List Int)) : (bigsOf dd F).length ≤ F.length := by
  unfold bigsOf
  exact Nat.le_trans (List.length_filter_le _ _) (by simp)
theorem ones_len (F : List (List Int)) : (onesOf dd F).length ≤ F.length := by
  unfold onesOf
  exact Nat.le_trans (List.length_filterMap_le _ _) (by simp)
theorem bigs_clen {F : List (List Int)} {m : Nat} (h : ∀ c ∈ F, c.length ≤ m) : ∀ c ∈ bigsOf dd F, c.length ≤ m := fun c hc => by
  obtain ⟨hc, _⟩ := List.mem_filter.1 hc
  obtain ⟨c0, hc0, rfl⟩ := List.mem_map.1 hc
  exact Nat.le_trans (dd_len c0) (h c0 hc0)
theorem setAll_one (tr : List Int) (x : Int) : setAll tr [x] = if (setF tr x).2 then some (setF tr x).1 else none := by
  unfold setF
  simp only [setAll]
  split
  · rfl
  · split <;> rfl
theorem setAll_snoc {l tr : List Int} {x : Int} (h : setAll [] l = some tr) : setAll [] (l ++ [x]) = if (setF tr x).2 then some (setF tr x).1 else none := by
  rw [setAll_append, h]
  exact setAll_one tr x
theorem setF_ok {V : Nat} {tr : List Int} (ht : TrOk V tr) {x : Int} (hx : x ≠ 0 ∧ x.natAbs ≤ V) : TrOk V (setF tr x).1 := by
  unfold setF
  split
  · exact ht
  · split
    · exact ht
    · exact tr_snoc ht hx (by assumption) (by assumption)
section
variable {V : Nat} {F cl : List (List Int)} {wt : Int → List Nat} {us : List Int} {em : Bool} {c : List Int}
theorem Eng.der (h : Eng V F cl wt us em) {A : List Int} {x : Int} (hd : Der (bigsOf dd F) (A ++ us) x) : Der F A x := by
  rw [h.hus] at hd
  exact der_keep ddm hd
/-- the empty clause was added -/
theorem Eng.empty (h : Eng V F cl wt us em) (he : em = true) : folB F c = true := folB_iff.2 (.inr ((noneOf_iff ddm F).1 (by rw [← h.hem]; exact he)))
/-- a literal was false -/
theorem Eng.clash (h : Eng V F cl wt us em) {l r : List Int} (hl : neg c ++ us = l ++ r) (hn : setAll [] l = none) : folB F c = true := by
  rw [folB_iff]
  obtain ⟨x, h1, h2⟩ := setAll_none (V := V) hn
  have h1 : x ∈ l := h1.resolve_left (by simp)
  have h2 : -x ∈ l := h2.resolve_left (by simp)
  exact .inl ⟨x, h.der (.asm (by rw [hl]; simp [h1])), h.der (.asm (by rw [hl]; simp [h2]))⟩
/-- the start of a propagation -/
theorem Eng.core (h : Eng V F cl wt us em) {A tr : List Int} (hA : ∀ x ∈ A, x ≠ 0 ∧ x.natAbs ≤ V) (hs : setAll [] (A ++ us) = some tr) : Core V (Der (bigsOf dd F) (A ++ us)) (bigsOf dd F) [] cl wt tr 0 := by
  obtain ⟨h1, _, h3⟩ := setAll_some (V := V) (fun x hx => by
    rcases List.mem_append.1 hx with hx | hx
    · exact hA x hx
    · exact h.usV x hx) ⟨by simp, by simp⟩ hs
  refine ⟨h.hcl, h1, h.hwt, fun c hc a b _ _ => by simp, by simp, by simp, h.hperm, fun y hy => .asm ?_⟩
  have := (h3 y).1 hy
  simpa using this
/-- a clause is false -/
theorem Eng.conf (h : Eng V F cl wt us em) {A tr' : List Int} {Cs cl' : List (List Int)} {wt' : Int → List Nat} (hc : Conf V (Der (bigsOf dd F) (A ++ us)) (bigsOf dd F) Cs cl' wt' tr') : Cnf F A := by
  obtain ⟨q, hq, hz⟩ := hc.hbad
  obtain ⟨q0, hq0, hp⟩ := hc.hperm.mem hq
  have h1 : Cnf (bigsOf dd F) (A ++ us) := Cnf.of_bad hq0 fun y hy => hc.hg _ (hz y (hp.mem_iff.2 hy))
  rw [cnf_keep ddm (Lits.noz h.lits)]
  rcases h1 with h1 | h1
  · right; rw [← h.hus]; exact h1
  · exfalso
    have := (List.mem_filter.1 h1).2
    simp at this
/-- all that follows is true, nothing is false -/
theorem Eng.calm (h : Eng V F cl wt us em) (he : em = false) {A tr' : List Int} {Cs cl' : List (List Int)} {wt' : Int → List Nat} (hA : ∀ x ∈ A ++ us, x ∈ tr') (hc : Core V (Der (bigsOf dd F) (A ++ us)) (bigsOf dd F) Cs cl' wt' tr' tr'.length) : ¬ Cnf F A := by
  rw [cnf_keep ddm (Lits.noz h.lits), ← h.hem, he, ← h.hus]
  have hw := hc.hwat
  rw [List.take_length] at hw
  have hu : Unit (· ∈ tr') (bigsOf dd F) := by
    have h1 := unit_of_wat hc.hcl hc.htr hw
    intro q hq y hy ho
    obtain ⟨q1, hq1, hp⟩ := hc.hperm.mem' hq
    exact h1 q1 hq1 y (hp.mem_iff.2 hy) fun z hz hne => ho z (hp.mem_iff.1 hz) hne
  rintro (e | ⟨x, h1, h2⟩)
  · cases e
  · exact hc.htr.not_both (h1.least hA hu) (h2.least hA hu)
theorem Eng.of_core (h : Eng V F cl wt us em) {G : Int → Prop} {Cs cl' : List (List Int)} {wt' : Int → List Nat} {tr' : List Int} {dn : Nat} (hc : Core V G (bigsOf dd F) Cs cl' wt' tr' dn) : Eng V F cl' wt' us em := ⟨hc.hcl, hc.hwt, hc.hperm, h.hus, h.hem, h.lits⟩
theorem Eng.of_conf (h : Eng V F cl wt us em) {G : Int → Prop} {Cs cl' : List (List Int)} {wt' : Int → List Nat} {tr' : List Int} (hc : Conf V G (bigsOf dd F) Cs cl' wt' tr') : Eng V F cl' wt' us em := ⟨hc.hcl, hc.hwt, hc.hperm, h.hus, h.hem, h.lits⟩
theorem neg_V (hc : ∀ x ∈ c, x ≠ 0 ∧ x.natAbs ≤ V) : ∀ x ∈ neg c, x ≠ 0 ∧ x.natAbs ≤ V := fun x hx => by
  have := hc _ (mem_neg.1 hx)
  omega
end
end Go.Proofs.Ytbpaadpocihahaa
end

section
/- Formulas: Right of the program and of the reference; clones. -/
namespace Go.Proofs.Ytbpaadpocihahaa
open Go Go.RowKit Go.Proofs.Rg Go.Proofs.Mp Go.Proofs.Hp Go.Proofs.Sv
set_option linter.unusedVariables false
set_option linter.unusedSimpArgs false
def okLit (V : Int) (x : Int) : Bool := !(x == 0 || decide (x > V) || decide (x < -V))
/-- a formula is valid -/
def rightF (V : Int) (cs : List (List Int)) : Bool := !(decide (V < 0) || decide (V > 65536) || decide (cs.length > 262144)) && cs.all fun c => c.all (okLit V)
theorem IntsAt.get {w : World} {a : Option Addr} {c : Nat} {l : List Int} (h : IntsAt w (.slice a l.length c) l) {i : Nat} {x : Int} (hx : l[i]? = some x) : ∃ g off, a = some ⟨g, off, none⟩ ∧ g < w.heap.size ∧ w.cell? ⟨g, off + i, none⟩ = some (.int .i64 x) := by
  obtain ⟨_, a', c', he, hp⟩ := h
  cases he
  obtain ⟨g, off, ha, hg, hc⟩ := hp (by have := (List.getElem?_eq_some_iff.1 hx).1; omega)
  exact ⟨g, off, ha, hg, hc i _ (iv_get hx)⟩
set_option maxHeartbeats 4000000 in
theorem proper_calls {w : World} {V : Int} (hV : 0 ≤ V ∧ V ≤ 65536) {a : Option Addr} {c : Nat} {l : List Int} (h : IntsAt w (.slice a l.length c) l) (hl : l.length ≤ 9223372036854775807) :
    Calls Try.prog 55 #[.int .i64 V, .slice a l.length c] w fun e w' => e = .returned (.bool (l.all (okLit V))) ∧ w' = w := by
  have HI := Lib.hid h
  have hw1 : IntKind.i64.wrap (-V) = -V := IntWalk.i64_in _ (by omega)
  obtain ⟨n, hn⟩ : ∃ n, l.length = n := ⟨_, rfl⟩
  rw [hn] at hl ⊢
  have HN := Lib.hid hn
  clear h hn
  go_enter Try.func55, Try.ntmps55
  go_wp2
  go_loopg [9] n (fun gg z wr => ∃ i : Nat, i ≤ n ∧ n - i ≤ gg ∧ z = .int .i64 (i : Int) ∧ wr = w ∧ Hid ((l.take i).all (okLit V) = true))
  case atStart => exact ⟨0, Nat.zero_le _, by omega, rfl, rfl, Lib.hid rfl⟩
  case round =>
    obtain ⟨i, hi, hg, rfl, rfl, HA⟩ := hrel
    by_cases hin : i < n
    · obtain ⟨x, hx⟩ : ∃ x, l[i]? = some x := ⟨_, List.getElem?_eq_getElem (by rw [HN.out]; exact hin)⟩
      have hI := HI.out
      rw [HN.out] at hI
      obtain ⟨g, off, rfl, hgl, hc⟩ := IntsAt.get (by rw [HN.out]; exact hI) hx
      have htk : l.take (i + 1) = l.take i ++ [x] := by rw [List.take_add_one, hx]; rfl
      have HTK := Lib.hid htk
      have HX := Lib.hid hx
      clear hI hx htk
      by_cases hok : okLit V x = true
      · have h0 : x ≠ 0 ∧ x ≤ V ∧ -V ≤ x := by
          unfold okLit at hok
          simp only [Bool.not_eq_true', Bool.or_eq_false_iff, beq_eq_false_iff_ne, decide_eq_false_iff_not] at hok
          omega
        obtain ⟨h01, h02, h03⟩ := h0
        have b0 : (x == 0) = false := by simpa using h01
        have b1 : decide (x > V) = false := by simp; omega
        have b2 : decide (x < -V) = false := by simp; omega
        have HOK := Lib.hid hok
        clear hok
        go_wp2
        go_roundg (n - (i + 1))
        case measure => omega
        case rel => exact ⟨i + 1, hin, Nat.le_refl _, by simp, rfl, Lib.hid (by rw [HTK.out, List.all_append, HA.out]; simp [HOK.out])⟩
      · have hres : l.all (okLit V) = false := by
          rw [List.all_eq_false]
          exact ⟨x, List.mem_of_getElem? HX.out, hok⟩
        have HRES := Lib.hid hres
        have h0 : x = 0 ∨ (x ≠ 0 ∧ x > V) ∨ (x ≠ 0 ∧ ¬ x > V ∧ x < -V) := by
          unfold okLit at hok
          simp only [Bool.not_eq_true', Bool.or_eq_false_iff, beq_eq_false_iff_ne, decide_eq_false_iff_not] at hok
          omega
        clear hres hok
        rcases h0 with rfl | ⟨h1, h2⟩ | ⟨h1, h2, h3⟩
        · go_wp2
          go_ret
          exact ⟨by rw [HRES.out]; rfl, rfl⟩
        · have b0 : (x == 0) = false := by simpa using h1
          have b1 : decide (x > V) = true := by simp; omega
          go_wp2
          go_ret
          exact ⟨by rw [HRES.out]; rfl, rfl⟩
        · have b0 : (x == 0) = false := by simpa using h1
          have b1 : decide (x > V) = false := by simp; omega
          have b2 : decide (x < -V) = true := by simp; omega
          go_wp2
          go_ret
          exact ⟨by rw [HRES.out]; rfl, rfl⟩
    · obtain rfl : i = n := by omega
      have hall := HA.out
      rw [List.take_of_length_le (by rw [HN.out]; exact Nat.le_refl _)] at hall
      have HALL := Lib.hid hall
      clear hall HA
      go_wp2
      go_ret
      exact ⟨by rw [HALL.out]; rfl, rfl⟩
/-- a formula that is read -/
def FormAt (w : World) (a : Option Addr) (c : Nat) (cs : List (List Int)) : Prop := RowsAt w (.slice a cs.length c) cs ∧ cs.length ≤ 9223372036854775807 ∧ ∀ r ∈ cs, r.length ≤ 9223372036854775807
theorem FormAt.fr {w w' : World} {a : Option Addr} {c : Nat} {cs : List (List Int)} (h : FormAt w a c cs) (hf : Fr [] w w') : FormAt w' a c cs := ⟨h.1.fr hf, h.2⟩
set_option maxHeartbeats 4000000 in
theorem FRight_calls {w : World} {V : Int} {a : Option Addr} {c : Nat} {cs : List (List Int)} (h : FormAt w a c cs) :
    Calls Try.prog 37 #[.agg #[.int .i64 V, .slice a cs.length c]] w fun e w' => e = .returned (.bool (rightF V cs)) ∧ Fr [] w w' := by
  have HI := Lib.hid h
  obtain ⟨n, hn⟩ : ∃ n, cs.length = n := ⟨_, rfl⟩
  have hl := h.2.1
  unfold rightF
  rw [hn] at hl ⊢
  have HN := Lib.hid hn
  clear h hn
  by_cases h0 : V < 0
  · have b0 : decide (V < 0) = true := by simpa using h0
    go_enter Try.func37, Try.ntmps37
    go_wp2
    go_ret
    exact ⟨by simp [h0], by (repeat first | exact Fr.refl _ _ | assumption | apply Fr.n | apply Fr.d | apply Fr.a | refine Fr.s ?_ (.inr (by simp; try omega)) _)⟩
  by_cases h1 : V > 65536
  · have b0 : decide (V < 0) = false := by simpa using h0
    have b1 : decide (V > 65536) = true := by simpa using h1
    go_enter Try.func37, Try.ntmps37
    go_wp2
    go_ret
    exact ⟨by simp [h1], by (repeat first | exact Fr.refl _ _ | assumption | apply Fr.n | apply Fr.d | apply Fr.a | refine Fr.s ?_ (.inr (by simp; try omega)) _)⟩
  have b0 : decide (V < 0) = false := by simpa using h0
  have b1 : decide (V > 65536) = false := by simpa using h1
  by_cases h2 : n > 262144
  · have b2 : decide ((n : Int) > 262144) = true := by simp; omega
    have hb3 : decide (n > 262144) = true := by simpa using h2
    rw [b0, b1, hb3]
    clear hb3
    go_enter Try.func37, Try.ntmps37
    go_wp2
    go_ret
    exact ⟨by simp, by (repeat first | exact Fr.refl _ _ | assumption | apply Fr.n | apply Fr.d | apply Fr.a | refine Fr.s ?_ (.inr (by simp; try omega)) _)⟩
  have b2 : decide ((n : Int) > 262144) = false := by simp; omega
  have hb3 : decide (n > 262144) = false := by simpa using h2
  have HV := Lib.hid (show 0 ≤ V ∧ V ≤ 65536 by omega)
  obtain ⟨R, hR⟩ : ∃ R, cs.all (fun c => c.all (okLit V)) = R := ⟨_, rfl⟩
  rw [b0, b1, hb3, hR]
  have HR := Lib.hid hR
  have hn6 : n ≤ 262144 := by omega
  clear hb3 hR h0 h1 h2
  go_enter Try.func37, Try.ntmps37
  go_wp2
  obtain ⟨bb, hbb⟩ : ∃ b, w.heap.size = b := ⟨_, rfl⟩
  refine abs_world (fun w' => w'.cell? ⟨bb, 0, none⟩ = some (.int .i64 V) ∧ bb < w'.heap.size ∧ Fr [] w w') ⟨?_, ?_, ?_⟩ ?_
  · rw [← hbb]; simp
  · rw [← hbb]; simp
  · (repeat first | exact Fr.refl _ _ | assumption | apply Fr.n | apply Fr.d | apply Fr.a | refine Fr.s ?_ (.inr (by simp; try omega)) _)
  rintro w1 ⟨v0, vl, hf1⟩
  rw [hbb]
  have HF1 := Lib.hid hf1
  clear hbb hf1
  go_loopg [22] n (fun gg z wr => ∃ i : Nat, i ≤ n ∧ n - i ≤ gg ∧ z = .int .i64 (i : Int) ∧ wr = w1 ∧ Hid ((cs.take i).all (fun c => c.all (okLit V)) = true))
  case atStart => exact ⟨0, Nat.zero_le _, by omega, rfl, rfl, Lib.hid rfl⟩
  case round =>
    obtain ⟨i, hi, hg, rfl, rfl, HA⟩ := hrel
    by_cases hin : i < n
    · obtain ⟨r, hr⟩ : ∃ r, cs[i]? = some r := ⟨_, List.getElem?_eq_getElem (by rw [HN.out]; exact hin)⟩
      obtain ⟨g, off, ra, rc, hae, hgl, hc, hri⟩ := (HI.out.fr HF1.out).1.row hr
      subst hae
      have hrl := HI.out.2.2 r (List.mem_of_getElem? hr)
      have htk : cs.take (i + 1) = cs.take i ++ [r] := by rw [List.take_add_one, hr]; rfl
      have HTK := Lib.hid htk
      have HRI := Lib.hid (And.intro hri hr)
      obtain ⟨b, hb⟩ : ∃ b, r.all (okLit V) = b := ⟨_, rfl⟩
      have HB := Lib.hid hb
      clear htk hri hr hb
      go_wp2_with fail
      refine (proper_calls HV.out HRI.out.1 hrl).mono ?_
      rw [HB.out]
      rintro e w2 ⟨rfl, rfl⟩
      cases b with
      | true =>
        go_wp2
        go_roundg (n - (i + 1))
        case measure => omega
        case rel => exact ⟨i + 1, hin, Nat.le_refl _, by simp, rfl, Lib.hid (by rw [HTK.out, List.all_append, HA.out]; simp [HB.out])⟩
      | false =>
        have hres : R = false := by
          rw [← HR.out, List.all_eq_false]
          exact ⟨r, List.mem_of_getElem? HRI.out.2, by rw [HB.out]; simp⟩
        have HRES := Lib.hid hres
        clear hres
        go_wp2
        go_ret
        exact ⟨by rw [HRES.out]; rfl, HF1.out⟩
    · obtain rfl : i = n := by omega
      have hall := HA.out
      rw [List.take_of_length_le (by rw [HN.out]; exact Nat.le_refl _), HR.out] at hall
      have HALL := Lib.hid hall
      clear hall HA
      go_wp2
      go_ret
      exact ⟨by rw [HALL.out]; rfl, HF1.out⟩
set_option maxHeartbeats 4000000 in
set_option maxRecDepth 100000 in
theorem Clone_h {W w : World} {Ps : List Res} (h : Has W w Ps) {a : Option Addr} {n c : Nat} {xs : List Value} (hr : Reads w (.slice a n c) n 1 xs) (h1 : ∀ u ∈ xs, u.oneCell' = true) (hn : n ≤ 1000000) :
    Calls Try.prog 58 #[.slice a n c] w fun e w' => ∃ v, e = .returned v ∧ Has W w' (Hp.row 3 1 v n xs :: Ps) := by
  have q22 : ∀ (w : World) (a : Option Addr) (n c n' c' : Nat), (binOp .eql 25 (.slice a n c) (.slice none n' c')).run Try.prog w = .ok (.bool a.isNone) w := fun w a n c n' c' => Lib.run_eql_slice_nil w _ _ a n c n' c' Try.underlying25
  cases a with
  | none =>
    have h0 : n = 0 ∧ xs = [] := by
      obtain ⟨h1, a', c', he, hp⟩ := hr
      cases he
      rcases Nat.eq_zero_or_pos n with h | h
      · exact ⟨h, List.eq_nil_of_length_eq_zero (by rw [h1, h])⟩
      · obtain ⟨g, off, hh, _⟩ := hp h; cases hh
    obtain ⟨rfl, rfl⟩ := h0
    have H := Lib.hid h
    clear h hr h1 hn
    go_enter Try.func58, Try.ntmps58
    go_wp2
    go_ret
    exact ⟨_, rfl, H.out.nilRow _ _⟩
  | some ad =>
    have H := Lib.hid h
    have HR := Lib.hid hr
    have H1 := Lib.hid h1
    have hbl : n * 8 ≤ 140737488355328 := by omega
    have hml : (1000001 : Nat) ≤ maxLen := by decide
    have hmn : n ≤ maxLen := by omega
    have HB := Lib.hid (And.intro hbl hmn)
    clear h hr h1 hml hbl hmn hn
    go_enter Try.func58, Try.ntmps58
    go_wp2_with (at_builtin; refine append_reads (base := 0) (e := 3) (z := .int .i64 0) (size := 1) (bytes := 8) (n := 0) (xs := []) (m := n) (news := xs) rfl rfl Try.underlying25 (by kernel_rfl) rfl (by decide) rfl (World.ownsRow_made w #[] 0 (Nat.zero_le _) (Nat.zero_le _) rfl) rfl (HR.out.fr (by (repeat first | exact Fr.refl _ _ | assumption | apply Fr.n | apply Fr.d | apply Fr.a | refine Fr.s ?_ (.inr (by simp; try omega)) _))) (fun e => by cases e) H1.out (by have := HB.out; omega) (by have := HB.out; omega) (Nat.zero_le _) ?_)
    intro v' w9 h9 hf9 hb9
    have hnew : Has W w9 (Hp.row 3 1 v' n xs :: Ps) := by
      have h2 := (H.out.newBlk (.cells #[] 3 (0, 0))).drop
      refine (H.out.newBlk (.cells #[] 3 (0, 0))).turn fun F ⟨_, hF⟩ => ?_
      refine ⟨v'.ownBlock.toList, ⟨by simpa using h9, rfl⟩, ?_, fun x hx => ?_⟩
      · rw [hF]; exact hf9
      · rcases hb9 with h3 | h3
        · left; rw [hF]; rw [h3] at hx; simpa [Value.ownBlock] using hx
        · right
          rw [h3] at hx
          simp at hx
          subst hx
          simp
    have HN := Lib.hid hnew
    clear hnew h9 hf9 hb9
    go_wp2
    go_ret
    exact ⟨_, rfl, HN.out⟩
set_option maxHeartbeats 4000000 in
set_option maxRecDepth 100000 in
theorem Clones_h {W w : World} {Ps : List Res} (h : Has W w Ps) {a : Option Addr} {n c : Nat} {xs : List Value} (hr : Reads w (.slice a n c) n 1 xs) (h1 : ∀ u ∈ xs, u.oneCell' = true) (hn : n ≤ 1000000) :
    Calls Try.prog 33 #[.slice a n c] w fun e w' => ∃ v, e = .returned v ∧ Has W w' (Hp.row 25 1 v n xs :: Ps) := by
  have q22 : ∀ (w : World) (a : Option Addr) (n c n' c' : Nat), (binOp .eql 22 (.slice a n c) (.slice none n' c')).run Try.prog w = .ok (.bool a.isNone) w := fun w a n c n' c' => Lib.run_eql_slice_nil w _ _ a n c n' c' Try.underlying22
  cases a with
  | none =>
    have h0 : n = 0 ∧ xs = [] := by
      obtain ⟨h1, a', c', he, hp⟩ := hr
      cases he
      rcases Nat.eq_zero_or_pos n with h | h
      · exact ⟨h, List.eq_nil_of_length_eq_zero (by rw [h1, h])⟩
      · obtain ⟨g, off, hh, _⟩ := hp h; cases hh
    obtain ⟨rfl, rfl⟩ := h0
    have H := Lib.hid h
    clear h hr h1 hn
    go_enter Try.func33, Try.ntmps33
    go_wp2
    go_ret
    exact ⟨_, rfl, H.out.nilRow _ _⟩
  | some ad =>
    have H := Lib.hid h
    have HR := Lib.hid hr
    have H1 := Lib.hid h1
    have hbl : n * 24 ≤ 140737488355328 := by omega
    have hml : (1000001 : Nat) ≤ maxLen := by decide
    have hmn : n ≤ maxLen := by omega
    have HB := Lib.hid (And.intro hbl hmn)
    clear h hr h1 hml hbl hmn hn
    go_enter Try.func33, Try.ntmps33
    go_wp2_with (at_builtin; refine append_reads (base := 0) (e := 25) (z := .slice none 0 0) (size := 1) (bytes := 24) (n := 0) (xs := []) (m := n) (news := xs) rfl rfl Try.underlying22 (by kernel_rfl) rfl (by decide) rfl (World.ownsRow_made w #[] 0 (Nat.zero_le _) (Nat.zero_le _) rfl) rfl (HR.out.fr (by (repeat first | exact Fr.refl _ _ | assumption | apply Fr.n | apply Fr.d | apply Fr.a | refine Fr.s ?_ (.inr (by simp; try omega)) _))) (fun e => by cases e) H1.out (by have := HB.out; omega) (by have := HB.out; omega) (Nat.zero_le _) ?_)
    intro v' w9 h9 hf9 hb9
    have hnew : Has W w9 (Hp.row 25 1 v' n xs :: Ps) := by
      have h2 := (H.out.newBlk (.cells #[] 25 (0, 0))).drop
      refine (H.out.newBlk (.cells #[] 25 (0, 0))).turn fun F ⟨_, hF⟩ => ?_
      refine ⟨v'.ownBlock.toList, ⟨by simpa using h9, rfl⟩, ?_, fun x hx => ?_⟩
      · rw [hF]; exact hf9
      · rcases hb9 with h3 | h3
        · left; rw [hF]; rw [h3] at hx; simpa [Value.ownBlock] using hx
        · right
          rw [h3] at hx
          simp at hx
          subst hx
          simp
    have HN := Lib.hid hnew
    clear hnew h9 hf9 hb9
    go_wp2
    go_ret
    exact ⟨_, rfl, HN.out⟩
theorem Rliteral_calls {w : World} {V x : Int} (hV : 0 ≤ V ∧ V ≤ 65536) : Calls Try.prog 41 #[.int .i64 x, .int .i64 V] w fun e w' => e = .returned (.bool (okLit V x)) ∧ w' = w := by
  have hw1 : IntKind.i64.wrap (-V) = -V := IntWalk.i64_in _ (by omega)
  by_cases h0 : x = 0
  · have b0 : (x != 0) = false := by simpa using h0
    have HR := Lib.hid (show okLit V x = false by unfold okLit; simp [h0])
    clear h0
    go_enter Try.func41, Try.ntmps41
    go_wp2
    go_ret
    exact ⟨by rw [HR.out]; rfl, rfl⟩
  have b0 : (x != 0) = true := by simpa using h0
  by_cases h1 : x < -V
  · have b1 : decide (x ≥ -V) = false := by simp; omega
    have HR := Lib.hid (show okLit V x = false by unfold okLit; simp [h1])
    clear h0 h1
    go_enter Try.func41, Try.ntmps41
    go_wp2
    go_ret
    exact ⟨by rw [HR.out]; rfl, rfl⟩
  have b1 : decide (x ≥ -V) = true := by simp; omega
  by_cases h2 : x > V
  · have b2 : decide (x ≤ V) = false := by simp; omega
    have HR := Lib.hid (show okLit V x = false by unfold okLit; simp [h2])
    clear h0 h1 h2
    go_enter Try.func41, Try.ntmps41
    go_wp2
    go_ret
    exact ⟨by rw [HR.out]; rfl, rfl⟩
  have b2 : decide (x ≤ V) = true := by simp; omega
  have HR := Lib.hid (show okLit V x = true by unfold okLit; simp; omega)
  clear h0 h1 h2
  go_enter Try.func41, Try.ntmps41
  go_wp2
  go_ret
  exact ⟨by rw [HR.out]; rfl, rfl⟩
set_option maxHeartbeats 4000000 in
theorem R40Right_calls {w : World} {V : Int} {a : Option Addr} {c : Nat} {cs : List (List Int)} (h : FormAt w a c cs) :
    Calls Try.prog 21 #[.agg #[.int .i64 V, .slice a cs.length c]] w fun e w' => e = .returned (.bool (rightF V cs)) ∧ Fr [] w w' := by
  have HI := Lib.hid h
  obtain ⟨n, hn⟩ : ∃ n, cs.length = n := ⟨_, rfl⟩
  have hl := h.2.1
  unfold rightF
  rw [hn] at hl ⊢
  have HN := Lib.hid hn
  clear h hn
  by_cases h0 : V < 0
  · have b0 : decide (V < 0) = true := by simpa using h0
    go_enter Try.func21, Try.ntmps21
    go_wp2
    go_ret
    exact ⟨by simp [h0], by (repeat first | exact Fr.refl _ _ | assumption | apply Fr.n | apply Fr.d | apply Fr.a | refine Fr.s ?_ (.inr (by simp; try omega)) _)⟩
  by_cases h1 : V > 65536
  · have b0 : decide (V < 0) = false := by simpa using h0
    have b1 : decide (V > 65536) = true := by simpa using h1
    go_enter Try.func21, Try.ntmps21
    go_wp2
    go_ret
    exact ⟨by simp [h1], by (repeat first | exact Fr.refl _ _ | assumption | apply Fr.n | apply Fr.d | apply Fr.a | refine Fr.s ?_ (.inr (by simp; try omega)) _)⟩
  have b0 : decide (V < 0) = false := by simpa using h0
  have b1 : decide (V > 65536) = false := by simpa using h1
  by_cases h2 : n > 262144
  · have b2 : decide ((n : Int) > 262144) = true := by simp; omega
    have hb3 : decide (n > 262144) = true := by simpa using h2
    rw [b0, b1, hb3]
    clear hb3
    go_enter Try.func21, Try.ntmps21
    go_wp2
    go_ret
    exact ⟨by simp, by (repeat first | exact Fr.refl _ _ | assumption | apply Fr.n | apply Fr.d | apply Fr.a | refine Fr.s ?_ (.inr (by simp; try omega)) _)⟩
  have b2 : decide ((n : Int) > 262144) = false := by simp; omega
  have hb3 : decide (n > 262144) = false := by simpa using h2
  have HV := Lib.hid (show 0 ≤ V ∧ V ≤ 65536 by omega)
  obtain ⟨R, hR⟩ : ∃ R, cs.all (fun c => c.all (okLit V)) = R := ⟨_, rfl⟩
  rw [b0, b1, hb3, hR]
  have HR := Lib.hid hR
  have hn6 : n ≤ 262144 := by omega
  clear hb3 hR h0 h1 h2
  go_enter Try.func21, Try.ntmps21
  go_wp2
  obtain ⟨bb, hbb⟩ : ∃ b, w.heap.size = b := ⟨_, rfl⟩
  refine abs_world (fun w' => w'.cell? ⟨bb, 0, none⟩ = some (.int .i64 V) ∧ w'.cell? ⟨bb, 1, none⟩ = some (.slice a n c) ∧ bb < w'.heap.size ∧ Fr [] w w') ⟨?_, ?_, ?_, ?_⟩ ?_
  · rw [← hbb]; simp
  · rw [← hbb]; simp
  · rw [← hbb]; simp
  · (repeat first | exact Fr.refl _ _ | assumption | apply Fr.n | apply Fr.d | apply Fr.a | refine Fr.s ?_ (.inr (by simp; try omega)) _)
  rintro w1 ⟨v0, v1, vl, hf1⟩
  rw [hbb]
  have HF1 := Lib.hid hf1
  clear hbb hf1
  go_loopg [3] n (fun gg z wr => ∃ i : Nat, i ≤ n ∧ n - i ≤ gg ∧ z = .int .i64 (i : Int) ∧ Hid (Fr [] w1 wr) ∧ Hid ((cs.take i).all (fun c => c.all (okLit V)) = true))
  case atStart => exact ⟨0, Nat.zero_le _, by omega, rfl, Lib.hid (Fr.refl [] _), Lib.hid rfl⟩
  case round =>
    obtain ⟨i, hi, hg, rfl, HW, HA⟩ := hrel
    have u0 := (HW.out.cell (p := ⟨bb, 0, none⟩) vl (by simp)).trans v0
    have u1 := (HW.out.cell (p := ⟨bb, 1, none⟩) vl (by simp)).trans v1
    have ul := Nat.lt_of_lt_of_le vl HW.out.size
    by_cases hin : i < n
    · obtain ⟨r, hr⟩ : ∃ r, cs[i]? = some r := ⟨_, List.getElem?_eq_getElem (by rw [HN.out]; exact hin)⟩
      obtain ⟨g, off, ra, rc, hae, hgl, hc, hri⟩ := (HI.out.fr (HF1.out.trans0 HW.out)).1.row hr
      subst hae
      have hrl := HI.out.2.2 r (List.mem_of_getElem? hr)
      have htk : cs.take (i + 1) = cs.take i ++ [r] := by rw [List.take_add_one, hr]; rfl
      have HTK := Lib.hid htk
      have HRI := Lib.hid (And.intro hri hr)
      obtain ⟨m, hm⟩ : ∃ m, r.length = m := ⟨_, rfl⟩
      rw [hm] at hrl hc
      have HM := Lib.hid hm
      have HC := Lib.hid hc
      obtain ⟨wo, hwo⟩ : ∃ wo, wr = wo := ⟨_, rfl⟩
      rw [hwo] at HW HRI HC hgl
      have HWO := Lib.hid hwo
      clear htk hri hr hm hwo
      go_wp2
      clear u0 u1 ul hc
      go_loopg [4] m (fun gg z wq => ∃ k : Nat, k ≤ m ∧ m - k ≤ gg ∧ z = .int .i64 (k : Int) ∧ Hid (Fr [] wo wq) ∧ Hid ((r.take k).all (okLit V) = true))
      case atStart => exact ⟨0, Nat.zero_le _, by omega, rfl, Lib.hid (by rw [HWO.out]; exact Fr.refl [] _), Lib.hid rfl⟩
      case round =>
        obtain ⟨k, hk, hgk, rfl, HQ, HB⟩ := hrel
        have HWQ := Lib.hid (HW.out.trans0 HQ.out)
        have u0 := (HWQ.out.cell (p := ⟨bb, 0, none⟩) vl (by simp)).trans v0
        have u1 := (HWQ.out.cell (p := ⟨bb, 1, none⟩) vl (by simp)).trans v1
        have ul := Nat.lt_of_lt_of_le vl HWQ.out.size
        have hc := (HQ.out.cell (p := ⟨g, off + i, none⟩) hgl (by simp)).trans HC.out
        have hglq := Nat.lt_of_lt_of_le hgl HQ.out.size
        by_cases hkm : k < m
        · obtain ⟨x, hx⟩ : ∃ x, r[k]? = some x := ⟨_, List.getElem?_eq_getElem (by rw [HM.out]; exact hkm)⟩
          obtain ⟨g2, off2, rfl, hgl2, hc2⟩ := IntsAt.get (HRI.out.1.fr HQ.out) hx
          have htk : r.take (k + 1) = r.take k ++ [x] := by rw [List.take_add_one, hx]; rfl
          have HTK2 := Lib.hid htk
          have HX := Lib.hid hx
          obtain ⟨ok, hok⟩ : ∃ ok, okLit V x = ok := ⟨_, rfl⟩
          have HOK := Lib.hid hok
          clear htk hx hok
          go_wp2
          (refine wp_region_text (by kernel_rfl) (by kernel_rfl) ?_)
          go_wp2_with fail
          refine (Rliteral_calls HV.out).mono ?_
          rintro e w2 ⟨rfl, rfl⟩
          rw [HOK.out]
          cases ok with
          | true =>
            go_wp2
            refine Strict.intro rfl ?_
            go_wp2
            go_roundg (m - (k + 1))
            case measure => omega
            case rel => exact ⟨k + 1, hkm, Nat.le_refl _, by simp, Lib.hid (HQ.out.trans0 (by (repeat first | exact Fr.refl _ _ | assumption | apply Fr.n | apply Fr.d | apply Fr.a | refine Fr.s ?_ (.inr (by simp; try omega)) _))), Lib.hid (by rw [HTK2.out, List.all_append, HB.out]; simp [HOK.out])⟩
          | false =>
            have hres : R = false := by
              rw [← HR.out, List.all_eq_false]
              refine ⟨r, List.mem_of_getElem? HRI.out.2, ?_⟩
              rw [Bool.not_eq_true, List.all_eq_false]
              exact ⟨x, List.mem_of_getElem? HX.out, by rw [HOK.out]; simp⟩
            have HRES := Lib.hid hres
            clear hres
            go_wp2
            refine Strict.intro rfl ?_
            go_wp2
            go_ret
            exact ⟨by rw [HRES.out]; rfl, HF1.out.trans0 (HWQ.out.trans0 (by (repeat first | exact Fr.refl _ _ | assumption | apply Fr.n | apply Fr.d | apply Fr.a | refine Fr.s ?_ (.inr (by simp; try omega)) _)))⟩
        · obtain rfl : k = m := by omega
          have hall := HB.out
          rw [List.take_of_length_le (by rw [HM.out]; exact Nat.le_refl _)] at hall
          have HALL := Lib.hid hall
          clear hall HB
          go_wp2
          go_roundg (n - (i + 1))
          case measure => omega
          case rel => exact ⟨i + 1, hin, Nat.le_refl _, by simp, HWQ, Lib.hid (by rw [HTK.out, List.all_append, HA.out]; simp [HALL.out])⟩
    · obtain rfl : i = n := by omega
      have hall := HA.out
      rw [List.take_of_length_le (by rw [HN.out]; exact Nat.le_refl _), HR.out] at hall
      have HALL := Lib.hid hall
      clear hall HA
      go_wp2
      go_ret
      exact ⟨by rw [HALL.out]; rfl, HF1.out.trans0 HW.out⟩
theorem Compact_e {w : World} {a : Option Addr} {c : Nat} : Calls Try.prog 62 #[.slice a 0 c] w fun e w' => e = .returned (.slice a 0 c) ∧ w' = w := by
  go_enter Try.func62, Try.ntmps62
  go_wp2
  go_ret
  exact ⟨rfl, rfl⟩
theorem Sort_e {w : World} {a : Option Addr} {c : Nat} : Calls Try.prog 61 #[.slice a 0 c] w fun e w' => e = .returned (.tuple #[]) ∧ w' = w := by
  have hcon := AnyM.slices_Sort_int_none Try.shSort a c w
  exact hcon
theorem vals_nil (V : Nat) : vals V [] = List.replicate (V + 1) (Value.int .i8 0) := by
  unfold vals
  apply List.ext_getElem?
  intro i
  rw [List.getElem?_map, List.getElem?_replicate]
  by_cases h : i < V + 1
  · rw [List.getElem?_range h, if_pos h]; simp [vof]
  · rw [List.getElem?_eq_none (by simp; omega), if_neg h]; rfl
theorem has_mapT {κ ν : Type} {f : κ → Value} {g : ν → Value} {W w : World} {Ps : List Res} (h : Has W w Ps) : Has W (w.alloc (.map #[] 0)) (mapT w.heap.size f g [] :: Ps) :=
  h.new (F := [w.heap.size]) ((Fr.refl [] w).alloc _) ⟨MapIs.made w, rfl⟩ (by simp)
/-- a formula that can be read wherever some things are -/
def FormSrc (W : World) (Ps : List Res) (a : Option Addr) (c : Nat) (cs : List (List Int)) : Prop := ∀ w Qs, Has W w Qs → (∀ P ∈ Ps, P ∈ Qs) → FormAt w a c cs
theorem FormSrc.base {W : World} {Ps : List Res} {a : Option Addr} {c : Nat} {cs : List (List Int)} (h : FormAt W a c cs) : FormSrc W Ps a c cs := fun w Qs hw _ => h.fr hw.fr
theorem rightF_len {V : Nat} {cs : List (List Int)} (h : rightF V cs = true) : cs.length ≤ 262144 ∧ V ≤ 65536 ∧ ∀ c ∈ cs, ∀ x ∈ c, x ≠ 0 ∧ x.natAbs ≤ V := by
  unfold rightF at h
  simp only [Bool.and_eq_true, Bool.not_eq_true', Bool.or_eq_false_iff, decide_eq_false_iff_not, List.all_eq_true] at h
  refine ⟨by omega, by omega, fun c hc x hx => ?_⟩
  have := h.2 c hc x hx
  unfold okLit at this
  simp only [Bool.not_eq_true', Bool.or_eq_false_iff, beq_eq_false_iff_ne, decide_eq_false_iff_not] at this
  omega
theorem FormSrc.more {W : World} {Ps Rs : List Res} {a : Option Addr} {c : Nat} {cs : List (List Int)} (h : FormSrc W Ps a c cs) (hs : ∀ P ∈ Ps, P ∈ Rs) : FormSrc W Rs a c cs := fun w Qs hw hP => h w Qs hw fun P hp => hP P (hs P hp)
theorem Contains_i {w : World} {g off c : Nat} {l : List Int} {x : Int} (hl : l.length ≤ 1000000) (hr : IntsAt w (.slice (some ⟨g, off, none⟩) l.length c) l) :
    Calls Try.prog 63 #[.slice (some ⟨g, off, none⟩) l.length c, .int .i64 x] w fun e w' => e = .returned (.bool (l.contains x)) ∧ w' = w := by
  have hcon := AnyE.slices_Contains Try.shContains (Value.int .i64) (fun a b => decide (a = b)) (EqlAt.intD _ _ .i64) g off l.length c l x w (Nat.le_refl _) (by omega) (fun j hj => by
    obtain ⟨g2, off2, he, _, hc⟩ := IntsAt.get hr (List.getElem?_eq_getElem hj)
    cases he
    rw [hc]; simp [hj])
  change Calls Try.prog 63 _ _ _ at hcon
  rw [List.take_length] at hcon
  have e : (l.any fun y => decide (x = y)) = l.contains x := by
    rw [Bool.eq_iff_iff, List.any_eq_true]
    simp
  rwa [e] at hcon
theorem has_mem {W w : World} {Qs : List Res} {P : Res} (h : Has W w Qs) (hP : P ∈ Qs) : ∃ Q, Has W w (P :: Q) := by
  obtain ⟨q1, q2, rfl⟩ := List.append_of_mem hP
  exact ⟨q1 ++ q2, h.perm List.perm_middle⟩
/-- a formula whose clauses' heads are known, wherever some things are -/
def FormHs (W : World) (Ps : List Res) (a : Option Addr) (c : Nat) (vs : List Value) (cs : List (List Int)) : Prop :=
  (∀ w Qs, Has W w Qs → (∀ P ∈ Ps, P ∈ Qs) → Reads w (.slice a cs.length c) cs.length 1 vs ∧ ∀ (i : Nat) (r : List Int), cs[i]? = some r → ∃ u, vs[i]? = some u ∧ IntsAt w u r) ∧
  cs.length ≤ 9223372036854775807 ∧ ∀ r ∈ cs, r.length ≤ 9223372036854775807
theorem FormHs.src {W : World} {Ps : List Res} {a : Option Addr} {c : Nat} {vs : List Value} {cs : List (List Int)} (h : FormHs W Ps a c vs cs) : FormSrc W Ps a c cs :=
  fun w Qs hw hP => ⟨⟨vs, h.1 w Qs hw hP⟩, h.2⟩
theorem FormHs.base {W : World} {Ps : List Res} {a : Option Addr} {c : Nat} {cs : List (List Int)} (h : FormAt W a c cs) : ∃ vs, FormHs W Ps a c vs cs := by
  obtain ⟨⟨vs, h1, h2⟩, h3⟩ := h
  refine ⟨vs, fun w Qs hw _ => ⟨h1.fr hw.fr, fun i r hi => ?_⟩, h3⟩
  obtain ⟨u, hu, hr⟩ := h2 i r hi
  exact ⟨u, hu, hr.fr hw.fr⟩
theorem FormHs.grown {W : World} {Ps : List Res} {a a' : Option Addr} {c c' k : Nat} {vs : List Value} {cs : List (List Int)} (h : FormHs W Ps a c vs cs) {OV : List (Value × List Int)} (hk : k = cs.length + OV.length) (hk6 : k ≤ 9223372036854775807)
    (hl : ∀ q ∈ OV, q.2.length ≤ 9223372036854775807) :
    FormHs W (Hp.row 25 1 (.slice a' k c') k (vs ++ OV.map (·.1)) :: bun (OV.map rowC) :: Ps) a' c' (vs ++ OV.map (·.1)) (cs ++ OV.map (·.2)) := by
  have hlen : (cs ++ OV.map (·.2)).length = k := by rw [List.length_append, List.length_map, hk]
  refine ⟨fun w Qs hw hP => ?_, by rw [hlen]; exact hk6, fun r hr => ?_⟩
  · rw [hlen]
    obtain ⟨Q1, h1⟩ := has_mem hw (hP (Hp.row 25 1 (.slice a' k c') k (vs ++ OV.map (·.1))) (by simp))
    obtain ⟨Q2, h2⟩ := has_mem hw (hP (bun (OV.map rowC)) (by simp))
    obtain ⟨h3, h4⟩ := h.1 w Qs hw fun P hp => hP P (by simp [hp])
    refine ⟨h1.rowReads, fun i r hi => ?_⟩
    have hvl : vs.length = cs.length := by have := h3.1; omega
    by_cases hic : i < cs.length
    · rw [List.getElem?_append_left hic] at hi
      obtain ⟨u, hu, hr⟩ := h4 i r hi
      exact ⟨u, by rw [List.getElem?_append_left (by omega)]; exact hu, hr⟩
    · rw [List.getElem?_append_right (by omega), List.getElem?_map] at hi
      obtain ⟨q, hq, rfl⟩ := Option.map_eq_some_iff.1 hi
      refine ⟨q.1, by rw [List.getElem?_append_right (by omega), List.getElem?_map, hvl, hq]; rfl, ?_⟩
      obtain ⟨Q3, h5⟩ := has_mem h2.unbun (P := rowC q) (List.mem_append_left _ (List.mem_map_of_mem (List.mem_of_getElem? hq)))
      exact h5.rowReads
  · rcases List.mem_append.1 hr with hr | hr
    · exact h.2.2 r hr
    · obtain ⟨q, hq, rfl⟩ := List.mem_map.1 hr
      exact hl q hq
theorem FormHs.more {W : World} {Ps Rs : List Res} {a : Option Addr} {c : Nat} {vs : List Value} {cs : List (List Int)} (h : FormHs W Ps a c vs cs) (hs : ∀ P ∈ Ps, P ∈ Rs) : FormHs W Rs a c vs cs := ⟨fun w Qs hw hP => h.1 w Qs hw fun P hp => hP P (hs P hp), h.2⟩
theorem has_many {W w : World} {Ps : List Res} (h : Has W w Ps) (T : Nat) (vs : List Value) (h0 : 0 < vs.length) (hl : vs.length ≤ 100) : Has W (w.alloc (.cells vs.toArray T (0, 0))) (Hp.row T 1 (.slice (some ⟨w.heap.size, 0, none⟩) vs.length vs.length) vs.length vs :: Ps) := by
  refine h.newRow ((Fr.refl [] w).alloc _) ?_
  have hm : (100 : Nat) ≤ maxLen := by decide
  refine ⟨by simp, .inr ⟨w.heap.size, vs.length, vs.toArray, rfl, Nat.le_refl _, by rw [hp_alloc, if_pos rfl], Nat.le_refl _, by omega, by simp, ?_⟩⟩
  rw [Nat.mul_one]
  simp
theorem under_hs {W : World} {Qs : List Res} {OV : List (Value × List Int)} {oa : Option Addr} {oc : Nat} (hl : ∀ q ∈ OV, q.2.length ≤ 9223372036854775807) (hn : OV.length ≤ 9223372036854775807) :
    FormHs W (Hp.row 25 1 (.slice oa OV.length oc) OV.length (OV.map (·.1)) :: bun (OV.map rowC) :: Qs) oa oc (OV.map (·.1)) (OV.map (·.2)) := by
  have h0 : FormHs W Qs none 0 [] [] := ⟨fun w Qs' hw _ => ⟨⟨rfl, none, 0, rfl, fun h => absurd h (by simp)⟩, fun i r hi => by simp at hi⟩, by simp, by simp⟩
  have h1 := h0.grown (a' := oa) (c' := oc) (k := OV.length) (OV := OV) (by simp) hn hl
  rw [List.nil_append, List.nil_append] at h1
  exact h1
end Go.Proofs.Ytbpaadpocihahaa
end
