/- Own texts of this claim, part 14: no condition. -/
import Derived.Lib.SlicesCompact
import Derived.Test.YtjidldfnlejdhaaZM12
set_option linter.unusedVariables false
set_option linter.unusedSimpArgs false
section
/- What the library's slices functions do to rows. -/
namespace Go.Proofs.Ytjidldfnlejdhaa
open Go Go.RowKit Go.Proofs.Rg Go.Proofs.Mp Go.Proofs.Hp Go.Sort Go.Lib
set_option linter.unusedVariables false
set_option linter.unusedSimpArgs false
theorem fr_grow {F : List Nat} {a w : World} (h : Fr F a w) (os : Array Obj) : Fr F a (grow w os) :=
  h.trans (G := []) ⟨rfl, rfl, rfl, by show w.heap.size ≤ (w.heap ++ os).size; rw [Array.size_append]; omega, fun b hb _ => by
    show (w.heap ++ os)[b]? = _
    rw [Array.getElem?_append_left hb]⟩ (by simp)
theorem heap_putRow {α : Type} [Inhabited α] {enc : α → Value} {w : World} {g : Nat} {d : Array α} {cur : Array Value} {e : TypeId} {fr : Nat × Nat} (h : w.heap[g]? = some (.cells cur e fr)) (n : Nat) (os : Array Obj) :
    (grow (putRow enc (Sort.ahead w n) g 0 d) os).heap[g]? = some (.cells (putCells enc 0 d cur) e fr) := by
  show ((Sort.ahead w n).heap.modify g _ ++ os)[g]? = _
  have hg := lt_of_block h
  have hs : (Sort.ahead w n).heap = w.heap := rfl
  rw [hs, Array.getElem?_append_left (by simpa using hg), Array.getElem?_modify, if_pos rfl, h]
  rfl
theorem putCells_take {α : Type} [Inhabited α] {enc : α → Value} {l : List α} {cur : Array Value} {n : Nat} (hl : l.length = n) (hn : n ≤ cur.size) : (putCells enc 0 l.toArray cur).toList.take n = l.map enc := by
  apply List.ext_getElem?
  intro i
  rw [List.getElem?_take, List.getElem?_map]
  unfold putCells
  split
  · rename_i hi
    have h1 : i < cur.size := by omega
    have h2 : i < l.length := by omega
    rw [Array.getElem?_toList, Array.getElem?_mapIdx, Array.getElem?_eq_getElem h1, List.getElem?_eq_getElem h2]
    simp [h2]
  · rename_i hi
    rw [List.getElem?_eq_none (by omega)]; rfl
theorem row_put {α : Type} [Inhabited α] {enc : α → Value} {W w : World} {Ps : List Res} {T n g cap : Nat} {xs : List Value} (h : Has W w (Hp.row T 1 (.slice (some ⟨g, 0, none⟩) n cap) n xs :: Ps)) {l : List α} (hl : l.length = n) (k : Nat) (os : Array Obj) :
    Has W (grow (putRow enc (Sort.ahead w k) g 0 l.toArray) os) (Hp.row T 1 (.slice (some ⟨g, 0, none⟩) n cap) n (l.map enc) :: Ps) :=
  h.turn fun F ⟨h1, h2⟩ => by
    obtain ⟨h3, h4⟩ := h1
    rcases h4 with ⟨h4, _⟩ | ⟨g', cap', cur, hv, hb, hh, hn, hc, hs, ht⟩
    · cases h4
    cases hv
    refine ⟨F, ⟨⟨by simp [hl], .inr ⟨g, cap, _, rfl, Nat.zero_le _, heap_putRow hh k os, hn, hc, by simpa [putCells] using hs, ?_⟩⟩, h2⟩, fr_grow (a := w) (w := putRow enc (Sort.ahead w k) g 0 l.toArray) ⟨rfl, rfl, rfl, ?_, ?_⟩ os, fun x hx => .inl hx⟩
    · rw [Nat.mul_one]; exact putCells_take hl (by omega)
    · show w.heap.size ≤ (w.heap.modify g _).size
      simp
    · intro b hb1 hb2
      show (w.heap.modify g _)[b]? = _
      rw [Array.getElem?_modify, if_neg (by rintro rfl; exact hb2 (by rw [h2]; simp [Value.ownBlock]))]
theorem row_holds {α : Type} [Inhabited α] {enc : α → Value} {w : World} {T n g cap : Nat} {l : List α} (h : w.ownsRow 0 T 1 (.slice (some ⟨g, 0, none⟩) n cap) n (l.map enc)) : Holds enc w g 0 l.toArray := by
  intro j hj
  have hj' : j < l.length := by simpa using hj
  refine ⟨?_, owns_frozen h rfl _⟩
  rw [Nat.zero_add, owns_cell h rfl (j := j) (u := enc l[j]) (by simp [hj'])]
  simp [hj']
theorem int1 : OneCell (Value.int .i64) := fun _ => rfl
/-! ### Sort and Compact -/
/-- a clause in ascending order, each literal once -/
def srt (l : List Int) : List Int := l.mergeSort fun x y => decide (x ≤ y)
def dd (l : List Int) : List Int := compactUpTo (srt l).toArray (srt l).length
theorem srt_len (l : List Int) : (srt l).length = l.length := List.length_mergeSort l
theorem srt_mem {l : List Int} {x : Int} : x ∈ srt l ↔ x ∈ l := List.mem_mergeSort
theorem srt_sorted (l : List Int) : (srt l).Pairwise (· ≤ ·) := by
  have h := List.pairwise_mergeSort (le := fun x y : Int => decide (x ≤ y)) (fun a b c h1 h2 => by simp at *; omega) (fun a b => by simp; omega) l
  exact h.imp (fun {a b} hab => by simpa using hab)
theorem compact_spec {l : List Int} (hs : l.Pairwise (· ≤ ·)) : ∀ m, m ≤ l.length → (compactUpTo l.toArray m).Pairwise (· < ·) ∧ (∀ x, x ∈ compactUpTo l.toArray m ↔ x ∈ l.take m) ∧ (compactUpTo l.toArray m).length ≤ m
  | 0, _ => by simp [compactUpTo]
  | m + 1, hm => by
    obtain ⟨h1, h2, h3⟩ := compact_spec hs m (by omega)
    rw [compactUpTo_succ]
    have hml : m < l.length := by omega
    have hget : l.toArray[m]! = l[m] := by simp [hml]
    have ht : l.take (m + 1) = l.take m ++ [l[m]] := by rw [List.take_add_one, List.getElem?_eq_getElem hml]; rfl
    rw [ht, hget]
    have hle : ∀ x ∈ l.take m, x ≤ l[m] := by
      intro x hx
      obtain ⟨i, hi, rfl⟩ := List.getElem_of_mem hx
      simp at hi
      rw [List.getElem_take]
      exact List.pairwise_iff_getElem.1 hs i m (by omega) hml (by omega)
    by_cases hk : keeps l.toArray m = true
    · rw [if_pos hk]
      refine ⟨?_, fun x => by rw [List.mem_append, List.mem_append, h2], by simp; omega⟩
      rw [List.pairwise_append]
      refine ⟨h1, by simp, fun x hx y hy => ?_⟩
      simp at hy
      subst hy
      rw [h2] at hx
      have h5 := hle x hx
      rcases Int.lt_or_eq_of_le h5 with h6 | h6
      · exact h6
      · exfalso
        unfold keeps at hk
        simp only [decide_eq_true_eq] at hk
        rcases hk with hk | hk
        · subst hk; simp at hx
        · rw [hget] at hk
          have hm1 : m - 1 < l.length := by omega
          rw [show l.toArray[m - 1]! = l[m - 1] by simp [hm1]] at hk
          obtain ⟨i, hi, rfl⟩ := List.getElem_of_mem hx
          simp at hi
          rw [List.getElem_take] at h6
          have h7 : l[i] ≤ l[m - 1] := by
            rcases Nat.lt_or_ge i (m - 1) with h8 | h8
            · exact List.pairwise_iff_getElem.1 hs i (m - 1) (by omega) hm1 h8
            · have : i = m - 1 := by omega
              subst this; exact Int.le_refl _
          have h9 : l[m - 1] ≤ l[m] := List.pairwise_iff_getElem.1 hs (m - 1) m hm1 hml (by omega)
          omega
    · rw [if_neg hk, List.append_nil]
      refine ⟨h1, fun x => ?_, by omega⟩
      rw [h2, List.mem_append]
      constructor
      · exact .inl
      · rintro (h | h)
        · exact h
        · simp at h
          subst h
          unfold keeps at hk
          simp only [decide_eq_true_eq, not_or, Decidable.not_not] at hk
          obtain ⟨hk1, hk2⟩ := hk
          have hm1 : m - 1 < l.length := by omega
          rw [hget, show l.toArray[m - 1]! = l[m - 1] by simp [hm1]] at hk2
          rw [hk2]
          have : (l.take m)[m - 1]? = some l[m - 1] := by rw [List.getElem?_take, if_pos (by omega), List.getElem?_eq_getElem hm1]
          exact List.mem_of_getElem? this
theorem dd_mem {l : List Int} {x : Int} : x ∈ dd l ↔ x ∈ l := by
  have h := (compact_spec (srt_sorted l) (srt l).length (Nat.le_refl _)).2.1 x
  rw [List.take_length] at h
  exact h.trans srt_mem
theorem dd_nodup (l : List Int) : (dd l).Nodup := (compact_spec (srt_sorted l) (srt l).length (Nat.le_refl _)).1.imp fun {a b} h => by omega
theorem dd_len (l : List Int) : (dd l).length ≤ l.length := by have := (compact_spec (srt_sorted l) (srt l).length (Nat.le_refl _)).2.2; have e := srt_len l; unfold dd; omega
theorem dd_nil : dd [] = [] := by simp [dd, srt, compactUpTo]
section
variable {W w : World} {Ps : List Res} {l : List Int}
theorem Sort_h {n g cap : Nat} (h : Has W w (Hp.row 3 1 (.slice (some ⟨g, 0, none⟩) n cap) n (iv l) :: Ps)) (hn : l.length = n) (hl : n ≤ 1000000) :
    Calls Try.prog 51 #[.slice (some ⟨g, 0, none⟩) n cap] w fun e w' => e = .returned (.tuple #[]) ∧ Has W w' (Hp.row 3 1 (.slice (some ⟨g, 0, none⟩) n cap) n (iv (srt l)) :: Ps) := by
  have hcon := AnyM.slices_Sort_int Try.shSort g 0 cap l w (row_holds (enc := Value.int .i64) h.row) (owns_lt h.row rfl) (by omega)
  change Calls Try.prog 51 _ _ _ at hcon
  rw [hn] at hcon
  refine hcon.mono ?_
  rintro e w' ⟨rfl, k, os, rfl⟩
  exact ⟨rfl, row_put h (l := srt l) (by rw [srt_len, hn]) k os⟩
theorem Compact_h {n g cap : Nat} (h : Has W w (Hp.row 3 1 (.slice (some ⟨g, 0, none⟩) n cap) n (iv (srt l)) :: Ps)) (hn : l.length = n) (hl : n ≤ 1000000) :
    Calls Try.prog 52 #[.slice (some ⟨g, 0, none⟩) n cap] w fun e w' => e = .returned (.slice (some ⟨g, 0, none⟩) (dd l).length cap) ∧ Has W w' (Hp.row 3 1 (.slice (some ⟨g, 0, none⟩) (dd l).length cap) (dd l).length (iv (dd l)) :: Ps) := by
  have hsl : (srt l).length = n := by rw [srt_len, hn]
  have hcap := owns_cap h.row
  have hcon := AnyE.slices_Compact Try.shCompact (Value.int .i64) int1 (EqlAt.intD _ _ .i64) (NeqAt.intD _ _ .i64) 0 Try.zeroValue3 g 0 cap (srt l).toArray w (row_holds (enc := Value.int .i64) h.row) (by simp [hsl]; omega) (by simp [hsl]; exact hcap)
  change Calls Try.prog 52 _ _ _ at hcon
  have e1 : (srt l).toArray.size = n := by simp [hsl]
  have e2 : compactUpTo (srt l).toArray n = dd l := by rw [← hsl]; rfl
  rw [e1, e2] at hcon
  refine hcon.mono ?_
  rintro e w' ⟨rfl, k, rfl⟩
  have hdl := dd_len l
  have h2 := row_put h (l := dd l ++ List.replicate (n - (dd l).length) 0) (enc := Value.int .i64) (by simp; omega) k #[]
  rw [grow_empty] at h2
  have h3 := h2.rowCut (m := (dd l).length) (by omega)
  rw [Nat.mul_one, List.map_append, List.take_left' (by simp)] at h3
  exact ⟨rfl, h3⟩
end
end Go.Proofs.Ytjidldfnlejdhaa
end

section
/- solve: the first literal of a clause that is not false. -/
namespace Go.Proofs.Ytjidldfnlejdhaa
open Go Go.RowKit Go.Proofs.Rg Go.Proofs.Mp Go.Proofs.Hp Go.Proofs.Sv
set_option linter.unusedVariables false
set_option linter.unusedSimpArgs false
/-- literals of V variables -/
abbrev LitV (V : Nat) : Type := { x : Int // x ≠ 0 ∧ x.natAbs ≤ V }
def encL {V : Nat} (x : LitV V) : Value := .int .i64 x.1
theorem idxBy_find {α : Type} (p : α → Bool) (d : α) (l : List α) : Lib.idxBy (fun _ y => p y) l d = match l.findIdx? p with | some i => (i : Int) | none => -1 := by
  have key : ∀ (l : List α) (i : Nat), Lib.idxByFrom (fun _ y => p y) d l i = match l.findIdx? p with | some j => ((i + j : Nat) : Int) | none => -1 := by
    intro l
    induction l with
    | nil => intro i; rfl
    | cons y l ih =>
      intro i
      rw [Lib.idxByFrom, List.findIdx?_cons]
      by_cases h : p y = true
      · rw [if_pos h, if_pos h]; simp
      · rw [if_neg h, if_neg h, ih]
        cases l.findIdx? p with
        | none => rfl
        | some j => simp only [Option.map_some]; congr 1; omega
  unfold Lib.idxBy
  rw [key]
  cases l.findIdx? p <;> simp
theorem visit1_pred {w : World} {p V eb : Nat} {tr : List Int} (h : OfAt w p V tr) (ht : TrOk V tr) (hV : V ≤ 65536) (he : w.cell? ⟨eb, 0, none⟩ = some (.pointer (some ⟨p, 0, none⟩))) (hel : eb < w.heap.size) :
    PredAt Try.prog 97 #[.pointer (some ⟨eb, 0, none⟩)] (encL (V := V)) (fun y => !decide (-y.1 ∈ tr)) w := fun W x hb => by
  obtain ⟨x, h0, hx⟩ := x
  have hc : W.cell? ⟨eb, 0, none⟩ = some (.pointer (some ⟨p, 0, none⟩)) := (hb.cell (p := ⟨eb, 0, none⟩) hel).trans he
  have HO := Lib.hid (h.keep (w' := W) (fun b hb1 => hb.block b hb1) hb.size)
  show Calls Try.prog 97 #[.int .i64 x, .pointer (some ⟨eb, 0, none⟩)] W fun e w' => e = .returned (.bool (!decide (-x ∈ tr))) ∧ ∃ q, w' = W.drewN q
  have hd : (!decide (-x ∈ tr)) = !decide (lv tr x = -1) := by
    rw [show decide (lv tr x = -1) = decide (-x ∈ tr) from by rw [decide_eq_decide]; exact lv_mone ht]
  rw [hd]
  have HT := Lib.hid ht
  have HX := Lib.hid (And.intro h0 hx)
  clear h ht hb he hd h0 hx
  go_enter Try.func97, Try.ntmps97
  go_wp2_with fail
  refine (of_calls HO.out HT.out HX.out.1 HX.out.2 (by omega)).mono ?_
  rintro e w2 ⟨rfl, rfl⟩
  obtain ⟨z, hz⟩ : ∃ z, lv tr x = z := ⟨_, rfl⟩
  rw [hz]
  have HZ := Lib.hid hz
  clear hz
  go_wp2
  go_ret
  exact ⟨by rw [HZ.out]; rfl, 0, rfl⟩
theorem pmap_lits {V : Nat} (l : List Int) (h : ∀ x ∈ l, x ≠ 0 ∧ x.natAbs ≤ V) : ∃ zs : List (LitV V), zs.map (·.1) = l := by
  induction l with
  | nil => exact ⟨[], rfl⟩
  | cons x l ih =>
    obtain ⟨zs, hz⟩ := ih fun y hy => h y (by simp [hy])
    exact ⟨⟨x, h x (by simp)⟩ :: zs, by rw [List.map_cons, hz]⟩
def otherZ (tr c : List Int) : Int := match other tr c with | some o => (o : Int) | none => -1
/-- the search behind the second literal, at a clause's row -/
theorem other_calls {w : World} {p V eb g cap : Nat} {tr c : List Int} (hO : OfAt w p V tr) (ht : TrOk V tr) (hV : V ≤ 65536) (he : w.cell? ⟨eb, 0, none⟩ = some (.pointer (some ⟨p, 0, none⟩))) (hel : eb < w.heap.size)
    (hrow : w.ownsRow 0 3 1 (.slice (some ⟨g, 0, none⟩) c.length cap) c.length (iv c)) (h2 : 2 ≤ c.length) (hc : ∀ x ∈ c, x ≠ 0 ∧ x.natAbs ≤ V) (hl : c.length ≤ 1000000) {a : Addr} (ha : cap ≠ 2 → a = ⟨g, 2, none⟩) (m : Nat) (hm : m = c.length - 2) (c' : Nat) :
    Calls Try.prog 96 #[.slice (some a) m c', .func (.func 97) #[] #[.pointer (some ⟨eb, 0, none⟩)]] w fun e w' =>
      e = .returned (.int .i64 (otherZ tr c)) ∧ ∃ q, w' = w.drewN q := by
  subst hm
  unfold otherZ
  by_cases h3 : c.length = 2
  · have ho : other tr c = none := by unfold other; rw [List.drop_of_length_le (by omega)]; rfl
    rw [ho, show c.length - 2 = 0 by omega]
    have hcon := AnyE.slices_IndexFunc_empty Try.shIndexFunc (some a) c' (.func (.func 97) #[] #[.pointer (some ⟨eb, 0, none⟩)]) w
    refine hcon.mono ?_
    rintro e w' ⟨rfl, rfl⟩
    exact ⟨rfl, 0, rfl⟩
  · have hcap := owns_cap hrow
    rw [ha (by omega)]
    obtain ⟨zs, hzs⟩ := pmap_lits (V := V) (c.drop 2) fun x hx => hc x (List.mem_of_mem_drop hx)
    have hlz : zs.length = c.length - 2 := by have := congrArg List.length hzs; simpa using this
    haveI : Inhabited (LitV V) := ⟨⟨c[0], hc _ (List.getElem_mem _)⟩⟩
    have eg : ∀ args w, (callFunc 97 args).run Try.prog w = .ok (.enter 97 args) w := enters_of Try.func97 (by kernel_rfl) rfl
    have hcon := AnyE.slices_IndexFunc Try.shIndexFunc (encL (V := V)) (fun y => !decide (-y.1 ∈ tr)) 97 #[.pointer (some ⟨eb, 0, none⟩)] eg g 2 (c.length - 2) c' zs w (visit1_pred hO ht hV he hel) (by omega) (by omega) (fun j hj => by
      have hj2 : 2 + j < c.length := by omega
      rw [owns_cell hrow rfl (j := 2 + j) (u := .int .i64 c[2 + j]) (iv_get (List.getElem?_eq_getElem hj2))]
      have e1 : zs[j]?.map (·.1) = some c[2 + j] := by
        rw [← List.getElem?_map, hzs, List.getElem?_drop, List.getElem?_eq_getElem hj2]
      rw [List.getElem?_eq_getElem hj] at e1
      simp at e1
      simp [encL, hj, e1])
    change Calls Try.prog 96 _ _ _ at hcon
    refine hcon.mono ?_
    rintro e w' ⟨rfl, q, rfl⟩
    refine ⟨?_, q, rfl⟩
    rw [List.take_of_length_le (by omega), idxBy_find]
    have e2 : zs.findIdx? (fun y => !decide (-y.1 ∈ tr)) = other tr c := by
      unfold other
      rw [← hzs, List.findIdx?_map]
      rfl
    rw [e2]
end Go.Proofs.Ytjidldfnlejdhaa
end
