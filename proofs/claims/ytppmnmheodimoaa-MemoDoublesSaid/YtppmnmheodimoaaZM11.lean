/- Own texts of this claim, part 12: no condition. -/
import Derived.Test.YtppmnmheodimoaaZM9
import Derived.Test.YtppmnmheodimoaaZM10
import Derived.Test.YtppmnmheodimoaaZM4
set_option linter.unusedVariables false
set_option linter.unusedSimpArgs false
section
/- New, Kids, Data of package quad; slices.Clone of nodes. -/
namespace Go.Proofs.Ytppmnmheodimoaa
set_option linter.unusedVariables false
set_option linter.unusedSimpArgs false
open Go Go.RowKit Go.Proofs.Rg Go.Proofs.Mp Go.Proofs.Hp Go.Proofs.Qs
set_option maxHeartbeats 1000000 in
theorem New_bad (s : Int) (w : World) (h : s < 2 ∨ 8 < s) :
    Calls Try.prog 29 #[.int .i64 s] w fun e w' => e = .returned (.tuple #[.pointer none, .int .i64 2]) ∧ w = w' := by
  rcases h with h | h
  · go_enter Try.func29, Try.ntmps29
    go_wp2
    go_ret2
    exact ⟨rfl, rfl⟩
  · have h' : ¬ s < 2 := by omega
    go_enter Try.func29, Try.ntmps29
    go_wp2
    go_ret2
    exact ⟨rfl, rfl⟩
set_option maxHeartbeats 1000000 in
theorem New_ok (s : Int) (w : World) (h : 2 ≤ s) (h' : s ≤ 8) :
    Calls Try.prog 29 #[.int .i64 s] w fun e w' => ∃ b F, e = .returned (.tuple #[.pointer (some ⟨b, 0, none⟩), .int .i64 0]) ∧ StoreAt w' b s [] F ∧ Fr [] w w' ∧ ∀ x ∈ F, w.heap.size ≤ x := by
  have hmm := @run_makeMap Try.prog
  go_enter Try.func29, Try.ntmps29
  go_wp2
  go_ret2
  have hb : ((w.alloc (.map #[] 0)).alloc (.cells #[.int .i64 s, .slice none 0 0, .slice none 0 0, .map (some w.heap.size)] 107)).heap[w.heap.size + 1]? = some (.cells #[.int .i64 s, .slice none 0 0, .slice none 0 0, .map (some w.heap.size)] 107 (0, 0)) := by
    rw [hp_alloc, hp_alloc_size, if_pos rfl]
  refine ⟨w.heap.size + 1, foot (w.heap.size + 1) (.slice none 0 0) (.slice none 0 0) w.heap.size, rfl, ⟨GoodQ.nil h h', _, _, w.heap.size, ⟨hb, World.ownsRow_nil _ _ _ _, World.ownsRow_nil _ _ _ _, ?_, by omega, by simp [Value.ownBlock], by simp [Value.ownBlock], by simp [Value.ownBlock], by simp [Value.ownBlock], by simp [Value.ownBlock]⟩, rfl⟩, ((Fr.refl _ _).alloc _).alloc _, ?_⟩
  · refine (MapIs.made w).of_block ?_
    rw [hp_alloc, hp_alloc_size, if_neg (by omega)]
    rfl
  · intro x hx
    simp [foot, Value.ownBlock] at hx
    omega
/-- Kids as the list has it -/
def kidsOf (s : Int) (ns : List K4) (id : Int) : K4 × Bool := if id < s then (⟨0, 0, 0, 0⟩, false) else match ns[(id - s).toNat]? with
  | some k => (k, true)
  | none => (⟨0, 0, 0, 0⟩, false)
theorem flat_get {ns : List K4} {i : Nat} {k : K4} (h : ns[i]? = some k) : (flat ns)[4 * i]? = some (.int .i64 k.a) ∧ (flat ns)[4 * i + 1]? = some (.int .i64 k.b) ∧ (flat ns)[4 * i + 2]? = some (.int .i64 k.c) ∧ (flat ns)[4 * i + 3]? = some (.int .i64 k.d) := by
  induction ns generalizing i with
  | nil => simp at h
  | cons x ns ih =>
    cases i with
    | zero => simp at h; subst h; simp [flat]
    | succ i =>
      simp at h
      have := ih h
      rw [show 4 * (i + 1) = 4 * i + 4 by omega]
      simpa [flat] using this
theorem flat_length (ns : List K4) : (flat ns).length = ns.length * 4 := by
  induction ns with
  | nil => rfl
  | cons x ns ih => simp [flat] at ih ⊢; omega
theorem lvl_pos {s : Int} {ns : List K4} (h : GoodQ s ns) {i : Nat} {k : K4} (hi : ns[i]? = some k) : ∃ l, (levs s ns)[i]? = some l ∧ 1 ≤ l ∧ l ≤ 256 ∧ l = lvl s (levs s (ns.take i)) k.a + 1 := by
  have hlt : i < ns.length := (List.getElem?_eq_some_iff.1 hi).1
  have hf := h.2.2.2.2 i k hi
  have ht : ns.take (i + 1) = ns.take i ++ [k] := by rw [List.take_add_one, hi]; rfl
  have h1 : (levs s ns).take (i + 1) = levs s (ns.take i) ++ [lvl s (levs s (ns.take i)) k.a + 1] := by rw [levs_take, ht, levs_snoc]
  have h2 : (levs s ns)[i]? = some (lvl s (levs s (ns.take i)) k.a + 1) := by
    have := congrArg (fun l : List Int => l[i]?) h1
    simp only [List.getElem?_take, Nat.lt_succ_self, if_true] at this
    have hln : (levs s (ns.take i)).length = i := by rw [levs_length, List.length_take]; omega
    rw [this, List.getElem?_append_right (by omega), hln]
    simp
  exact ⟨_, h2, by have := hf.1; omega, by have := hf.2.1; omega, rfl⟩
set_option maxHeartbeats 1000000 in
theorem Kids_no (b : Nat) (id l : Int) (w : World) (hl : l < 1) (hL : ∀ w1, Fr [] w w1 → Calls Try.prog 25 #[.pointer (some ⟨b, 0, none⟩), .int .i64 id] w1 fun e w' => e = .returned (.int .i64 l) ∧ Drew w1 w') :
    Calls Try.prog 83 #[.pointer (some ⟨b, 0, none⟩), .int .i64 id] w fun e w' => e = .returned (.tuple #[.agg #[.int .i64 0, .int .i64 0, .int .i64 0, .int .i64 0], .bool false]) ∧ Fr [] w w' := by
  go_enter Try.func83, Try.ntmps83
  go_wp2_with fail
  refine (hL _ ?_).mono ?_
  · repeat (first | exact Fr.refl _ _ | apply Fr.drewN | apply Fr.drew | apply Fr.alloc)
  rintro e w' ⟨rfl, n1, rfl⟩
  go_wp2
  exact bodyPost_ret (v := .tuple #[.agg #[.int .i64 0, .int .i64 0, .int .i64 0, .int .i64 0], .bool false]) (by simp [results, Try.results83, go_sem]) rfl
    ⟨rfl, by repeat (first | exact Fr.refl _ _ | apply Fr.drewN | apply Fr.drew | apply Fr.alloc | refine Fr.setCell ?_ (Or.inr (by simp)) _)⟩
set_option maxHeartbeats 1000000 in
theorem Kids_yes (b : Nat) (s l : Int) (i : Nat) (n nc g : Nat) (k : K4) (w : World) (hl : 1 ≤ l) (hb : b < w.heap.size) (hg : g < w.heap.size) (h0 : w.cell? ⟨b, 0, none⟩ = some (.int .i64 s)) (h1 : w.cell? ⟨b, 1, none⟩ = some (.slice (some ⟨g, 0, none⟩) n nc))
    (_ : 0 ≤ s) (_ : s ≤ 8) (hn : n ≤ 1048576) (hi : i < n)
    (e0 : w.cell? ⟨g, i * 4, none⟩ = some (.int .i64 k.a)) (e1 : w.cell? ⟨g, i * 4 + 1, none⟩ = some (.int .i64 k.b)) (e2 : w.cell? ⟨g, i * 4 + 2, none⟩ = some (.int .i64 k.c)) (e3 : w.cell? ⟨g, i * 4 + 3, none⟩ = some (.int .i64 k.d))
    (hL : ∀ w1, Fr [] w w1 → Calls Try.prog 25 #[.pointer (some ⟨b, 0, none⟩), .int .i64 (s + i)] w1 fun e w' => e = .returned (.int .i64 l) ∧ Drew w1 w') :
    Calls Try.prog 83 #[.pointer (some ⟨b, 0, none⟩), .int .i64 (s + i)] w fun e w' => e = .returned (.tuple #[kv k, .bool true]) ∧ Fr [] w w' := by
  have hw1 : IntKind.i64.wrap (s + ↑i - s) = ↑i := IntWalk.i64_in _ (by omega) |>.trans (by omega)
  unfold kv
  go_enter Try.func83, Try.ntmps83
  go_wp2_with fail
  refine (hL _ ?_).mono ?_
  · repeat (first | exact Fr.refl _ _ | apply Fr.drewN | apply Fr.drew | apply Fr.alloc)
  rintro e w' ⟨rfl, n1, rfl⟩
  go_wp2
  refine wp_region_text (by kernel_rfl) (by kernel_rfl) ?_
  go_wp2
  refine Strict.intro rfl ?_
  go_wp2
  exact bodyPost_ret (v := .tuple #[.agg #[.int .i64 k.a, .int .i64 k.b, .int .i64 k.c, .int .i64 k.d], .bool true]) (by simp [results, Try.results83, go_sem]) rfl
    ⟨rfl, by repeat (first | exact Fr.refl _ _ | apply Fr.drewN | apply Fr.drew | apply Fr.alloc | refine Fr.setCell ?_ (Or.inr (by simp)) _)⟩
theorem lvl_far {s : Int} {ns : List K4} {id : Int} (hs : 0 ≤ s) (h : s + ns.length ≤ id) : lvl s (levs s ns) id = -1 := by
  unfold lvl
  rw [if_neg (by omega), if_neg (by omega), List.getD_eq_getElem?_getD, List.getElem?_eq_none (by rw [levs_length]; omega)]
  rfl
theorem Kids_calls {w : World} {b : Nat} {s : Int} {ns : List K4} {F : List Nat} (hS : StoreAt w b s ns F) (id : Int) :
    Calls Try.prog 83 #[.pointer (some ⟨b, 0, none⟩), .int .i64 id] w fun e w' => e = .returned (.tuple #[kv (kidsOf s ns id).1, .bool (kidsOf s ns id).2]) ∧ Fr [] w w' := by
  have hL : ∀ w1, Fr [] w w1 → Calls Try.prog 25 #[.pointer (some ⟨b, 0, none⟩), .int .i64 id] w1 fun e w' => e = .returned (.int .i64 (lvl s (levs s ns) id)) ∧ Drew w1 w' := fun w1 hf => Level_calls (hS.fr hf (by simp)) id
  obtain ⟨hgood, nv, lv, mb, hI, rfl⟩ := hS
  have hs : 2 ≤ s := hgood.1
  unfold kidsOf
  by_cases hst : id < s
  · rw [if_pos hst]
    refine Kids_no b id _ w ?_ hL
    unfold lvl
    by_cases h : id < 0
    · rw [if_pos h]; omega
    · rw [if_neg h, if_pos hst]; omega
  · rw [if_neg hst]
    by_cases hfar : s + ns.length ≤ id
    · rw [List.getElem?_eq_none (by omega)]
      exact Kids_no b id _ w (by rw [lvl_far (by omega) hfar]; omega) hL
    · obtain ⟨i, rfl⟩ : ∃ i : Nat, id = s + i := ⟨(id - s).toNat, by omega⟩
      have hi : i < ns.length := by omega
      rw [show (s + (i : Int) - s).toNat = i by omega, List.getElem?_eq_getElem hi]
      obtain ⟨l, hl, hl1, _, _⟩ := lvl_pos hgood (List.getElem?_eq_getElem hi)
      have hlv : lvl s (levs s ns) (s + i) = l := by
        unfold lvl
        rw [if_neg (by omega), if_neg (by omega), show (s + (i : Int) - s).toNat = i by omega, List.getD_eq_getElem?_getD, hl]; rfl
      rw [hlv] at hL
      obtain ⟨na, nc, rfl, hna, _⟩ := owns_form hI.nodes
      obtain ⟨g, rfl⟩ := hna (by omega)
      obtain ⟨f0, f1, f2, f3⟩ := flat_get (List.getElem?_eq_getElem hi)
      rw [Nat.mul_comm] at f0 f1 f2 f3
      exact Kids_yes b s l i ns.length nc g _ w hl1 (lt_of_block hI.blk) (owns_lt hI.nodes rfl) (heap_eq_cell hI.blk 0) (heap_eq_cell hI.blk 1) (by omega) hgood.2.1 (by have := hgood.2.2.1; omega) hi
        (owns_cell hI.nodes rfl f0) (owns_cell hI.nodes rfl f1) (owns_cell hI.nodes rfl f2) (owns_cell hI.nodes rfl f3) hL
set_option maxHeartbeats 1000000 in
theorem Clone_nil (n c : Nat) (w : World) :
    Calls Try.prog 59 #[.slice none n c] w fun e w' => e = .returned (.slice none 0 0) ∧ w = w' := by
  have h1 := fun w : World => Lib.run_eql_slice_nil (P := Try.prog) w 37 77 none n c 0 0 Try.underlying37
  go_enter Try.func59, Try.ntmps59
  go_wp2
  go_ret
  exact ⟨rfl, rfl⟩
/-- what Clone leaves: a slice of its own -/
def ClonePost (w : World) (n : Nat) (xs : List Value) (e : Ending) (w' : World) : Prop := ∃ v, e = .returned v ∧ w'.ownsRow w.heap.size 77 4 v n xs ∧ Fr [] w w'
set_option maxHeartbeats 1000000 in
theorem Clone_some (g off n c : Nat) (xs : List Value) (w : World) (hx : xs.length = n * 4) (hc : ∀ j u, xs[j]? = some u → w.cell? ⟨g, off + j, none⟩ = some u) (h1 : ∀ u ∈ xs, u.oneCell' = true) (hn : n ≤ 4398046511096) (hg : g < w.heap.size) :
    Calls Try.prog 59 #[.slice (some ⟨g, off, none⟩) n c] w (ClonePost w n xs) := by
  have hnil := fun w : World => Lib.run_eql_slice_nil (P := Try.prog) w 37 77 (some ⟨g, off, none⟩) n c 0 0 Try.underlying37
  obtain ⟨i0, hi0, hi1, hi2, hi3⟩ := info_parts info_quad
  have Hx := Lib.hid hx
  have Hc := Lib.hid hc
  have H1 := Lib.hid h1
  clear hx hc h1
  go_enter Try.func59, Try.ntmps59
  go_wp2_with (at_builtin; refine wpList_append_own_at _ rfl _ _ 37 rfl w.heap.size 77 i0 _ 4 32 Try.underlying37 hi0 hi1 hi2 hi3 rfl (by decide) _ 0 [] rfl ?e1 ⟨g, off, none⟩ n c xs rfl Hx.out ?e2 H1.out ?e3 ?e4 ?e5 ?_)
  case e1 => exact ⟨rfl, .inr ⟨w.heap.size, 0, #[], rfl, Nat.le_refl _, by rw [hp_alloc, if_pos rfl], Nat.le_refl _, Nat.zero_le _, rfl, rfl⟩⟩
  case e2 =>
    intro j u hj
    have := Hc.out j u hj
    have ha : (⟨g, off, none⟩ : Addr).add j = ⟨g, off + j, none⟩ := by
      unfold Addr.add
      split
      · rename_i h0; rw [h0]; rfl
      · rfl
    rw [ha, World.cell?_alloc_past _ _ _ hg]
    exact this
  case e3 => unfold maxLen; omega
  case e4 => omega
  case e5 => rw [hp_alloc_size]; omega
  intro v' w1 hown hgrow _ hloc
  try simp only [Nat.zero_add, List.nil_append] at hown
  go_wp2
  go_ret
  exact ⟨v', rfl, hown, ((Fr.refl _ _).alloc _).grown hgrow (by intro x hx; simp [Value.ownBlock] at hx; omega)⟩
theorem flat_one (ns : List K4) : ∀ u ∈ flat ns, u.oneCell' = true := by
  intro u hu
  simp only [flat, List.mem_flatMap] at hu
  obtain ⟨k, _, hk⟩ := hu
  simp at hk
  rcases hk with rfl | rfl | rfl | rfl <;> rfl
set_option maxHeartbeats 1000000 in
theorem Data_calls {w : World} {b : Nat} {s : Int} {ns : List K4} {F : List Nat} (hS : StoreAt w b s ns F) :
    Calls Try.prog 35 #[.pointer (some ⟨b, 0, none⟩)] w fun e w' => ∃ v, e = .returned (.agg #[.int .i64 s, v]) ∧ w'.ownsRow w.heap.size 77 4 v ns.length (flat ns) ∧ Fr [] w w' := by
  obtain ⟨hgood, nv, lv, mb, hI, rfl⟩ := hS
  have hC : ∀ w1, Fr [] w w1 → Calls Try.prog 59 #[nv] w1 (ClonePost w1 ns.length (flat ns)) := fun w1 hf => by
    obtain ⟨na, nc, rfl, _, hnone⟩ := owns_form hI.nodes
    have hI1 := hI.keep fun x hx => hf.block x (hI.lt x hx) (by simp)
    rcases hI.nodes.2 with ⟨h, h0⟩ | ⟨g, cap, cur, h, _⟩
    · simp only [Value.slice.injEq] at h
      obtain ⟨rfl, _, rfl⟩ := h
      refine (Clone_nil _ _ w1).mono ?_
      rintro e w' ⟨rfl, rfl⟩
      have : ns = [] := List.eq_nil_of_length_eq_zero h0
      subst this
      exact ⟨_, rfl, World.ownsRow_nil _ _ _ _, Fr.refl _ _⟩
    · simp only [Value.slice.injEq] at h
      obtain ⟨rfl, _, rfl⟩ := h
      exact Clone_some g 0 ns.length _ _ w1 (flat_length ns) (fun j u hj => by rw [Nat.zero_add]; exact owns_cell hI1.nodes rfl hj) (flat_one ns) (by have := hgood.2.2.1; omega) (owns_lt hI1.nodes rfl)
  have h0 := heap_eq_cell hI.blk 0
  have h1 := heap_eq_cell hI.blk 1
  have hb := lt_of_block hI.blk
  have HI := Lib.hid hI
  clear hI
  obtain ⟨na, nc, rfl, _, _⟩ := owns_form HI.out.nodes
  go_enter Try.func35, Try.ntmps35
  go_wp2
  refine wp_region_segs [([0, 1, 2, 3, 4, 5, 6, 7, 8], [3]), ([9, 10], [])] (by kernel_rfl) (by kernel_rfl) ?_
  simp only [wpSegs, pick, Array.getD_eq_getD_getElem?, List.getElem?_toArray, List.getElem?_cons_succ, List.getElem?_cons_zero, Option.getD_some]
  go_wp2_with fail
  refine (hC _ ?_).mono ?_
  · repeat (first | exact Fr.refl _ _ | apply Fr.drewN | apply Fr.drew | apply Fr.alloc)
  rintro e w1 ⟨v, rfl, hown, hf⟩
  have hfw : Fr [] w w1 := (((Fr.refl _ _).alloc _).drew).trans0 hf
  have c0 : w1.cell? ⟨b, 0, none⟩ = some (.int .i64 s) := (hfw.cell (p := ⟨b, 0, none⟩) hb (by simp)).trans h0
  have hl : w1.heap[w.heap.size]? = some (.cells #[.int .i64 0, .slice none 0 0] 39 (0, 0)) := (hf.block _ (by rw [hp_drew, hp_alloc_size]; omega) (by simp)).trans (by rw [hp_drew, hp_alloc, if_pos rfl])
  have l0 := heap_eq_cell hl 0
  have l1 := heap_eq_cell hl 1
  have g0 := heap_eq_frozen hl 0
  have g1 := heap_eq_frozen hl 1
  obtain ⟨va, vc, rfl, hva, hvn⟩ := owns_form hown
  have hne : (Value.slice va ns.length vc).ownBlock ≠ some w.heap.size := fun e => by
    have := owns_ge hown e; rw [hp_drew, hp_alloc_size] at this; omega
  have Hown := Lib.hid hown
  have Hne := Lib.hid hne
  have Hf := Lib.hid hfw
  have Hl := Lib.hid hl
  clear hown hva hvn hf hfw hl hne
  go_wp2
  refine Mid.intro ⟨⟨again_cell (T := 3) rfl rfl rfl Try.underlying3 rfl c0 rfl, trivial⟩, ?_⟩
  go_wp2
  refine Mid.intro ⟨trivial, Strict.intro rfl ?_⟩
  go_wp2
  exact bodyPost_ret (v := .agg #[.int .i64 s, .slice va ns.length vc]) (by simp [results, Try.results35, go_sem, l0, l1]) rfl
    ⟨_, rfl, owns_of_block (base := w.heap.size) (owns_base Hown.out (by rw [hp_drew, hp_alloc_size]; omega)) fun x hx => heap_setCell2 _ _ _ _ _ _ (fun e => Hne.out (by rw [hx, e])), by repeat (first | exact Hf.out | apply Fr.drewN | apply Fr.drew | apply Fr.alloc | refine Fr.setCell ?_ (Or.inr (by simp)) _)⟩
end Go.Proofs.Ytppmnmheodimoaa
end

section
/- The reference of layer 25: level, find. -/
namespace Go.Proofs.Ytppmnmheodimoaa
set_option linter.unusedVariables false
set_option linter.unusedSimpArgs false
open Go Go.RowKit Go.Proofs.Rg Go.Proofs.Mp Go.Proofs.Hp Go.Proofs.Qs
theorem lvl_known {s : Int} {ls : List Int} {id : Int} (h : 0 ≤ lvl s ls id) : 0 ≤ id ∧ id < s + ls.length ∨ 0 ≤ id ∧ id < s := by
  unfold lvl at h
  by_cases h1 : id < 0
  · rw [if_pos h1] at h; omega
  · rw [if_neg h1] at h
    by_cases h2 : id < s
    · right; omega
    · rw [if_neg h2] at h
      left
      refine ⟨by omega, ?_⟩
      rcases Nat.lt_or_ge (id - s).toNat ls.length with h3 | h3
      · omega
      · rw [List.getD_eq_getElem?_getD, List.getElem?_eq_none h3] at h
        simp at h
theorem lvl_take {s : Int} {ns : List K4} {i : Nat} {id : Int} (_ : i ≤ ns.length) (h : id < s + i) : lvl s (levs s (ns.take i)) id = lvl s (levs s ns) id := by
  unfold lvl
  by_cases h1 : id < 0
  · rw [if_pos h1, if_pos h1]
  · rw [if_neg h1, if_neg h1]
    by_cases h2 : id < s
    · rw [if_pos h2, if_pos h2]
    · rw [if_neg h2, if_neg h2, ← levs_take, List.getD_eq_getElem?_getD, List.getD_eq_getElem?_getD, List.getElem?_take, if_pos (by omega)]
/-- the first quadrant of a node: known, and one level below -/
theorem kid_down {s : Int} {ns : List K4} (h : GoodQ s ns) {j : Nat} {k : K4} (hj : ns[j]? = some k) : 0 ≤ k.a ∧ k.a < s + j ∧ lvl s (levs s ns) (s + j) = lvl s (levs s ns) k.a + 1 := by
  have hs : 2 ≤ s := h.1
  have hlt : j < ns.length := (List.getElem?_eq_some_iff.1 hj).1
  obtain ⟨l, hl, _, _, he⟩ := lvl_pos h hj
  have hf := (h.2.2.2.2 j k hj).1
  have hk := lvl_known hf
  have hlen : (levs s (ns.take j)).length = j := by rw [levs_length, List.length_take]; omega
  have hka : 0 ≤ k.a ∧ k.a < s + j := by omega
  refine ⟨hka.1, hka.2, ?_⟩
  rw [← lvl_take (by omega) hka.2, ← he]
  unfold lvl
  rw [if_neg (by omega), if_neg (by omega), show (s + (j : Int) - s).toNat = j by omega, List.getD_eq_getElem?_getD, hl]
  rfl
set_option maxHeartbeats 2000000 in
theorem level_ref {w : World} {s : Int} {ns : List K4} {v : Value} (hG : GoodQ s ns) (hv : Reads w v ns.length 4 (flat ns)) (id : Int) :
    Calls Try.prog 65 #[.agg #[.int .i64 s, v], .int .i64 id] w fun e w' => e = .returned (.int .i64 (lvl s (levs s ns) id)) ∧ ∃ o, w' = w.alloc o := by
  have hs1 := hG.1
  have hs2 := hG.2.1
  have hlen := hG.2.2.1
  have hln := levs_length s ns
  obtain ⟨_, a, c, rfl, hav⟩ := hv
  have hl : ns.length ≤ 1048576 := by omega
  by_cases hneg : id < 0
  · have e : lvl s (levs s ns) id = -1 := by unfold lvl; rw [if_pos hneg]
    rw [e]
    have hd : decide (id < 0) = true := by simpa using hneg
    clear hav hln hlen hG
    go_enter Try.func65, Try.ntmps65
    go_wp2
    go_ret
    exact ⟨rfl, _, rfl⟩
  · by_cases hfar : s + ns.length ≤ id
    · rw [lvl_far (by omega) hfar]
      have hd : decide (id < 0) = false := by simp; omega
      clear hav hln hlen hG
      go_enter Try.func65, Try.ntmps65
      go_wp2
      go_ret
      exact ⟨rfl, _, rfl⟩
    · have hd : decide (id < 0) = false := by simp; omega
      have Hav := Lib.hid hav
      have Hln := Lib.hid hln
      clear hav hln hlen
      go_enter Try.func65, Try.ntmps65
      go_wp2
      go_loop [1, 5] (fun x y => ∃ (i : Int) (n : Nat), x = .int .i64 i ∧ y = .int .i64 n ∧ 0 ≤ i ∧ i < s + ns.length ∧ n + i.toNat ≤ id.toNat ∧ lvl s (levs s ns) i + n = lvl s (levs s ns) id) (fun x _ => (intOf x).toNat)
      case atStart => exact ⟨id, 0, rfl, rfl, by omega, by omega, by omega, by omega⟩
      case round =>
        obtain ⟨i, n, rfl, rfl, hi0, hi1, hn, hL⟩ := hrel
        have HL := Lib.hid hL
        clear hL
        by_cases hge : s ≤ i
        · obtain ⟨j, rfl⟩ : ∃ j : Nat, i = s + j := ⟨(i - s).toNat, by omega⟩
          have hj : j < ns.length := by omega
          obtain ⟨g, off, rfl, hg, hc⟩ := Hav.out (by omega)
          have hk := kid_down hG (List.getElem?_eq_getElem hj)
          have hcell : w.cell? ⟨g, off + j * 4, none⟩ = some (.int .i64 (ns[j]).a) := hc _ _ (by rw [Nat.mul_comm]; exact (flat_get (List.getElem?_eq_getElem hj)).1)
          have hw1 : IntKind.i64.wrap (s + ↑j - s) = ↑j := IntWalk.i64_in _ (by omega) |>.trans (by omega)
          obtain ⟨k, hkk⟩ : ∃ k, k = (ns[j]).a := ⟨_, rfl⟩
          rw [← hkk] at hcell hk
          have Hk := Lib.hid hk
          have hk0 := hk.1
          have hk1 := hk.2.1
          clear hk hkk hc
          go_wp2
          go_round
          case rel => exact ⟨k, n + 1, rfl, by go_num, hk0, by omega, by omega, by have := Hk.out.2.2; have := HL.out; omega⟩
          case measure => simp [intOf]; omega
        · go_wp2
          go_ret
          refine ⟨?_, _, rfl⟩
          have h0 : lvl s (levs s ns) i = 0 := by unfold lvl; rw [if_neg (by omega), if_pos (by omega)]
          have := HL.out
          rw [show lvl s (levs s ns) id = n by omega]
          rfl
/-- what find returns -/
def findR (ns : List K4) (k : K4) : Int := match ns.idxOf? k with
  | some i => i
  | none => -1
theorem findR_at {ns : List K4} {k : K4} {i : Nat} (hi : i < ns.length) (he : ns[i] = k) (hn : ∀ j (h : j < ns.length), j < i → ns[j] ≠ k) : findR ns k = i := by
  have : ns.idxOf? k = some i := by
    rw [List.idxOf?_eq_some_iff]
    exact ⟨hi, he, fun j hj => hn j (by omega) hj⟩
  unfold findR; rw [this]
theorem findR_none {ns : List K4} {k : K4} (hn : ∀ j (h : j < ns.length), ns[j] ≠ k) : findR ns k = -1 := by
  have : ns.idxOf? k = none := by
    rw [List.idxOf?_eq_none_iff]
    intro hm
    obtain ⟨j, hj, e⟩ := List.getElem_of_mem hm
    exact hn j hj e
  unfold findR; rw [this]
set_option maxHeartbeats 2000000 in
theorem find_ref {w : World} {s : Int} {ns : List K4} {v : Value} (hl : ns.length ≤ 1048576) (hv : Reads w v ns.length 4 (flat ns)) (l : K4) :
    Calls Try.prog 66 #[.agg #[.int .i64 s, v], kv l] w fun e w' => e = .returned (.int .i64 (findR ns l)) ∧ ∃ o1 o2 n, w' = ((w.alloc o1).alloc o2).drewN n := by
  obtain ⟨_, a, c, rfl, hav⟩ := hv
  have Hav := Lib.hid hav
  clear hav
  unfold kv
  go_enter Try.func66, Try.ntmps66
  go_wp2
  go_loopw [5] (fun x wr => ∃ (k m : Nat), x = .int .i64 k ∧ k ≤ ns.length ∧ (∀ j (h : j < ns.length), j < k → ns[j] ≠ l) ∧ wr = (((w.alloc (.cells #[.int .i64 s, .slice a ns.length c] 39)).alloc (.cells #[.int .i64 l.a, .int .i64 l.b, .int .i64 l.c, .int .i64 l.d] 75))).drewN m) (fun x _ => ns.length - (intOf x).toNat)
  case atStart => exact ⟨0, 0, rfl, by omega, by omega, rfl⟩
  case round =>
    obtain ⟨k, m, rfl, hk, hn, rfl⟩ := hrel
    have Hn := Lib.hid hn
    clear hn
    by_cases hlt : k < ns.length
    · obtain ⟨g, off, rfl, hg, hc⟩ := Hav.out (by omega)
      obtain ⟨f0, f1, f2, f3⟩ := flat_get (List.getElem?_eq_getElem hlt)
      rw [Nat.mul_comm] at f0 f1 f2 f3
      obtain ⟨x, hx⟩ : ∃ x, x = ns[k] := ⟨_, rfl⟩
      rw [← hx] at f0 f1 f2 f3
      have e0 := hc _ _ f0
      have e1 := hc _ _ f1
      have e2 := hc _ _ f2
      have e3 := hc _ _ f3
      simp only [← Nat.add_assoc] at e1 e2 e3
      have Hx := Lib.hid hx
      clear hx hc f0 f1 f2 f3
      by_cases hxl : x.a = l.a ∧ x.b = l.b ∧ x.c = l.c ∧ x.d = l.d
      · have hq : (x.a == l.a && (x.b == l.b && (x.c == l.c && x.d == l.d))) = true := by simpa using hxl
        have Hxl := Lib.hid hxl
        clear hxl
        go_wp2
        refine wp_region_text (by kernel_rfl) (by kernel_rfl) ?_
        go_wp2
        refine Strict.intro rfl ?_
        go_wp2
        go_ret
        refine ⟨?_, _, _, m + 1, rfl⟩
        have hx := Hx.out
        have : findR ns l = k := findR_at hlt (by rw [← hx]; obtain ⟨h1, h2, h3, h4⟩ := Hxl.out; cases x; cases l; simp_all) Hn.out
        rw [this]
        rfl
      · have hq : (x.a == l.a && (x.b == l.b && (x.c == l.c && x.d == l.d))) = false := by rw [Bool.eq_false_iff]; intro h; apply hxl; simpa using h
        have Hxl := Lib.hid hxl
        clear hxl
        go_wp2
        refine wp_region_text (by kernel_rfl) (by kernel_rfl) ?_
        go_wp2
        refine Strict.intro rfl ?_
        go_wp2
        go_roundw
        case rel =>
          refine ⟨k + 1, m + 1, by go_num, by omega, fun j hj hjk => ?_, rfl⟩
          rcases Nat.lt_or_ge j k with h | h
          · exact Hn.out j hj h
          · obtain rfl : j = k := by omega
            intro e
            have hx := Hx.out
            rw [e] at hx
            exact Hxl.out (by rw [hx]; exact ⟨rfl, rfl, rfl, rfl⟩)
        case measure => simp [intOf]; omega
    · go_wp2
      go_ret
      refine ⟨?_, _, _, m, rfl⟩
      have : findR ns l = -1 := findR_none fun j hj => Hn.out j hj (by omega)
      rw [this]
      rfl
/-- what copied leaves -/
def sameQ (s1 s2 : Int) (n1 n2 : List K4) : Bool := s1 == s2 && decide (n1 = n2)
end Go.Proofs.Ytppmnmheodimoaa
end
