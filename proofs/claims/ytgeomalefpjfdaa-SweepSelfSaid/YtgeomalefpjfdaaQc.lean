/- New, Kids, Data of package quad; slices.Clone of nodes. -/
import Derived.Test.YtgeomalefpjfdaaQb
import Derived.Test.YtgeomalefpjfdaaRgE
namespace Go.Proofs.Ytgeomalefpjfdaa
open Go Go.RowKit Go.Proofs.Rg Go.Proofs.Mp Go.Proofs.Hp Go.Proofs.Qs
set_option maxHeartbeats 1000000 in
theorem New_bad (s : Int) (w : World) (h : s < 2 ∨ 8 < s) :
    Calls Try.prog 27 #[.int .i64 s] w fun e w' => e = .returned (.tuple #[.pointer none, .int .i64 2]) ∧ w = w' := by
  rcases h with h | h
  · go_enter Try.func27, Try.ntmps27
    go_wp2
    go_ret2
    exact ⟨rfl, rfl⟩
  · have h' : ¬ s < 2 := by omega
    go_enter Try.func27, Try.ntmps27
    go_wp2
    go_ret2
    exact ⟨rfl, rfl⟩
set_option maxHeartbeats 1000000 in
theorem New_ok (s : Int) (w : World) (h : 2 ≤ s) (h' : s ≤ 8) :
    Calls Try.prog 27 #[.int .i64 s] w fun e w' => ∃ b F, e = .returned (.tuple #[.pointer (some ⟨b, 0, none⟩), .int .i64 0]) ∧ StoreAt w' b s [] F ∧ Fr [] w w' ∧ ∀ x ∈ F, w.heap.size ≤ x := by
  have hmm := @run_makeMap Try.prog
  go_enter Try.func27, Try.ntmps27
  go_wp2
  go_ret2
  have hb : ((w.alloc (.map #[] 0)).alloc (.cells #[.int .i64 s, .slice none 0 0, .slice none 0 0, .map (some w.heap.size)] 65)).heap[w.heap.size + 1]? = some (.cells #[.int .i64 s, .slice none 0 0, .slice none 0 0, .map (some w.heap.size)] 65 (0, 0)) := by
    rw [hp_alloc, hp_alloc_size, if_pos rfl]
  refine ⟨w.heap.size + 1, foot (w.heap.size + 1) (.slice none 0 0) (.slice none 0 0) w.heap.size, rfl, ⟨GoodQ.nil h h', _, _, w.heap.size, ⟨hb, World.ownsRow_nil _ _ _ _, World.ownsRow_nil _ _ _ _, ?_, by omega, by simp [Value.ownBlock], by simp [Value.ownBlock], by simp [Value.ownBlock], by simp [Value.ownBlock], by simp [Value.ownBlock]⟩, rfl⟩, ((Fr.refl _ _).alloc _).alloc _, ?_⟩
  · refine (MapIs.made w).of_block ?_
    rw [hp_alloc, hp_alloc_size, if_neg (by omega)]
    rfl
  · intro x hx
    simp [foot, Value.ownBlock] at hx
    omega
/-- Kids as the list has it -/
def kidsOf (s : Int) (ns : List K4) (id : Int) : K4 × Bool := if id < s then (⟨0, 0, 0, 0⟩, false) else match ns[(id - s).toNat]? with
  | some k => (k, true)
  | none => (⟨0, 0, 0, 0⟩, false)
theorem flat_get {ns : List K4} {i : Nat} {k : K4} (h : ns[i]? = some k) : (flat ns)[4 * i]? = some (.int .i64 k.a) ∧ (flat ns)[4 * i + 1]? = some (.int .i64 k.b) ∧ (flat ns)[4 * i + 2]? = some (.int .i64 k.c) ∧ (flat ns)[4 * i + 3]? = some (.int .i64 k.d) := by
  induction ns generalizing i with
  | nil => simp at h
  | cons x ns ih =>
    cases i with
    | zero => simp at h; subst h; simp [flat]
    | succ i =>
      simp at h
      have := ih h
      rw [show 4 * (i + 1) = 4 * i + 4 by omega]
      simpa [flat] using this
theorem flat_length (ns : List K4) : (flat ns).length = ns.length * 4 := by
  induction ns with
  | nil => rfl
  | cons x ns ih => simp [flat] at ih ⊢; omega
theorem lvl_pos {s : Int} {ns : List K4} (h : GoodQ s ns) {i : Nat} {k : K4} (hi : ns[i]? = some k) : ∃ l, (levs s ns)[i]? = some l ∧ 1 ≤ l ∧ l ≤ 256 ∧ l = lvl s (levs s (ns.take i)) k.a + 1 := by
  have hlt : i < ns.length := (List.getElem?_eq_some_iff.1 hi).1
  have hf := h.2.2.2.2 i k hi
  have ht : ns.take (i + 1) = ns.take i ++ [k] := by rw [List.take_add_one, hi]; rfl
  have h1 : (levs s ns).take (i + 1) = levs s (ns.take i) ++ [lvl s (levs s (ns.take i)) k.a + 1] := by rw [levs_take, ht, levs_snoc]
  have h2 : (levs s ns)[i]? = some (lvl s (levs s (ns.take i)) k.a + 1) := by
    have := congrArg (fun l : List Int => l[i]?) h1
    simp only [List.getElem?_take, Nat.lt_succ_self, if_true] at this
    have hln : (levs s (ns.take i)).length = i := by rw [levs_length, List.length_take]; omega
    rw [this, List.getElem?_append_right (by omega), hln]
    simp
  exact ⟨_, h2, by have := hf.1; omega, by have := hf.2.1; omega, rfl⟩
set_option maxHeartbeats 1000000 in
theorem Kids_no (b : Nat) (id l : Int) (w : World) (hl : l < 1) (hL : ∀ w1, Fr [] w w1 → Calls Try.prog 19 #[.pointer (some ⟨b, 0, none⟩), .int .i64 id] w1 fun e w' => e = .returned (.int .i64 l) ∧ Drew w1 w') :
    Calls Try.prog 32 #[.pointer (some ⟨b, 0, none⟩), .int .i64 id] w fun e w' => e = .returned (.tuple #[.agg #[.int .i64 0, .int .i64 0, .int .i64 0, .int .i64 0], .bool false]) ∧ Fr [] w w' := by
  go_enter Try.func32, Try.ntmps32
  go_wp2_with fail
  refine (hL _ ?_).mono ?_
  · repeat (first | exact Fr.refl _ _ | apply Fr.drewN | apply Fr.drew | apply Fr.alloc)
  rintro e w' ⟨rfl, n1, rfl⟩
  go_wp2
  exact bodyPost_ret (v := .tuple #[.agg #[.int .i64 0, .int .i64 0, .int .i64 0, .int .i64 0], .bool false]) (by simp [results, Try.results32, go_sem]) rfl
    ⟨rfl, by repeat (first | exact Fr.refl _ _ | apply Fr.drewN | apply Fr.drew | apply Fr.alloc | refine Fr.setCell ?_ (Or.inr (by simp)) _)⟩
set_option maxHeartbeats 1000000 in
theorem Kids_yes (b : Nat) (s l : Int) (i : Nat) (n nc g : Nat) (k : K4) (w : World) (hl : 1 ≤ l) (hb : b < w.heap.size) (hg : g < w.heap.size) (h0 : w.cell? ⟨b, 0, none⟩ = some (.int .i64 s)) (h1 : w.cell? ⟨b, 1, none⟩ = some (.slice (some ⟨g, 0, none⟩) n nc))
    (_ : 0 ≤ s) (_ : s ≤ 8) (hn : n ≤ 1048576) (hi : i < n)
    (e0 : w.cell? ⟨g, i * 4, none⟩ = some (.int .i64 k.a)) (e1 : w.cell? ⟨g, i * 4 + 1, none⟩ = some (.int .i64 k.b)) (e2 : w.cell? ⟨g, i * 4 + 2, none⟩ = some (.int .i64 k.c)) (e3 : w.cell? ⟨g, i * 4 + 3, none⟩ = some (.int .i64 k.d))
    (hL : ∀ w1, Fr [] w w1 → Calls Try.prog 19 #[.pointer (some ⟨b, 0, none⟩), .int .i64 (s + i)] w1 fun e w' => e = .returned (.int .i64 l) ∧ Drew w1 w') :
    Calls Try.prog 32 #[.pointer (some ⟨b, 0, none⟩), .int .i64 (s + i)] w fun e w' => e = .returned (.tuple #[kv k, .bool true]) ∧ Fr [] w w' := by
  have hw1 : IntKind.i64.wrap (s + ↑i - s) = ↑i := IntWalk.i64_in _ (by omega) |>.trans (by omega)
  unfold kv
  go_enter Try.func32, Try.ntmps32
  go_wp2_with fail
  refine (hL _ ?_).mono ?_
  · repeat (first | exact Fr.refl _ _ | apply Fr.drewN | apply Fr.drew | apply Fr.alloc)
  rintro e w' ⟨rfl, n1, rfl⟩
  go_wp2
  refine wp_region_text (by kernel_rfl) (by kernel_rfl) ?_
  go_wp2
  refine Strict.intro rfl ?_
  go_wp2
  exact bodyPost_ret (v := .tuple #[.agg #[.int .i64 k.a, .int .i64 k.b, .int .i64 k.c, .int .i64 k.d], .bool true]) (by simp [results, Try.results32, go_sem]) rfl
    ⟨rfl, by repeat (first | exact Fr.refl _ _ | apply Fr.drewN | apply Fr.drew | apply Fr.alloc | refine Fr.setCell ?_ (Or.inr (by simp)) _)⟩
theorem lvl_far {s : Int} {ns : List K4} {id : Int} (hs : 0 ≤ s) (h : s + ns.length ≤ id) : lvl s (levs s ns) id = -1 := by
  unfold lvl
  rw [if_neg (by omega), if_neg (by omega), List.getD_eq_getElem?_getD, List.getElem?_eq_none (by rw [levs_length]; omega)]
  rfl
theorem Kids_calls {w : World} {b : Nat} {s : Int} {ns : List K4} {F : List Nat} (hS : StoreAt w b s ns F) (id : Int) :
    Calls Try.prog 32 #[.pointer (some ⟨b, 0, none⟩), .int .i64 id] w fun e w' => e = .returned (.tuple #[kv (kidsOf s ns id).1, .bool (kidsOf s ns id).2]) ∧ Fr [] w w' := by
  have hL : ∀ w1, Fr [] w w1 → Calls Try.prog 19 #[.pointer (some ⟨b, 0, none⟩), .int .i64 id] w1 fun e w' => e = .returned (.int .i64 (lvl s (levs s ns) id)) ∧ Drew w1 w' := fun w1 hf => Level_calls (hS.fr hf (by simp)) id
  obtain ⟨hgood, nv, lv, mb, hI, rfl⟩ := hS
  have hs : 2 ≤ s := hgood.1
  unfold kidsOf
  by_cases hst : id < s
  · rw [if_pos hst]
    refine Kids_no b id _ w ?_ hL
    unfold lvl
    by_cases h : id < 0
    · rw [if_pos h]; omega
    · rw [if_neg h, if_pos hst]; omega
  · rw [if_neg hst]
    by_cases hfar : s + ns.length ≤ id
    · rw [List.getElem?_eq_none (by omega)]
      exact Kids_no b id _ w (by rw [lvl_far (by omega) hfar]; omega) hL
    · obtain ⟨i, rfl⟩ : ∃ i : Nat, id = s + i := ⟨(id - s).toNat, by omega⟩
      have hi : i < ns.length := by omega
      rw [show (s + (i : Int) - s).toNat = i by omega, List.getElem?_eq_getElem hi]
      obtain ⟨l, hl, hl1, _, _⟩ := lvl_pos hgood (List.getElem?_eq_getElem hi)
      have hlv : lvl s (levs s ns) (s + i) = l := by
        unfold lvl
        rw [if_neg (by omega), if_neg (by omega), show (s + (i : Int) - s).toNat = i by omega, List.getD_eq_getElem?_getD, hl]; rfl
      rw [hlv] at hL
      obtain ⟨na, nc, rfl, hna, _⟩ := owns_form hI.nodes
      obtain ⟨g, rfl⟩ := hna (by omega)
      obtain ⟨f0, f1, f2, f3⟩ := flat_get (List.getElem?_eq_getElem hi)
      rw [Nat.mul_comm] at f0 f1 f2 f3
      exact Kids_yes b s l i ns.length nc g _ w hl1 (lt_of_block hI.blk) (owns_lt hI.nodes rfl) (heap_eq_cell hI.blk 0) (heap_eq_cell hI.blk 1) (by omega) hgood.2.1 (by have := hgood.2.2.1; omega) hi
        (owns_cell hI.nodes rfl f0) (owns_cell hI.nodes rfl f1) (owns_cell hI.nodes rfl f2) (owns_cell hI.nodes rfl f3) hL
set_option maxHeartbeats 1000000 in
theorem Clone_nil (n c : Nat) (w : World) :
    Calls Try.prog 29 #[.slice none n c] w fun e w' => e = .returned (.slice none 0 0) ∧ w = w' := by
  have h1 := fun w : World => Lib.run_eql_slice_nil (P := Try.prog) w 22 59 none n c 0 0 Try.underlying22
  go_enter Try.func29, Try.ntmps29
  go_wp2
  go_ret
  exact ⟨rfl, rfl⟩
/-- what Clone leaves: a slice of its own -/
def ClonePost (w : World) (n : Nat) (xs : List Value) (e : Ending) (w' : World) : Prop := ∃ v, e = .returned v ∧ w'.ownsRow w.heap.size 59 4 v n xs ∧ Fr [] w w'
set_option maxHeartbeats 1000000 in
theorem Clone_some (g off n c : Nat) (xs : List Value) (w : World) (hx : xs.length = n * 4) (hc : ∀ j u, xs[j]? = some u → w.cell? ⟨g, off + j, none⟩ = some u) (h1 : ∀ u ∈ xs, u.oneCell' = true) (hn : n ≤ 4398046511096) (hg : g < w.heap.size) :
    Calls Try.prog 29 #[.slice (some ⟨g, off, none⟩) n c] w (ClonePost w n xs) := by
  have hnil := fun w : World => Lib.run_eql_slice_nil (P := Try.prog) w 22 59 (some ⟨g, off, none⟩) n c 0 0 Try.underlying22
  obtain ⟨i0, hi0, hi1, hi2, hi3⟩ := info_parts info_quad
  have Hx := Lib.hid hx
  have Hc := Lib.hid hc
  have H1 := Lib.hid h1
  clear hx hc h1
  go_enter Try.func29, Try.ntmps29
  go_wp2_with (at_builtin; refine wpList_append_own_at _ rfl _ _ 22 rfl w.heap.size 59 i0 _ 4 32 Try.underlying22 hi0 hi1 hi2 hi3 rfl (by decide) _ 0 [] rfl ?e1 ⟨g, off, none⟩ n c xs rfl Hx.out ?e2 H1.out ?e3 ?e4 ?e5 ?_)
  case e1 => exact ⟨rfl, .inr ⟨w.heap.size, 0, #[], rfl, Nat.le_refl _, by rw [hp_alloc, if_pos rfl], Nat.le_refl _, Nat.zero_le _, rfl, rfl⟩⟩
  case e2 =>
    intro j u hj
    have := Hc.out j u hj
    have ha : (⟨g, off, none⟩ : Addr).add j = ⟨g, off + j, none⟩ := by
      unfold Addr.add
      split
      · rename_i h0; rw [h0]; rfl
      · rfl
    rw [ha, World.cell?_alloc_past _ _ _ hg]
    exact this
  case e3 => unfold maxLen; omega
  case e4 => omega
  case e5 => rw [hp_alloc_size]; omega
  intro v' w1 hown hgrow _ hloc
  try simp only [Nat.zero_add, List.nil_append] at hown
  go_wp2
  go_ret
  exact ⟨v', rfl, hown, ((Fr.refl _ _).alloc _).grown hgrow (by intro x hx; simp [Value.ownBlock] at hx; omega)⟩
theorem flat_one (ns : List K4) : ∀ u ∈ flat ns, u.oneCell' = true := by
  intro u hu
  simp only [flat, List.mem_flatMap] at hu
  obtain ⟨k, _, hk⟩ := hu
  simp at hk
  rcases hk with rfl | rfl | rfl | rfl <;> rfl
set_option maxHeartbeats 1000000 in
theorem Data_calls {w : World} {b : Nat} {s : Int} {ns : List K4} {F : List Nat} (hS : StoreAt w b s ns F) :
    Calls Try.prog 15 #[.pointer (some ⟨b, 0, none⟩)] w fun e w' => ∃ v, e = .returned (.agg #[.int .i64 s, v]) ∧ w'.ownsRow w.heap.size 59 4 v ns.length (flat ns) ∧ Fr [] w w' := by
  obtain ⟨hgood, nv, lv, mb, hI, rfl⟩ := hS
  have hC : ∀ w1, Fr [] w w1 → Calls Try.prog 29 #[nv] w1 (ClonePost w1 ns.length (flat ns)) := fun w1 hf => by
    obtain ⟨na, nc, rfl, _, hnone⟩ := owns_form hI.nodes
    have hI1 := hI.keep fun x hx => hf.block x (hI.lt x hx) (by simp)
    rcases hI.nodes.2 with ⟨h, h0⟩ | ⟨g, cap, cur, h, _⟩
    · simp only [Value.slice.injEq] at h
      obtain ⟨rfl, _, rfl⟩ := h
      refine (Clone_nil _ _ w1).mono ?_
      rintro e w' ⟨rfl, rfl⟩
      have : ns = [] := List.eq_nil_of_length_eq_zero h0
      subst this
      exact ⟨_, rfl, World.ownsRow_nil _ _ _ _, Fr.refl _ _⟩
    · simp only [Value.slice.injEq] at h
      obtain ⟨rfl, _, rfl⟩ := h
      exact Clone_some g 0 ns.length _ _ w1 (flat_length ns) (fun j u hj => by rw [Nat.zero_add]; exact owns_cell hI1.nodes rfl hj) (flat_one ns) (by have := hgood.2.2.1; omega) (owns_lt hI1.nodes rfl)
  have h0 := heap_eq_cell hI.blk 0
  have h1 := heap_eq_cell hI.blk 1
  have hb := lt_of_block hI.blk
  have HI := Lib.hid hI
  clear hI
  obtain ⟨na, nc, rfl, _, _⟩ := owns_form HI.out.nodes
  go_enter Try.func15, Try.ntmps15
  go_wp2
  refine wp_region_segs [([0, 1, 2, 3, 4, 5, 6, 7, 8], [3]), ([9, 10], [])] (by kernel_rfl) (by kernel_rfl) ?_
  simp only [wpSegs, pick, Array.getD_eq_getD_getElem?, List.getElem?_toArray, List.getElem?_cons_succ, List.getElem?_cons_zero, Option.getD_some]
  go_wp2_with fail
  refine (hC _ ?_).mono ?_
  · repeat (first | exact Fr.refl _ _ | apply Fr.drewN | apply Fr.drew | apply Fr.alloc)
  rintro e w1 ⟨v, rfl, hown, hf⟩
  have hfw : Fr [] w w1 := (((Fr.refl _ _).alloc _).drew).trans0 hf
  have c0 : w1.cell? ⟨b, 0, none⟩ = some (.int .i64 s) := (hfw.cell (p := ⟨b, 0, none⟩) hb (by simp)).trans h0
  have hl : w1.heap[w.heap.size]? = some (.cells #[.int .i64 0, .slice none 0 0] 24 (0, 0)) := (hf.block _ (by rw [hp_drew, hp_alloc_size]; omega) (by simp)).trans (by rw [hp_drew, hp_alloc, if_pos rfl])
  have l0 := heap_eq_cell hl 0
  have l1 := heap_eq_cell hl 1
  have g0 := heap_eq_frozen hl 0
  have g1 := heap_eq_frozen hl 1
  obtain ⟨va, vc, rfl, hva, hvn⟩ := owns_form hown
  have hne : (Value.slice va ns.length vc).ownBlock ≠ some w.heap.size := fun e => by
    have := owns_ge hown e; rw [hp_drew, hp_alloc_size] at this; omega
  have Hown := Lib.hid hown
  have Hne := Lib.hid hne
  have Hf := Lib.hid hfw
  have Hl := Lib.hid hl
  clear hown hva hvn hf hfw hl hne
  go_wp2
  refine Mid.intro ⟨⟨again_cell (T := 3) rfl rfl rfl Try.underlying3 rfl c0 rfl, trivial⟩, ?_⟩
  go_wp2
  refine Mid.intro ⟨trivial, Strict.intro rfl ?_⟩
  go_wp2
  exact bodyPost_ret (v := .agg #[.int .i64 s, .slice va ns.length vc]) (by simp [results, Try.results15, go_sem, l0, l1]) rfl
    ⟨_, rfl, owns_of_block (base := w.heap.size) (owns_base Hown.out (by rw [hp_drew, hp_alloc_size]; omega)) fun x hx => heap_setCell2 _ _ _ _ _ _ (fun e => Hne.out (by rw [hx, e])), by repeat (first | exact Hf.out | apply Fr.drewN | apply Fr.drew | apply Fr.alloc | refine Fr.setCell ?_ (Or.inr (by simp)) _)⟩
end Go.Proofs.Ytgeomalefpjfdaa
