/- Own texts of this claim, part 17: no condition. -/
import Derived.Test.YtbpaadpocihahaaZM11
import Derived.Test.YtbpaadpocihahaaZM12
import Derived.Test.YtbpaadpocihahaaZM15
set_option linter.unusedVariables false
set_option linter.unusedSimpArgs false
section
/- The reference of refute: Chosen. -/
namespace Go.Proofs.Ytbpaadpocihahaa
open Go Go.RowKit Go.Proofs.Rg Go.Proofs.Mp Go.Proofs.Hp Go.Proofs.Sv Go.Proofs.Rp
set_option linter.unusedVariables false
set_option linter.unusedSimpArgs false
/-- those whose mark is set -/
def chosen {α : Type} : List Bool → List α → List α
  | b :: K, x :: l => if b then x :: chosen K l else chosen K l
  | _, _ => []
theorem chosen_nil {α : Type} (K : List Bool) : chosen K ([] : List α) = [] := by cases K <;> rfl
theorem chosen_map {α β : Type} (f : α → β) : ∀ (K : List Bool) (l : List α), chosen K (l.map f) = (chosen K l).map f
  | [], l => rfl
  | b :: K, [] => rfl
  | b :: K, x :: l => by
    simp only [List.map_cons, chosen]
    rw [chosen_map f K l]
    cases b <;> simp
theorem chosen_mem {α : Type} {x : α} : ∀ {K : List Bool} {l : List α}, x ∈ chosen K l → x ∈ l
  | [], l, h => by cases h
  | b :: K, [], h => by cases h
  | b :: K, y :: l, h => by
    unfold chosen at h
    cases b with
    | true =>
      simp only [if_true, List.mem_cons] at h ⊢
      exact h.imp id chosen_mem
    | false =>
      simp only [Bool.false_eq_true, if_false] at h
      exact List.mem_cons_of_mem _ (chosen_mem h)
theorem chosen_next {α : Type} {x : α} {b : Bool} : ∀ {K : List Bool} {l : List α} {i : Nat}, l[i]? = some x → K[i]? = some b → chosen K (l.take (i + 1)) = chosen K (l.take i) ++ if b then [x] else []
  | [], l, i, h, k => by simp at k
  | _ :: K, [], i, h, k => by simp at h
  | c :: K, y :: l, 0, h, k => by
    simp at h k
    subst h k
    simp only [List.take_succ_cons, List.take_zero, chosen, chosen_nil]
    cases c <;> rfl
  | c :: K, y :: l, i + 1, h, k => by
    have := chosen_next (K := K) (l := l) (i := i) (by simpa using h) (by simpa using k)
    simp only [List.take_succ_cons, chosen]
    rw [this]
    cases c <;> simp
theorem chosen_len {α : Type} : ∀ (K : List Bool) (l : List α), (chosen K l).length ≤ l.length
  | [], l => Nat.zero_le _
  | b :: K, [] => Nat.zero_le _
  | b :: K, y :: l => by
    have := chosen_len K l
    unfold chosen
    split
    · simp only [List.length_cons]; omega
    · simp only [List.length_cons]; omega
theorem chosen_same {α β : Type} : ∀ (K : List Bool) (l : List α) (m : List β), l.length = m.length → (chosen K l).length = (chosen K m).length
  | [], l, m, h => rfl
  | b :: K, [], [], h => rfl
  | b :: K, [], y :: m, h => by simp at h
  | b :: K, x :: l, [], h => by simp at h
  | b :: K, x :: l, y :: m, h => by
    have := chosen_same K l m (by simpa using h)
    unfold chosen
    cases b <;> simp [this]
/-- the chosen clauses, in a row of their own -/
theorem FormHs.chosen {W : World} {Ps : List Res} {a : Option Addr} {c : Nat} {vs : List Value} {cs : List (List Int)} (h : FormHs W Ps a c vs cs) {w : World} (hw : Has W w Ps) (hl : cs.length ≤ 1000000) (hr : ∀ r ∈ cs, r.length ≤ 1000000) (K : List Bool) {va : Option Addr} {vc n : Nat} (hn : (chosen K cs).length = n) :
    FormHs W (Hp.row 25 1 (.slice va n vc) n (Go.Proofs.Ytbpaadpocihahaa.chosen K vs) :: Ps) va vc (Go.Proofs.Ytbpaadpocihahaa.chosen K vs) (Go.Proofs.Ytbpaadpocihahaa.chosen K cs) := by
  obtain ⟨PV, h1, h2, h3⟩ := h.pairs hw
  rw [← h1, ← h2, chosen_map, chosen_map]
  rw [← h2, chosen_map, List.length_map] at hn
  have hpl : PV.length ≤ 1000000 := by rw [← h2, List.length_map] at hl; exact hl
  have := chosen_len K PV
  refine (show ClOks W Ps (Go.Proofs.Ytbpaadpocihahaa.chosen K PV) from fun q hq => h3 q (chosen_mem hq)).form hn (by omega) (fun q hq => hr _ ?_) (List.mem_cons_self ..) fun P hP => List.mem_cons_of_mem _ hP
  rw [← h2]
  exact List.mem_map_of_mem (chosen_mem hq)
set_option maxHeartbeats 8000000 in
set_option maxRecDepth 100000 in
theorem Chosen_calls {W w : World} {Ps : List Res} (h : Has W w Ps) {V : Int} {a : Option Addr} {c : Nat} {vs : List Value} {cs : List (List Int)} (hF : FormHs W Ps a c vs cs) (hl : cs.length ≤ 1000000) {ka : Option Addr} {kc : Nat} {K : List Bool} (hK : BoolsSrc W Ps ka kc K) (hKl : K.length = cs.length) :
    Calls Try.prog 23 #[.agg #[.int .i64 V, .slice a cs.length c], .slice ka K.length kc] w fun e w' => ∃ va vc, e = .returned (.agg #[.int .i64 V, .slice va (chosen K cs).length vc]) ∧
      Has W w' (Hp.row 25 1 (.slice va (chosen K cs).length vc) (chosen K cs).length (chosen K vs) :: Ps) := by
  have hvl := hF.vlen h
  have h1 := ((h.newBlk (.cells #[.int .i64 V, .slice a cs.length c] 24 (0, 0))).newBlk (.cells #[.int .i64 0, .slice none 0 0] 24 (0, 0))).newBlk (.cells #[.int .i64 V, .slice none 0 0] 24 (0, 0))
  simp only [hp_alloc_size] at h1
  have H1 := Lib.hid ((h1.nilRow 25 1))
  have HF := Lib.hid hF
  have HK := Lib.hid hK
  have HVL := Lib.hid hvl
  obtain ⟨n, hn⟩ : ∃ n, cs.length = n := ⟨_, rfl⟩
  rw [hn] at hl H1 hKl ⊢
  rw [hKl]
  have HN := Lib.hid (And.intro hn hKl)
  have hce : (chosen K cs).length = (chosen K vs).length := (chosen_same K vs cs (by omega)).symm
  rw [hce]
  clear h h1 hF hn hK hKl hvl hce
  go_enter Try.func23, Try.ntmps23
  go_wp2
  go_loopg [6] n (fun gg z wr => ∃ (i m : Nat) (va : Option Addr) (vc : Nat), i ≤ n ∧ m ≤ i ∧ n - i ≤ gg ∧ z = .int .i64 (i : Int) ∧ Hid ((chosen K (vs.take i)).length = m) ∧ Hid (Has W wr (Hp.row 25 1 (.slice va m vc) m (chosen K (vs.take i)) :: Hp.blk (w.heap.size + 1 + 1) (.cells #[.int .i64 V, .slice va m vc] 24 (0, 0)) :: Hp.blk (w.heap.size + 1) (.cells #[.int .i64 0, .slice none 0 0] 24 (0, 0)) :: Hp.blk w.heap.size (.cells #[.int .i64 V, .slice a n c] 24 (0, 0)) :: Ps)))
  case atStart => exact ⟨0, 0, none, 0, Nat.zero_le _, Nat.zero_le _, by omega, rfl, Lib.hid (by rw [List.take_zero, chosen_nil]; rfl), Lib.hid (by rw [List.take_zero, chosen_nil]; exact H1.out.step (by (repeat first | exact Fr.refl _ _ | assumption | apply Fr.n | apply Fr.d | apply Fr.a | refine Fr.s ?_ (.inr (by simp; try omega)) _)))⟩
  case round =>
    obtain ⟨i, m, va, vc, hi, hmi, hg, rfl, HM, HH⟩ := hrel
    clear H1
    have hb := (HH.out.bring 3).blk
    have f0 : _ = some _ := heap_eq_cell hb 0
    have f1 : _ = some _ := heap_eq_cell hb 1
    have fl := lt_of_block hb
    have hb := (HH.out.bring 1).blk
    have x0 : _ = some _ := heap_eq_cell hb 0
    have x1 : _ = some _ := heap_eq_cell hb 1
    have xz1 := heap_eq_frozen hb 1
    have xl := lt_of_block hb
    by_cases hin : i < n
    · obtain ⟨b, hb2⟩ : ∃ b, K[i]? = some b := ⟨_, List.getElem?_eq_getElem (by rw [HN.out.2]; exact hin)⟩
      have hkb := (HK.out _ _ HH.out fun P hP => by simp [hP]).1
      obtain ⟨g3, off3, rfl, hg3, hk3⟩ := BoolsAt.get hkb hb2
      obtain ⟨ra, rn, rc, g, off, rfl, hgl, hc, hvk⟩ := HF.out.rowV HH.out (fun P hP => by simp [hP]) (i := i) (by rw [HN.out.1]; exact hin)
      have HNX := Lib.hid (chosen_next hvk hb2)
      clear hvk hkb hb hb2
      cases b with
      | false =>
        have hnx : chosen K (vs.take (i + 1)) = chosen K (vs.take i) := by rw [HNX.out]; simp
        have HNY := Lib.hid hnx
        clear hnx
        go_wp2
        go_roundg (n - (i + 1))
        case measure => omega
        case rel => exact ⟨i + 1, m, va, vc, hin, by omega, Nat.le_refl _, by simp, Lib.hid (by rw [HNY.out]; exact HM.out), Lib.hid (by rw [HNY.out]; exact HH.out.step (by (repeat first | exact Fr.refl _ _ | assumption | apply Fr.n | apply Fr.d | apply Fr.a | refine Fr.s ?_ (.inr (by simp; try omega)) _)))⟩
      | true =>
        have hmaxl : (1000001 : Nat) ≤ maxLen := by decide
        have HLL := Lib.hid (show m + 1 ≤ maxLen ∧ (m + 1) * 24 ≤ 140737488355328 from by omega)
        clear hmaxl
        go_wp2
        (refine wp_region_text (by kernel_rfl) (by kernel_rfl) ?_)
        go_wp2_with (at_builtin; refine append_has (W := W) (size := 1) (bytes := 24) (z := .slice none 0 0) (e := 25) (n := m) (xs := chosen K (vs.take i)) (news := [.slice ra rn rc]) rfl rfl Try.underlying22 (by kernel_rfl) rfl (by decide) rfl rfl (HH.out.step (by (repeat first | exact Fr.refl _ _ | assumption | apply Fr.n | apply Fr.d | apply Fr.a | refine Fr.s ?_ (.inr (by simp; try omega)) _))) (by (repeat first | rw [if_pos (by omega)] | rw [if_neg (by omega)] | rw [hp_drew] | rw [hp_drewN] | rw [hp_alloc_size] | rw [hp_setCell_size] | rw [hp_alloc] | rw [hp_setCell] | rw [oMS] | rw [upd_cells] | rw [lSZ] | rw [lSS] | rfl)) rfl (by simp [Value.oneCell']) HLL.out.1 HLL.out.2 ?_)
        intro g2 cap2 w5 h5 hf5 hg5
        have hnx : chosen K (vs.take (i + 1)) = chosen K (vs.take i) ++ [.slice ra rn rc] := by rw [HNX.out]; simp
        rw [← hnx] at h5
        have HNY := Lib.hid hnx
        clear x0 x1 xz1 xl f0 f1 fl hnx
        have hb := (h5.bring 3).blk
        have f0 : _ = some _ := heap_eq_cell hb 0
        have f1 : _ = some _ := heap_eq_cell hb 1
        have fl := lt_of_block hb
        have hb := (h5.bring 1).blk
        have x0 : _ = some _ := heap_eq_cell hb 0
        have x1 : _ = some _ := heap_eq_cell hb 1
        have xz1 := heap_eq_frozen hb 1
        have xl := lt_of_block hb
        have H5 := Lib.hid h5
        clear h5 hb hf5 hg5 HH hgl hc hg3 hk3
        go_wp2
        refine Strict.intro rfl ?_
        go_wp2
        go_roundg (n - (i + 1))
        case measure => omega
        case rel => exact ⟨i + 1, m + 1, some ⟨g2, 0, none⟩, cap2, hin, by omega, Nat.le_refl _, by simp, Lib.hid (by rw [HNY.out, List.length_append, HM.out]; rfl), Lib.hid ((((H5.out.bring 1).blkSet 1 (.slice (some ⟨g2, 0, none⟩) (m + 1) cap2)).ord 2 [1, 0]).step (by (repeat first | exact Fr.refl _ _ | assumption | apply Fr.n | apply Fr.d | apply Fr.a | refine Fr.s ?_ (.inr (by simp; try omega)) _)))⟩
    · obtain rfl : i = n := by omega
      have h5 := HH.out
      have hm := HM.out
      rw [List.take_of_length_le (by rw [HVL.out, HN.out.1]; exact Nat.le_refl _)] at h5 hm
      have H5 := Lib.hid h5
      have HM2 := Lib.hid hm
      have hb := (h5.bring 2).blk
      have o0 : _ = some _ := heap_eq_cell hb 0
      have o1 : _ = some _ := heap_eq_cell hb 1
      have oz0 := heap_eq_frozen hb 0
      have oz1 := heap_eq_frozen hb 1
      have ol := lt_of_block hb
      have hxo : w.heap.size + 1 + 1 ≠ w.heap.size + 1 := by omega
      clear h5 hm hb HH HM
      go_wp2
      (try simp only [Exit.inBlock, Exit.then])
      have h6 := ((H5.out.bring 2).blkSet 0 (.int .i64 V)).blkSet 1 (.slice va m vc)
      refine bodyPost_ret (form_result rfl (b := w.heap.size + 1) (x := .int .i64 V) (y := .slice va m vc) rfl ?_) rfl ⟨va, vc, ?_, ?_⟩
      · exact (h6.step (by (repeat first | exact Fr.refl _ _ | assumption | apply Fr.n | apply Fr.d | apply Fr.a | refine Fr.s ?_ (.inr (by simp; try omega)) _))).blk
      · rw [HM2.out]
      · rw [HM2.out]
        exact (h6.ord 4 [1]).step (by (repeat first | exact Fr.refl _ _ | assumption | apply Fr.n | apply Fr.d | apply Fr.a | refine Fr.s ?_ (.inr (by simp; try omega)) _))
end Go.Proofs.Ytbpaadpocihahaa
end

section
/- Laws RefuteMinimal and RefuteTrims: marks of clauses, what is least. Nothing of the program. -/
namespace Go.Proofs.Ytbpaadpocihahaa
open Go Go.Proofs.Sv Go.Proofs.Rp
set_option linter.unusedVariables false
set_option linter.unusedSimpArgs false
def marks (n : Nat) (L : List Nat) : List Bool := (List.range n).map fun j => decide (j ∈ L)
theorem marks_len (n : Nat) (L : List Nat) : (marks n L).length = n := by simp [marks]
theorem marks_get {n : Nat} {L : List Nat} {j : Nat} (hj : j < n) : (marks n L)[j]? = some (decide (j ∈ L)) := by
  unfold marks
  rw [List.getElem?_map, List.getElem?_range hj]
  rfl
theorem fm_congr {α β : Type} {f g : α → Option β} : ∀ {l : List α}, (∀ x ∈ l, f x = g x) → l.filterMap f = l.filterMap g
  | [], h => rfl
  | x :: l, h => by
    rw [List.filterMap_cons, List.filterMap_cons, h x (List.mem_cons_self ..), fm_congr fun y hy => h y (List.mem_cons_of_mem _ hy)]
theorem chosen_marks_aux {α : Type} : ∀ (l : List α) (s : Nat) (L : List Nat), L.Pairwise (· < ·) → (∀ k ∈ L, s ≤ k ∧ k < s + l.length) → chosen ((List.range' s l.length).map fun j => decide (j ∈ L)) l = L.filterMap fun k => l[k - s]?
  | [], s, L, hp, hb => by
    cases L with
    | nil => rfl
    | cons k L => have := hb k (List.mem_cons_self ..); simp at this; omega
  | x :: l, s, L, hp, hb => by
    rw [List.length_cons, List.range'_succ, List.map_cons]
    unfold chosen
    by_cases hs : s ∈ L
    · rw [decide_eq_true hs, if_pos rfl]
      cases L with
      | nil => cases hs
      | cons k L =>
        rw [List.pairwise_cons] at hp
        have hk : k = s := by
          rcases List.mem_cons.1 hs with h | h
          · exact h.symm
          · have h1 := hp.1 s h
            have h2 := (hb k (List.mem_cons_self ..)).1
            omega
        subst hk
        have e1 : (List.range' (k + 1) l.length).map (fun j => decide (j ∈ k :: L)) = (List.range' (k + 1) l.length).map (fun j => decide (j ∈ L)) := by
          refine List.map_congr_left fun j hj => ?_
          have h1 := (List.mem_range'_1.1 hj).1
          have h2 : j ∈ k :: L ↔ j ∈ L := by
            rw [List.mem_cons]
            exact ⟨fun h => h.resolve_left (by omega), .inr⟩
          exact decide_eq_decide.2 h2
        rw [e1, chosen_marks_aux l (k + 1) L hp.2 (fun j hj => by
          have h1 := hp.1 j hj
          have h2 := (hb j (List.mem_cons_of_mem _ hj)).2
          rw [List.length_cons] at h2
          omega)]
        rw [List.filterMap_cons, Nat.sub_self]
        simp only [List.getElem?_cons_zero]
        congr 1
        refine fm_congr fun j hj => ?_
        have h1 := hp.1 j hj
        rw [show j - k = (j - (k + 1)) + 1 by omega, List.getElem?_cons_succ]
    · rw [decide_eq_false hs, if_neg Bool.false_ne_true, chosen_marks_aux l (s + 1) L hp (fun j hj => by
        have h1 := hb j hj
        rw [List.length_cons] at h1
        have h2 : j ≠ s := fun e => hs (e ▸ hj)
        omega)]
      refine fm_congr fun j hj => ?_
      have h1 := hb j hj
      have h2 : j ≠ s := fun e => hs (e ▸ hj)
      rw [show j - s = (j - (s + 1)) + 1 by omega, List.getElem?_cons_succ]
theorem chosen_marks {α : Type} {l : List α} {L : List Nat} (hp : L.Pairwise (· < ·)) (hb : ∀ k ∈ L, k < l.length) : chosen (marks l.length L) l = L.filterMap (l[·]?) := by
  have := chosen_marks_aux l 0 L hp (fun k hk => ⟨Nat.zero_le _, by have := hb k hk; omega⟩)
  rw [← List.range_eq_range'] at this
  simp only [Nat.sub_zero] at this
  exact this
theorem marks_set {n : Nat} {A : List Nat} {x : Nat} : (marks n A).set x true = marks n (A ++ [x]) := by
  apply List.ext_getElem?
  intro j
  by_cases hj : j < n
  · by_cases e : x = j
    · subst e
      rw [List.getElem?_set_self (by rw [marks_len]; exact hj), marks_get hj]
      simp
    · rw [List.getElem?_set_ne e, marks_get hj, marks_get hj]
      congr 1
      refine decide_eq_decide.2 ?_
      simp only [List.mem_append, List.mem_singleton]
      exact ⟨.inl, fun h => h.resolve_right fun h => e h.symm⟩
  · rw [List.getElem?_eq_none (by rw [List.length_set, marks_len]; omega), List.getElem?_eq_none (by rw [marks_len]; omega)]
theorem erase_iff {L : List Nat} (hp : L.Pairwise (· < ·)) {k x : Nat} (hk : L[k]? = some x) {j : Nat} : j ∈ L.eraseIdx k ↔ j ∈ L ∧ j ≠ x := by
  obtain ⟨hl, hx⟩ := List.getElem?_eq_some_iff.1 hk
  have e : L = L.take k ++ x :: L.drop (k + 1) := by rw [← hx, List.getElem_cons_drop, List.take_append_drop]
  rw [List.eraseIdx_eq_take_drop_succ]
  have h2 : (L.take k ++ x :: L.drop (k + 1)).Pairwise (· < ·) := e ▸ hp
  rw [List.pairwise_append, List.pairwise_cons] at h2
  have h3 : j ∈ L ↔ j ∈ L.take k ∨ j = x ∨ j ∈ L.drop (k + 1) := by
    conv => lhs; rw [e]
    rw [List.mem_append, List.mem_cons]
  rw [h3, List.mem_append]
  constructor
  · rintro (h | h)
    · exact ⟨.inl h, by have := h2.2.2 j h x (List.mem_cons_self ..); omega⟩
    · exact ⟨.inr (.inr h), by have := h2.2.1.1 j h; omega⟩
  · rintro ⟨h | h | h, hne⟩
    · exact .inl h
    · exact absurd h hne
    · exact .inr h
theorem marks_off {n : Nat} {L : List Nat} (hp : L.Pairwise (· < ·)) {k x : Nat} (hk : L[k]? = some x) : (marks n L).set x false = marks n (L.eraseIdx k) := by
  apply List.ext_getElem?
  intro j
  by_cases hj : j < n
  · by_cases e : x = j
    · subst e
      rw [List.getElem?_set_self (by rw [marks_len]; exact hj), marks_get hj, decide_eq_false (fun h => ((erase_iff hp hk).1 h).2 rfl)]
    · rw [List.getElem?_set_ne e, marks_get hj, marks_get hj]
      congr 1
      refine decide_eq_decide.2 ?_
      rw [erase_iff hp hk]
      exact ⟨fun h => ⟨h, fun h => e h.symm⟩, fun h => h.1⟩
  · rw [List.getElem?_eq_none (by rw [List.length_set, marks_len]; omega), List.getElem?_eq_none (by rw [marks_len]; omega)]
theorem marks_on {n : Nat} {L : List Nat} (hp : L.Pairwise (· < ·)) {k x : Nat} (hk : L[k]? = some x) : (marks n (L.eraseIdx k)).set x true = marks n L := by
  apply List.ext_getElem?
  intro j
  by_cases hj : j < n
  · by_cases e : x = j
    · subst e
      rw [List.getElem?_set_self (by rw [marks_len]; exact hj), marks_get hj, decide_eq_true (List.mem_of_getElem? hk)]
    · rw [List.getElem?_set_ne e, marks_get hj, marks_get hj]
      congr 1
      refine decide_eq_decide.2 ?_
      rw [erase_iff hp hk]
      exact ⟨fun h => h.1, fun h => ⟨h, fun h => e h.symm⟩⟩
  · rw [List.getElem?_eq_none (by rw [List.length_set, marks_len]; omega), List.getElem?_eq_none (by rw [marks_len]; omega)]
theorem fm_map {l : List (List Int)} : ∀ {L : List Nat}, (∀ k ∈ L, k < l.length) → L.filterMap (l[·]?) = L.map fun k => l.getD k []
  | [], h => rfl
  | k :: L, h => by
    have hk := h k (List.mem_cons_self ..)
    rw [List.filterMap_cons, List.getElem?_eq_getElem hk]
    simp only [List.map_cons]
    rw [fm_map fun j hj => h j (List.mem_cons_of_mem _ hj)]
    congr 1
    rw [List.getD_eq_getElem?_getD, List.getElem?_eq_getElem hk]; rfl
theorem fm_erase {l : List (List Int)} {L : List Nat} (h : ∀ k ∈ L, k < l.length) (k : Nat) : (L.eraseIdx k).filterMap (l[·]?) = (L.filterMap (l[·]?)).eraseIdx k := by
  rw [fm_map h, fm_map fun j hj => h j (List.mem_of_mem_eraseIdx hj), map_erase]
theorem trim_len {F : List (List Int)} : ∀ {is : List Nat} {p : List (List Int)}, (is.foldl (trimStep F) p).length ≤ p.length
  | [], p => Nat.le_refl _
  | i :: is, p => by
    refine Nat.le_trans (trim_len (is := is)) ?_
    unfold trimStep
    split
    · exact erase_len _ _
    · exact Nat.le_refl _
theorem validB_p {V : Int} {cs p q : List (List Int)} (h : validB V cs p = true) (hl : q.length ≤ p.length) (hs : ∀ c ∈ q, c ∈ p) : validB V cs q = true := by
  obtain ⟨h1, h2⟩ := validB_one h
  unfold validB
  rw [h1, rightF_sub h2 hl hs]
  rfl
theorem validB_c {V : Int} {cs cs' p : List (List Int)} (h : validB V cs p = true) (hl : cs'.length ≤ cs.length) (hs : ∀ c ∈ cs', c ∈ cs) : validB V cs' p = true := by
  obtain ⟨h1, h2⟩ := validB_one h
  unfold validB
  rw [h2, rightF_sub h1 hl hs]
  rfl
structure TrimF (V : Int) (cs p T : List (List Int)) : Prop where
  sub : ∀ c ∈ T, c ∈ p
  len : T.length ≤ p.length
  pos : 1 ≤ T.length
  ok : chkNV V cs T = T.length ∧ chkEV V cs T = 0
  again : trimEV V cs T = 0 ∧ trimLV V cs T = T
  min : ∀ k, k + 1 < T.length → chkEV V cs (T.eraseIdx k) = 16
theorem trimF_facts {V : Int} {cs p : List (List Int)} (h : validB V cs p = true) (ha : accB cs p = true) (hl : p.length ≤ 300) : TrimF V cs p (trimF cs p) := by
  obtain ⟨h1, h2, h3⟩ := trim_spec ha
  have hs : ∀ c ∈ trimF cs p, c ∈ p := fun c hc => trim_sub hc
  have hln : (trimF cs p).length ≤ p.length := trim_len
  have hv := validB_p h hln hs
  have hn := accB_num h1
  have he : trimEV V cs (trimF cs p) = 0 := by
    unfold trimEV
    rw [hv, if_pos rfl, if_neg (by omega)]
    exact hn.2
  refine ⟨hs, hln, acc_pos h1, ?_, ⟨he, ?_⟩, fun k hk => ?_⟩
  · unfold chkNV chkEV
    rw [hv]
    exact hn
  · unfold trimLV
    rw [he, if_pos rfl]
    exact trim_fix fun j hj => h3 j (Nat.zero_le _) hj
  · have hv2 := validB_p hv (erase_len _ k) fun c hc => List.mem_of_mem_eraseIdx hc
    unfold chkEV
    rw [hv2]
    exact accB_no (h3 k (Nat.zero_le _) hk)
structure CoreF (V : Int) (cs p : List (List Int)) (L : List Nat) : Prop where
  asc : L.Pairwise (· < ·)
  low : ∀ k ∈ L, k < cs.length
  len : L.length ≤ cs.length
  ok : chkEV V (chosen (marks cs.length L) cs) p = 0
  min : ∀ k, k < L.length → chkEV V (chosen (marks cs.length (L.eraseIdx k)) cs) p = 16
theorem coreF_facts {V : Int} {cs p : List (List Int)} (h : validB V cs p = true) (ha : accB cs p = true) : CoreF V cs p (coreF cs p) := by
  obtain ⟨h1, h2, h3, h4, h5⟩ := core_spec ha
  rw [List.take_zero, List.nil_append] at h2
  have h3' : (coreF cs p).Pairwise (· < ·) := h3
  have h4' : ∀ k ∈ coreF cs p, k < cs.length := fun k hk => (h4 k hk).2
  have e1 : chosen (marks cs.length (coreF cs p)) cs = (coreS cs p).1 := by rw [chosen_marks h3' h4', h2]; rfl
  have hv : ∀ K, validB V (chosen K cs) p = true := fun K => validB_c h (chosen_len _ _) fun c hc => chosen_mem hc
  have hlen : (coreS cs p).1.length = (coreF cs p).length := by
    rw [show (coreS cs p).1 = (coreF cs p).filterMap (cs[·]?) from h2, fm_map h4', List.length_map]
  refine ⟨h3', h4', by rw [← hlen, ← e1]; exact chosen_len _ _, ?_, fun k hk => ?_⟩
  · unfold chkEV
    rw [hv, e1]
    exact (accB_num h1).2
  · skip
    have e2 : chosen (marks cs.length ((coreF cs p).eraseIdx k)) cs = (coreS cs p).1.eraseIdx k := by
      rw [chosen_marks (h3'.sublist (List.eraseIdx_sublist _ _)) fun j hj => h4' j (List.mem_of_mem_eraseIdx hj), fm_erase h4', h2]
      rfl
    unfold chkEV
    rw [hv, e2]
    exact accB_no (h5 k (Nat.zero_le _) (by omega))
theorem asc_step {L : List Nat} (hp : L.Pairwise (· < ·)) {k x y : Nat} (hx : L[k]? = some x) (hy : L[k + 1]? = some y) : x < y := by
  obtain ⟨h1, e1⟩ := List.getElem?_eq_some_iff.1 hx
  obtain ⟨h2, e2⟩ := List.getElem?_eq_some_iff.1 hy
  have := List.pairwise_iff_getElem.1 hp k (k + 1) h1 h2 (by omega)
  omega
end Go.Proofs.Ytbpaadpocihahaa
end

section
/- Law RefuteMinimal, walked. -/
namespace Go.Proofs.Ytbpaadpocihahaa
open Go Go.RowKit Go.Proofs.Rg Go.Proofs.Mp Go.Proofs.Hp Go.Proofs.Sv Go.Proofs.Rp
set_option linter.unusedVariables false
set_option linter.unusedSimpArgs false
theorem few_ev {V : Int} {cs p : List (List Int)} (hc : cs.length ≤ 40) (hp : p.length ≤ 12) :
    (trimLV V cs p = [] ∧ coreLV V cs p = [] ∧ ((trimEV V cs p = 2 ∧ coreEV V cs p = 2) ∨ (trimEV V cs p = 16 ∧ coreEV V cs p = 16))) ∨
    (validB V cs p = true ∧ accB cs p = true ∧ trimEV V cs p = 0 ∧ coreEV V cs p = 0 ∧ trimLV V cs p = trimF cs p ∧ coreLV V cs p = coreF cs p) := by
  have e1 : trimEV V cs p = if validB V cs p then chkE cs p else 2 := by unfold trimEV; rw [if_neg (show ¬ p.length > 300 by omega)]
  have e2 : coreEV V cs p = if validB V cs p then chkE cs p else 2 := by unfold coreEV; rw [if_neg (show ¬ cs.length > 300 by omega)]
  unfold trimLV coreLV
  rw [e1, e2]
  cases hv : validB V cs p with
  | false => exact .inl ⟨rfl, rfl, .inl ⟨rfl, rfl⟩⟩
  | true =>
    simp only [if_true]
    cases ha : accB cs p with
    | false =>
      have := accB_no ha
      rw [this]
      exact .inl ⟨rfl, rfl, .inr ⟨rfl, rfl⟩⟩
    | true =>
      have := (accB_num ha).2
      rw [this]
      exact .inr ⟨trivial, rfl, rfl, rfl, rfl, rfl⟩
theorem reads_take {w : World} {a : Option Addr} {n c c' k : Nat} {xs : List Value} (h : Reads w (.slice a n c) n 1 xs) (hk : k ≤ n) : Reads w (.slice a k c') k 1 (xs.take k) := by
  obtain ⟨hl, a', c2, he, hp⟩ := h
  cases he
  refine ⟨by rw [List.length_take, hl]; omega, a, c', rfl, fun h0 => ?_⟩
  obtain ⟨g, off, ha, hg, hc⟩ := hp (by omega)
  refine ⟨g, off, ha, hg, fun j u hu => hc j u ?_⟩
  rw [List.getElem?_take] at hu
  split at hu
  · exact hu
  · cases hu
theorem reads_drop {w : World} {g off n c c' k m : Nat} {xs : List Value} (h : Reads w (.slice (some ⟨g, off, none⟩) n c) n 1 xs) (hk : k + m = n) : Reads w (.slice (some ⟨g, off + k, none⟩) m c') m 1 (xs.drop k) := by
  obtain ⟨hl, a', c2, he, hp⟩ := h
  cases he
  refine ⟨by rw [List.length_drop, hl]; omega, _, c', rfl, fun h0 => ?_⟩
  obtain ⟨g', off', ha, hg, hc⟩ := hp (by omega)
  cases ha
  refine ⟨_, _, rfl, hg, fun j u hu => ?_⟩
  rw [Nat.add_assoc]
  exact hc _ u (by rw [List.getElem?_drop] at hu; exact hu)
theorem bv_set {l : List Bool} {i : Nat} {b : Bool} : (bv l).set i (.bool b) = bv (l.set i b) := by unfold bv; rw [List.map_set]
theorem owns_some {w : World} {base e size n c : Nat} {a : Option Addr} {xs : List Value} (h : w.ownsRow base e size (.slice a n c) n xs) (hn : 0 < n) : ∃ g, a = some ⟨g, 0, none⟩ := by
  obtain ⟨a2, c2, he, hz, hg⟩ := owns_form2 h
  obtain ⟨rfl, _, rfl⟩ := Value.slice.inj he
  cases a with
  | none => have := (hz rfl).1; omega
  | some ad => obtain ⟨g, rfl⟩ := hg ad rfl; exact ⟨g, rfl⟩
theorem marks_nil (n : Nat) : List.replicate n (Value.bool false) = bv (marks n []) := by
  unfold bv marks
  rw [List.map_map]
  apply List.ext_getElem?
  intro j
  by_cases hj : j < n
  · rw [List.getElem?_replicate, if_pos hj, List.getElem?_map, List.getElem?_range hj]; rfl
  · rw [List.getElem?_eq_none (by simpa using hj), List.getElem?_eq_none (by simpa using hj)]
set_option maxHeartbeats 16000000 in
set_option maxRecDepth 100000 in
theorem RefuteMinimal_calls (haw : AwakeOk) {w : World} {V : Int} {a : Option Addr} {c : Nat} {cs : List (List Int)} (h : FormAt w a c cs) {pa : Option Addr} {pc : Nat} {p : List (List Int)} (hp : FormAt w pa pc p) :
    Calls Try.prog 6 #[.agg #[.int .i64 V, .slice a cs.length c], .slice pa p.length pc] w fun e w' => e = .returned (.bool true) ∧ Fr [] w w' := by
  have HAW := Lib.hid haw
  have HT := Lib.hid (fun w' (hf : Fr [] w w') => few_calls (V := V) (h.fr hf) (hp.fr hf))
  have HI := Lib.hid h
  have HP := Lib.hid hp
  obtain ⟨n, hn⟩ : ∃ m, cs.length = m := ⟨_, rfl⟩
  obtain ⟨m, hm⟩ : ∃ m, p.length = m := ⟨_, rfl⟩
  have H0 := Lib.hid ((Has.nil (Fr.refl [] w)).newBlk (.cells #[.int .i64 V, .slice a n c] 24 (0, 0)))
  have HN := Lib.hid (And.intro hn hm)
  rw [hn, hm] at HT
  rw [hn, hm]
  clear h haw hp hn hm
  go_enter Try.func6, Try.ntmps6
  go_wp2_with fail
  refine (HT.out _ (by (repeat first | exact Fr.refl _ _ | assumption | apply Fr.n | apply Fr.d | apply Fr.a | refine Fr.s ?_ (.inr (by simp; try omega)) _))).mono ?_
  rintro e w1 ⟨rfl, hf1⟩
  have h1 := H0.out.step (Fr.trans0 (by (repeat first | exact Fr.refl _ _ | assumption | apply Fr.n | apply Fr.d | apply Fr.a | refine Fr.s ?_ (.inr (by simp; try omega)) _)) hf1)
  obtain ⟨fb, hfb⟩ : ∃ b, w.heap.size = b := ⟨_, rfl⟩
  rw [hfb] at h1 ⊢
  have H1 := Lib.hid h1
  have hb := blk_mem H1.out (b := fb) (o := .cells #[.int .i64 V, .slice a n c] 24 (0, 0)) (by simp)
  (try clear v0 v1 vl)
  have v0 : _ = some _ := heap_eq_cell hb 0
  have v1 : _ = some _ := heap_eq_cell hb 1
  have vl := lt_of_block hb
  clear hb
  obtain ⟨T, hT⟩ : ∃ T, fewF cs p = T := ⟨_, rfl⟩
  rw [hT]
  have HTT := Lib.hid hT
  clear hf1 h1 hfb hT HT H0
  cases T with
  | false =>
    go_wp2_with fail
    refine (HAW.out _).mono ?_
    rintro e w9 ⟨rfl, hf9⟩
    have HF9 := Lib.hid hf9
    clear hf9
    go_wp2
    go_ret
    exact ⟨rfl, H1.out.fr.trans0 HF9.out⟩
  | true =>
    obtain ⟨hc40, hp12, hc20, hp20⟩ := fewF_iff.1 HTT.out
    obtain ⟨vs, hFH⟩ := FormHs.base (Ps := []) HI.out
    obtain ⟨pvs, hPH⟩ := FormHs.base (Ps := []) HP.out
    have HC20 := Lib.hid (And.intro (fun r hr => Nat.le_trans (hc20 r hr) (by omega) : ∀ r ∈ cs, r.length ≤ 1000000) (fun r hr => Nat.le_trans (hp20 r hr) (by omega) : ∀ r ∈ p, r.length ≤ 1000000))
    have HFH := Lib.hid hFH
    have HPH := Lib.hid hPH
    have HTR := Lib.hid (fun w' (hf : Fr [] w1 w') => Trim_calls (V := V) (H1.out.step hf) (HFH.out.more fun P hP => by simp at hP) (HPH.out.more fun P hP => by simp at hP) HC20.out.1 HC20.out.2)
    rw [HN.out.1, HN.out.2] at HTR
    have HEV := Lib.hid (few_ev (V := V) hc40 hp12)
    rw [HN.out.1] at hc40
    rw [HN.out.2] at hp12
    have HP12 := Lib.hid hp12
    clear hc20 hp20 hFH hPH hp12
    go_wp2_with fail
    refine (HTR.out _ (by (repeat first | exact Fr.refl _ _ | assumption | apply Fr.n | apply Fr.d | apply Fr.a | refine Fr.s ?_ (.inr (by simp; try omega)) _))).mono ?_
    rintro e w2 ⟨TV, ta, tc, hTV, hTok, rfl, h2⟩
    have hCO := fun w' (hf : Fr [] w2 w') => Core_calls (V := V) (h2.step hf) (HFH.out.more fun P hP => by simp at hP) (HPH.out.more fun P hP => by simp at hP) HC20.out.1 HC20.out.2
    rw [HN.out.1, HN.out.2] at hCO
    have HTV := Lib.hid (And.intro hTV hTok)
    have H2 := Lib.hid h2
    have HCO := Lib.hid hCO
    clear h2 hTV hTok HTR hCO
    have hb := blk_mem H2.out (b := fb) (o := .cells #[.int .i64 V, .slice a n c] 24 (0, 0)) (by simp)
    (try clear v0 v1 vl)
    have v0 : _ = some _ := heap_eq_cell hb 0
    have v1 : _ = some _ := heap_eq_cell hb 1
    have vl := lt_of_block hb
    clear hb
    rcases HEV.out with ⟨he1, he2, he3⟩ | ⟨hval, hacc, he1, he2, he3, he4⟩
    · obtain ⟨E, he4, hE⟩ : ∃ E, (trimEV V cs p = E ∧ coreEV V cs p = E) ∧ (E = 2 ∨ E = 16) := by
        rcases he3 with h | h
        · exact ⟨2, h, .inl rfl⟩
        · exact ⟨16, h, .inr rfl⟩
      have htn : TV = [] := List.map_eq_nil_iff.1 (HTV.out.1.trans he1)
      subst htn
      rw [he4.1]
      rw [he4.2, he2] at HCO
      clear he1 he2 he3 he4
      go_wp2_with fail
      refine (HCO.out _ (by (repeat first | exact Fr.refl _ _ | assumption | apply Fr.n | apply Fr.d | apply Fr.a | refine Fr.s ?_ (.inr (by simp; try omega)) _))).mono ?_
      rintro e w3 ⟨ca, cc, rfl, h3⟩
      have H3 := Lib.hid h3
      clear h3 HCO H2
      simp only [List.length_nil]
      rcases hE with rfl | rfl
      ·
        go_wp2_with fail
        refine (HAW.out _).mono ?_
        rintro e w9 ⟨rfl, hf9⟩
        have HF9 := Lib.hid hf9
        clear hf9
        go_wp2
        go_ret
        exact ⟨rfl, H3.out.fr.trans0 HF9.out⟩
      ·
        go_wp2_with fail
        refine (HAW.out _).mono ?_
        rintro e w9 ⟨rfl, hf9⟩
        have HF9 := Lib.hid hf9
        clear hf9
        go_wp2
        go_ret
        exact ⟨rfl, H3.out.fr.trans0 HF9.out⟩
    obtain ⟨L, hL⟩ : ∃ L, coreF cs p = L := ⟨_, rfl⟩
    obtain ⟨T, hT⟩ : ∃ T, trimF cs p = T := ⟨_, rfl⟩
    have hTF := trimF_facts hval hacc (by rw [HN.out.2]; have := HP12.out; omega)
    have hCF := coreF_facts hval hacc
    rw [hT] at hTF he3
    rw [hL] at hCF he4
    obtain ⟨q, hq⟩ : ∃ q, T.length = q + 1 := ⟨T.length - 1, by have := hTF.pos; omega⟩
    have hq12 : q + 1 ≤ 12 := by
      have := hTF.len
      rw [HN.out.2, hq] at this
      have := HP12.out
      omega
    have htv : TV.map (·.2) = T := HTV.out.1.trans he3
    have htl : TV.length = q + 1 := by rw [← hq, ← htv, List.length_map]
    have HTF := Lib.hid hTF
    have HCF := Lib.hid hCF
    have HTL := Lib.hid (And.intro htl (And.intro htv hq))
    have HTOK := Lib.hid HTV.out.2
    rw [he2, he4, htl] at HCO
    rw [he1, htl]
    rw [htl] at H2
    obtain ⟨nc, hnc⟩ : ∃ k, L.length = k := ⟨_, rfl⟩
    have HNC := Lib.hid hnc
    have hncn : nc ≤ n := by rw [← hnc, ← HN.out.1]; exact hCF.len
    clear hTF hCF he1 he2 he3 he4 hval hacc HEV htv htl hL hT HTV hq hnc
    obtain ⟨ta2, tc2, hte, htz, htg⟩ := owns_form2 H2.out.row
    obtain ⟨rfl, _, rfl⟩ := Value.slice.inj hte
    obtain ⟨tg, rfl⟩ : ∃ g, ta = some ⟨g, 0, none⟩ := by
      cases ta with
      | none => have := (htz rfl).1; omega
      | some ad => obtain ⟨g, rfl⟩ := htg ad rfl; exact ⟨g, rfl⟩
    have htcap := owns_cap H2.out.row
    clear hte htz htg
    go_wp2_with fail
    refine (HCO.out _ (by (repeat first | exact Fr.refl _ _ | assumption | apply Fr.n | apply Fr.d | apply Fr.a | refine Fr.s ?_ (.inr (by simp; try omega)) _))).mono ?_
    rintro e w3 ⟨ca, cc, rfl, h3⟩
    rw [HNC.out] at h3 ⊢
    have H3 := Lib.hid h3
    clear h3 HCO H2
    have hb := blk_mem H3.out (b := fb) (o := .cells #[.int .i64 V, .slice a n c] 24 (0, 0)) (by simp)
    (try clear v0 v1 vl)
    have v0 : _ = some _ := heap_eq_cell hb 0
    have v1 : _ = some _ := heap_eq_cell hb 1
    have vl := lt_of_block hb
    clear hb
    have hTFm : FormHs w (Hp.row 25 1 (.slice (some ⟨tg, 0, none⟩) (q + 1) tc) (q + 1) (TV.map (·.1)) :: [Hp.blk fb (.cells #[.int .i64 V, .slice a n c] 24 (0, 0))]) (some ⟨tg, 0, none⟩) tc (TV.map (·.1)) T := by
      have := HTOK.out.form (va := some ⟨tg, 0, none⟩) (vc := tc) HTL.out.1 (by omega) (fun r hr => HC20.out.2 _ (HTF.out.sub _ (by rw [← HTL.out.2.1]; exact List.mem_map_of_mem hr))) (Rs := Hp.row 25 1 (.slice (some ⟨tg, 0, none⟩) (q + 1) tc) (q + 1) (TV.map (·.1)) :: [Hp.blk fb (.cells #[.int .i64 V, .slice a n c] 24 (0, 0))]) (List.mem_cons_self ..) (fun P hP => List.mem_cons_of_mem _ hP)
      rw [HTL.out.2.1] at this
      exact this
    have HTM := Lib.hid hTFm
    have HTS := Lib.hid (fun r hr => HC20.out.2 r (HTF.out.sub r hr) : ∀ r ∈ T, r.length ≤ 1000000)
    have HCK := Lib.hid (fun w' (hf : Fr [] w3 w') => Check_calls (V := V) (H3.out.step hf) (HFH.out.more fun P hP => by simp at hP) (HTM.out.more fun P hP => List.mem_cons_of_mem _ hP) HC20.out.1 HTS.out)
    rw [HN.out.1, HTL.out.2.2] at HCK
    clear hTFm
    go_wp2_with fail
    refine (HCK.out _ (by (repeat first | exact Fr.refl _ _ | assumption | apply Fr.n | apply Fr.d | apply Fr.a | refine Fr.s ?_ (.inr (by simp; try omega)) _))).mono ?_
    intro e w4 k4
    obtain ⟨rfl, h4⟩ := ex_num HTF.out.ok.1 HTF.out.ok.2 k4
    rw [HTL.out.2.2]
    have H4 := Lib.hid h4
    clear k4 h4 HCK H3
    have hb := blk_mem H4.out (b := fb) (o := .cells #[.int .i64 V, .slice a n c] 24 (0, 0)) (by simp)
    (try clear v0 v1 vl)
    have v0 : _ = some _ := heap_eq_cell hb 0
    have v1 : _ = some _ := heap_eq_cell hb 1
    have vl := lt_of_block hb
    clear hb
    have hTA := fun w' (hf : Fr [] w4 w') => Trim_calls (V := V) (H4.out.step hf) (HFH.out.more fun P hP => by simp at hP) (HTM.out.more fun P hP => List.mem_cons_of_mem _ hP) HC20.out.1 HTS.out
    rw [HN.out.1, HTL.out.2.2, HTF.out.again.1, HTF.out.again.2] at hTA
    have HTA := Lib.hid hTA
    clear hTA
    go_wp2_with fail
    refine (HTA.out _ (by (repeat first | exact Fr.refl _ _ | assumption | apply Fr.n | apply Fr.d | apply Fr.a | refine Fr.s ?_ (.inr (by simp; try omega)) _))).mono ?_
    rintro e w5 ⟨AV, aa, ac, hAV, hAok, rfl, h5⟩
    have hal : AV.length = q + 1 := by rw [← HTL.out.2.2, ← hAV, List.length_map]
    rw [hal] at h5 ⊢
    have hAF := hAok.form (va := aa) (vc := ac) hal (by omega) (fun r hr => HTS.out _ (by rw [← hAV]; exact List.mem_map_of_mem hr)) (List.mem_cons_self ..) (fun P hP => List.mem_cons_of_mem _ hP)
    rw [hAV] at hAF
    have HSM := Lib.hid (fun w' (hf : Fr [] w5 w') => same_calls (hAF.src _ _ (h5.step hf) fun P hP => hP) (HTM.out.src _ _ (h5.step hf) fun P hP => List.mem_cons_of_mem _ (List.mem_cons_of_mem _ hP)) (by rw [HTL.out.2.2]; omega) (fun r hr => Nat.le_trans (HTS.out r hr) (by omega)))
    rw [HTL.out.2.2, decide_eq_true (rfl : T = T)] at HSM
    have H5 := Lib.hid h5.drop
    clear h5 hal hAF hAV hAok HTA H4
    go_wp2_with fail
    refine (HSM.out _ (by (repeat first | exact Fr.refl _ _ | assumption | apply Fr.n | apply Fr.d | apply Fr.a | refine Fr.s ?_ (.inr (by simp; try omega)) _))).mono ?_
    rintro e w6 ⟨rfl, hf6⟩
    have H6 := Lib.hid (H5.out.step hf6)
    clear hf6 HSM H5
    have HONE := Lib.hid HTOK.out.one
    go_wp2
    (try rw [show ((q : Int) + 1 - 1) = (q : Int) from by omega])
    go_loopg [104] q (fun gg z wr => ∃ k : Nat, k ≤ q ∧ q - k ≤ gg ∧ z = .int .i64 (k : Int) ∧ Hid (Has w wr (Hp.row 3 1 (.slice ca nc cc) nc (nv L) :: Hp.row 25 1 (.slice (some ⟨tg, 0, none⟩) (q + 1) tc) (q + 1) (TV.map (·.1)) :: [Hp.blk fb (.cells #[.int .i64 V, .slice a n c] 24 (0, 0))])))
    case atStart => exact ⟨0, Nat.zero_le _, by omega, rfl, Lib.hid (H6.out.step (by (repeat first | exact Fr.refl _ _ | assumption | apply Fr.n | apply Fr.d | apply Fr.a | refine Fr.s ?_ (.inr (by simp; try omega)) _)))⟩
    case round =>
      obtain ⟨k, hk, hg, rfl, HH⟩ := hrel
      clear H6
      have hb := blk_mem HH.out (b := fb) (o := .cells #[.int .i64 V, .slice a n c] 24 (0, 0)) (by simp)
      (try clear v0 v1 vl)
      have v0 : _ = some _ := heap_eq_cell hb 0
      have v1 : _ = some _ := heap_eq_cell hb 1
      have vl := lt_of_block hb
      clear hb
      by_cases hkq : k < q
      · have HN1 := Lib.hid (HH.out.nilRow 25 1)
        have hmaxl : (20 : Nat) ≤ maxLen := by decide
        obtain ⟨j, hj⟩ : ∃ j, k + 1 + j = q + 1 := ⟨q - k, by omega⟩
        have HLL := Lib.hid (show 0 + k ≤ maxLen ∧ (0 + k) * 24 ≤ 140737488355328 ∧ k + j ≤ maxLen ∧ (k + j) * 24 ≤ 140737488355328 from by omega)
        have HR1 := Lib.hid (reads_take (c' := tc) (HH.out.bring 1).rowReads (show k ≤ q + 1 by omega))
        have HJ := Lib.hid hj
        clear hmaxl
        go_wp2_with (at_builtin; refine append_readsH (W := w) (size := 1) (bytes := 24) (z := .slice none 0 0) (e := 25) (n := 0) (m := k) (xs := []) (news := (TV.map (·.1)).take k) rfl rfl Try.underlying22 (by kernel_rfl) rfl (by decide) rfl rfl (HN1.out.step (by (repeat first | exact Fr.refl _ _ | assumption | apply Fr.n | apply Fr.d | apply Fr.a | refine Fr.s ?_ (.inr (by simp; try omega)) _))) (HR1.out.fr (by (repeat first | exact Fr.refl _ _ | assumption | apply Fr.n | apply Fr.d | apply Fr.a | refine Fr.s ?_ (.inr (by simp; try omega)) _))) (fun e => by cases e) (fun u hu => HONE.out u (List.mem_of_mem_take hu)) HLL.out.1 HLL.out.2.1 ?_)
        intro v1' w7 h7
        (try rw [Nat.zero_add] at h7)
        (try rw [List.nil_append] at h7)
        obtain ⟨la, lc, rfl, _, _⟩ := owns_form2 h7.row
        have HR2 := Lib.hid (reads_drop (k := k + 1) (m := j) (c' := tc - (k + 1)) (h7.bring 2).rowReads hj)
        have H7 := Lib.hid h7
        clear h7 HH HN1 HR1
        go_wp2_with (at_builtin; refine append_readsH (W := w) (size := 1) (bytes := 24) (z := .slice none 0 0) (e := 25) (n := k) (xs := (TV.map (·.1)).take k) (news := (TV.map (·.1)).drop (k + 1)) rfl rfl Try.underlying22 (by kernel_rfl) rfl (by decide) rfl rfl (H7.out.step (by (repeat first | exact Fr.refl _ _ | assumption | apply Fr.n | apply Fr.d | apply Fr.a | refine Fr.s ?_ (.inr (by simp; try omega)) _))) ?hr (fun e => by cases e) (fun u hu => HONE.out u (List.mem_of_mem_drop hu)) ?h1 ?h2 ?_)
        case hr =>
          have := HR2.out
          rw [Nat.zero_add, show j = q - k by omega] at this
          exact this.fr (by (repeat first | exact Fr.refl _ _ | assumption | apply Fr.n | apply Fr.d | apply Fr.a | refine Fr.s ?_ (.inr (by simp; try omega)) _))
        case h1 => have := HLL.out.2.2.1; rw [show j = q - k by omega] at this; exact this
        case h2 => have := HLL.out.2.2.2; rw [show j = q - k by omega] at this; exact this
        intro v2' w8 h8
        rw [← List.eraseIdx_eq_take_drop_succ, ← map_erase] at h8
        obtain ⟨la, lc, rfl, _, _⟩ := owns_form2 h8.row
        have hel : (TV.eraseIdx k).length = q := by rw [List.length_eraseIdx, if_pos (by rw [HTL.out.1]; omega), HTL.out.1]; omega
        have hel2 : (T.eraseIdx k).length = q := by rw [List.length_eraseIdx, if_pos (by rw [HTL.out.2.2]; omega), HTL.out.2.2]; omega
        have hLM := (HTOK.out.erase k).form (va := la) (vc := lc) hel (by omega) (fun r hr => HTS.out _ (by rw [← HTL.out.2.1]; exact List.mem_map_of_mem (List.mem_of_mem_eraseIdx hr))) (Rs := Hp.row 25 1 (.slice la q lc) q ((TV.eraseIdx k).map (·.1)) :: Hp.row 3 1 (.slice ca nc cc) nc (nv L) :: Hp.row 25 1 (.slice (some ⟨tg, 0, none⟩) (q + 1) tc) (q + 1) (TV.map (·.1)) :: [Hp.blk fb (.cells #[.int .i64 V, .slice a n c] 24 (0, 0))]) (List.mem_cons_self ..) (fun P hP => by simp [hP])
        rw [map_erase (fun q : Value × List Int => q.2), HTL.out.2.1] at hLM
        have HCK := Lib.hid (fun w' (hf : Fr [] w8 w') => Check_calls (V := V) (h8.step hf) (HFH.out.more fun P hP => by simp at hP) hLM HC20.out.1 (fun r hr => HTS.out r (List.mem_of_mem_eraseIdx hr)))
        rw [HN.out.1, hel2] at HCK
        have HME := Lib.hid (HTF.out.min k (by rw [HTL.out.2.2]; omega))
        have H8 := Lib.hid h8
        clear h8 hLM hel hel2 H7 HR2
        have hb := blk_mem H8.out (b := fb) (o := .cells #[.int .i64 V, .slice a n c] 24 (0, 0)) (by simp)
        (try clear v0 v1 vl)
        have v0 : _ = some _ := heap_eq_cell hb 0
        have v1 : _ = some _ := heap_eq_cell hb 1
        have vl := lt_of_block hb
        clear hb
        go_wp2_with fail
        refine (HCK.out _ (by (repeat first | exact Fr.refl _ _ | assumption | apply Fr.n | apply Fr.d | apply Fr.a | refine Fr.s ?_ (.inr (by simp; try omega)) _))).mono ?_
        rintro e w9 ⟨rfl, h9⟩
        rw [HME.out]
        obtain ⟨N, hN⟩ : ∃ N : Int, (chkNV V cs (T.eraseIdx k) : Int) = N := ⟨_, rfl⟩
        rw [hN]
        have H9 := Lib.hid h9.drop
        clear h9 HCK HME H8 hN
        go_wp2
        go_roundg (q - (k + 1))
        case measure => omega
        case rel => exact ⟨k + 1, hkq, Nat.le_refl _, by simp, Lib.hid (H9.out.step (by (repeat first | exact Fr.refl _ _ | assumption | apply Fr.n | apply Fr.d | apply Fr.a | refine Fr.s ?_ (.inr (by simp; try omega)) _)))⟩
      · obtain rfl : q = k := by omega
        have hmaxl : (40 : Nat) ≤ maxLen := by decide
        have hlm : n ≤ maxLen := by omega
        clear hmaxl
        go_wp2_with (refine wpList_make1 (n := n) (z := .bool false) (bytes := 1) (e := 4) rfl rfl rfl rfl Try.underlying42 (by kernel_rfl) rfl (by omega) hlm ?_)
        intro w7 hrow7 hf7 hs7
        have h7 := HH.out.newRow hf7 hrow7
        obtain ⟨kb, hkb⟩ : ∃ b, wr.heap.size = b := ⟨_, rfl⟩
        rw [hkb, marks_nil] at h7
        rw [hkb]
        have H7 := Lib.hid h7
        clear h7 hrow7 hf7 hs7 hkb HH hlm
        go_wp2
        go_loopg [133] nc (fun gg z wr => ∃ k : Nat, k ≤ nc ∧ nc - k ≤ gg ∧ z = .int .i64 (k : Int) ∧ Hid (Has w wr (Hp.row 4 1 (.slice (some ⟨kb, 0, none⟩) n n) n (bv (marks n (L.take k))) :: Hp.row 3 1 (.slice ca nc cc) nc (nv L) :: Hp.row 25 1 (.slice (some ⟨tg, 0, none⟩) (q + 1) tc) (q + 1) (TV.map (·.1)) :: [Hp.blk fb (.cells #[.int .i64 V, .slice a n c] 24 (0, 0))])))
        case atStart => exact ⟨0, Nat.zero_le _, by omega, rfl, Lib.hid (H7.out.step (by (repeat first | exact Fr.refl _ _ | assumption | apply Fr.n | apply Fr.d | apply Fr.a | refine Fr.s ?_ (.inr (by simp; try omega)) _)))⟩
        case round =>
          obtain ⟨k, hk, hg, rfl, HH⟩ := hrel
          clear H7
          by_cases hkn : k < nc
          · obtain ⟨x, hx⟩ : ∃ x, L[k]? = some x := ⟨_, List.getElem?_eq_getElem (by rw [HNC.out]; exact hkn)⟩
            have hxn : x < n := by have := HCF.out.low x (List.mem_of_getElem? hx); rw [HN.out.1] at this; exact this
            have hr2 := (HH.out.bring 1).row
            obtain ⟨cg, rfl⟩ := owns_some hr2 (by omega)
            have c0 := owns_cell hr2 rfl (nv_get hx)
            have cgl := owns_lt hr2 rfl
            have hr := HH.out.row
            have hml : (bv (marks n (L.take k))).length = n := by rw [bv_length, marks_len]
            obtain ⟨y, hy⟩ : ∃ y, (bv (marks n (L.take k)))[x]? = some y := ⟨_, List.getElem?_eq_getElem (by omega)⟩
            have r0 := owns_cell hr rfl hy
            have rz := owns_frozen hr rfl x
            have rl := owns_lt hr rfl
            have hset := Has.rowSet (j := x) HH.out (by omega) (.bool true)
            have htk : L.take (k + 1) = L.take k ++ [x] := by rw [List.take_add_one, hx]; rfl
            rw [bv_set, marks_set, ← htk] at hset
            have HS := Lib.hid hset
            have b1 : decide ((x : Int) < 0) = false := by simp
            have b2 : decide (n ≤ x) = false := decide_eq_false (by omega)
            by_cases hk0 : k = 0
            · subst hk0
              clear hr hr2 hml hy hset htk hx HH
              go_wp2
              (refine wp_region_text (by kernel_rfl) (by kernel_rfl) ?_)
              go_wp2
              refine Strict.intro rfl ?_
              go_wp2
              go_roundg (nc - (0 + 1))
              case measure => omega
              case rel => exact ⟨0 + 1, hkn, Nat.le_refl _, by simp, Lib.hid (HS.out.step (by (repeat first | exact Fr.refl _ _ | assumption | apply Fr.n | apply Fr.d | apply Fr.a | refine Fr.s ?_ (.inr (by simp; try omega)) _)))⟩
            · obtain ⟨j, rfl⟩ : ∃ j, k = j + 1 := ⟨k - 1, by omega⟩
              obtain ⟨z, hz⟩ : ∃ z, L[j]? = some z := ⟨_, List.getElem?_eq_getElem (by rw [HNC.out]; omega)⟩
              have hzx := asc_step HCF.out.asc hz hx
              have d0 := owns_cell hr2 rfl (nv_get hz)
              have b3 : decide (x ≤ z) = false := decide_eq_false (by omega)
              have b4 : decide (((j : Int) + 1) > 0) = true := decide_eq_true (by omega)
              have b5 : (j : Int) + 1 - 1 = (j : Int) := by omega
              clear hr hr2 hml hy hset htk hx hz HH
              go_wp2
              (refine wp_region_text (by kernel_rfl) (by kernel_rfl) ?_)
              go_wp2
              refine Strict.intro rfl ?_
              go_wp2
              go_roundg (nc - (j + 1 + 1))
              case measure => omega
              case rel => exact ⟨j + 1 + 1, hkn, Nat.le_refl _, by simp, Lib.hid (HS.out.step (by (repeat first | exact Fr.refl _ _ | assumption | apply Fr.n | apply Fr.d | apply Fr.a | refine Fr.s ?_ (.inr (by simp; try omega)) _)))⟩
          · obtain rfl : nc = k := by omega
            have h7 := HH.out
            rw [List.take_of_length_le (by rw [HNC.out]; exact Nat.le_refl _)] at h7
            have H7 := Lib.hid h7
            clear h7 HH
            have hb := blk_mem H7.out (b := fb) (o := .cells #[.int .i64 V, .slice a n c] 24 (0, 0)) (by simp)
            (try clear v0 v1 vl)
            have v0 : _ = some _ := heap_eq_cell hb 0
            have v1 : _ = some _ := heap_eq_cell hb 1
            have vl := lt_of_block hb
            clear hb
            have hml : (marks n L).length = n := marks_len n L
            have hBS : ∀ Rs, Hp.row 4 1 (.slice (some ⟨kb, 0, none⟩) n n) n (bv (marks n L)) ∈ Rs → BoolsSrc w Rs (some ⟨kb, 0, none⟩) n (marks n L) := fun Rs hm => BoolsSrc.row hml hm
            have hCH := fun w' (hf : Fr [] wr w') => Chosen_calls (V := V) (H7.out.step hf) (HFH.out.more fun P hP => by simp at hP) (by rw [HN.out.1]; omega) (hBS _ (List.mem_cons_self ..)) (by rw [hml, HN.out.1])
            rw [HN.out.1, hml] at hCH
            have HCH := Lib.hid hCH
            clear hml hBS hCH
            go_wp2_with fail
            refine (HCH.out _ (by (repeat first | exact Fr.refl _ _ | assumption | apply Fr.n | apply Fr.d | apply Fr.a | refine Fr.s ?_ (.inr (by simp; try omega)) _))).mono ?_
            rintro e w8 ⟨va, vc, rfl, h8⟩
            have hCM := HFH.out.chosen (Has.nil (Fr.refl [] w)) (by rw [HN.out.1]; omega) HC20.out.1 (marks n L) (va := va) (vc := vc) rfl
            have HCK := Lib.hid (fun w' (hf : Fr [] w8 w') => Check_calls (V := V) (h8.step hf) (hCM.more fun P hP => by simp at hP; simp [hP]) (HPH.out.more fun P hP => by simp at hP) (fun r hr => HC20.out.1 r (chosen_mem hr)) HC20.out.2)
            rw [HN.out.2] at HCK
            have HOK := Lib.hid HCF.out.ok
            rw [HN.out.1] at HOK
            clear h8 hCM HCH
            go_wp2_with fail
            refine (HCK.out _ (by (repeat first | exact Fr.refl _ _ | assumption | apply Fr.n | apply Fr.d | apply Fr.a | refine Fr.s ?_ (.inr (by simp; try omega)) _))).mono ?_
            rintro e w9 ⟨rfl, h9⟩
            rw [HOK.out]
            obtain ⟨N, hN⟩ : ∃ N : Int, (chkNV V (chosen (marks n L) cs) p : Int) = N := ⟨_, rfl⟩
            rw [hN]
            have H9 := Lib.hid h9.drop
            clear h9 hN HCK HOK H7
            go_wp2
            go_loopg [185] nc (fun gg z wr => ∃ k : Nat, k ≤ nc ∧ nc - k ≤ gg ∧ z = .int .i64 (k : Int) ∧ Hid (Has w wr (Hp.row 4 1 (.slice (some ⟨kb, 0, none⟩) n n) n (bv (marks n L)) :: Hp.row 3 1 (.slice ca nc cc) nc (nv L) :: Hp.row 25 1 (.slice (some ⟨tg, 0, none⟩) (q + 1) tc) (q + 1) (TV.map (·.1)) :: [Hp.blk fb (.cells #[.int .i64 V, .slice a n c] 24 (0, 0))])))
            case atStart => exact ⟨0, Nat.zero_le _, by omega, rfl, Lib.hid (H9.out.step (by (repeat first | exact Fr.refl _ _ | assumption | apply Fr.n | apply Fr.d | apply Fr.a | refine Fr.s ?_ (.inr (by simp; try omega)) _)))⟩
            case round =>
              obtain ⟨k, hk, hg, rfl, HH⟩ := hrel
              clear H9
              by_cases hkn : k < nc
              · obtain ⟨x, hx⟩ : ∃ x, L[k]? = some x := ⟨_, List.getElem?_eq_getElem (by rw [HNC.out]; exact hkn)⟩
                have hxn : x < n := by have := HCF.out.low x (List.mem_of_getElem? hx); rw [HN.out.1] at this; exact this
                have hr2 := (HH.out.bring 1).row
                obtain ⟨cg, rfl⟩ := owns_some hr2 (by omega)
                have c0 := owns_cell hr2 rfl (nv_get hx)
                have cgl := owns_lt hr2 rfl
                have hr := HH.out.row
                have hml : (bv (marks n L)).length = n := by rw [bv_length, marks_len]
                obtain ⟨y, hy⟩ : ∃ y, (bv (marks n L))[x]? = some y := ⟨_, List.getElem?_eq_getElem (by omega)⟩
                have r0 := owns_cell hr rfl hy
                have rz := owns_frozen hr rfl x
                have rl := owns_lt hr rfl
                have hset := Has.rowSet (j := x) HH.out (by omega) (.bool false)
                rw [bv_set, marks_off HCF.out.asc hx] at hset
                have HX := Lib.hid hx
                have HS := Lib.hid hset
                have hbk := blk_mem HH.out (b := fb) (o := .cells #[.int .i64 V, .slice a n c] 24 (0, 0)) (by simp)
                have v0 : _ = some _ := heap_eq_cell hbk 0
                have v1 : _ = some _ := heap_eq_cell hbk 1
                have vl := lt_of_block hbk
                have hvk := HH.out.ord 4 [3, 0]
                simp only [List.filterMap_cons, List.filterMap_nil, List.getElem?_cons_zero, List.getElem?_cons_succ, List.drop_succ_cons, List.drop_zero, List.cons_append, List.nil_append, List.take_succ_cons, List.take_zero, List.eraseIdx_cons_succ, List.eraseIdx_zero, List.eraseIdx_cons_zero, List.tail_cons, Option.toList_some] at hvk
                have vkb : fb ≠ kb := hvk.br
                clear hvk
                have hml2 : (marks n (L.eraseIdx k)).length = n := marks_len n _
                have hBS : ∀ Rs, Hp.row 4 1 (.slice (some ⟨kb, 0, none⟩) n n) n (bv (marks n (L.eraseIdx k))) ∈ Rs → BoolsSrc w Rs (some ⟨kb, 0, none⟩) n (marks n (L.eraseIdx k)) := fun Rs hm => BoolsSrc.row hml2 hm
                have hCH := fun w' (hf : Fr [] _ w') => Chosen_calls (V := V) (HS.out.step hf) (HFH.out.more fun P hP => by simp at hP) (by rw [HN.out.1]; omega) (hBS _ (List.mem_cons_self ..)) (by rw [hml2, HN.out.1])
                rw [HN.out.1, hml2] at hCH
                have HCH := Lib.hid hCH
                clear hml2 hBS hCH hr hr2 hml hy hset hx hbk HH
                go_wp2_with fail
                refine (HCH.out _ (by (repeat first | exact Fr.refl _ _ | assumption | apply Fr.n | apply Fr.d | apply Fr.a | refine Fr.s ?_ (.inr (by simp; try omega)) _))).mono ?_
                rintro e w8 ⟨va, vc, rfl, h8⟩
                have hCM := HFH.out.chosen (Has.nil (Fr.refl [] w)) (by rw [HN.out.1]; omega) HC20.out.1 (marks n (L.eraseIdx k)) (va := va) (vc := vc) rfl
                have HCK := Lib.hid (fun w' (hf : Fr [] w8 w') => Check_calls (V := V) (h8.step hf) (hCM.more fun P hP => by simp at hP; simp [hP]) (HPH.out.more fun P hP => by simp at hP) (fun r hr => HC20.out.1 r (chosen_mem hr)) HC20.out.2)
                rw [HN.out.2] at HCK
                have HOK := Lib.hid (HCF.out.min k (by rw [HNC.out]; exact hkn))
                rw [HN.out.1] at HOK
                clear h8 hCM HCH v0 v1 vl vkb c0 cgl r0 rz rl HS
                go_wp2_with fail
                refine (HCK.out _ (by (repeat first | exact Fr.refl _ _ | assumption | apply Fr.n | apply Fr.d | apply Fr.a | refine Fr.s ?_ (.inr (by simp; try omega)) _))).mono ?_
                rintro e w9 ⟨rfl, h9⟩
                rw [HOK.out]
                obtain ⟨N, hN⟩ : ∃ N : Int, (chkNV V (chosen (marks n (L.eraseIdx k)) cs) p : Int) = N := ⟨_, rfl⟩
                rw [hN]
                have h10 := h9.drop
                have hr2 := (h10.bring 1).row
                have c0 := owns_cell hr2 rfl (nv_get HX.out)
                have cgl := owns_lt hr2 rfl
                have hr := h10.row
                have hml : (bv (marks n (L.eraseIdx k))).length = n := by rw [bv_length, marks_len]
                obtain ⟨y2, hy⟩ : ∃ y, (bv (marks n (L.eraseIdx k)))[x]? = some y := ⟨_, List.getElem?_eq_getElem (by omega)⟩
                have r0 := owns_cell hr rfl hy
                have rz := owns_frozen hr rfl x
                have rl := owns_lt hr rfl
                have hset := Has.rowSet (j := x) h10 (by omega) (.bool true)
                rw [bv_set, marks_on HCF.out.asc HX.out] at hset
                have HS := Lib.hid hset
                clear h9 h10 hN HCK HOK hr2 hr hml hy hset
                go_wp2
                go_roundg (nc - (k + 1))
                case measure => omega
                case rel => exact ⟨k + 1, hkn, Nat.le_refl _, by simp, Lib.hid (HS.out.step (by (repeat first | exact Fr.refl _ _ | assumption | apply Fr.n | apply Fr.d | apply Fr.a | refine Fr.s ?_ (.inr (by simp; try omega)) _)))⟩
              · obtain rfl : nc = k := by omega
                go_wp2_with fail
                refine (HAW.out _).mono ?_
                rintro e w9 ⟨rfl, hf9⟩
                have HF9 := Lib.hid hf9
                clear hf9
                go_wp2
                go_ret
                exact ⟨rfl, HH.out.fr.trans0 HF9.out⟩
end Go.Proofs.Ytbpaadpocihahaa
end
