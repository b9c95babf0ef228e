/- Own texts of this claim, part 14: no condition. -/
import Derived.Test.YtppmnmheodimoaaZM11
import Derived.Test.YtppmnmheodimoaaZM12
set_option linter.unusedVariables false
set_option linter.unusedSimpArgs false
section
/- The reference of layer 25: copied. -/
namespace Go.Proofs.Ytppmnmheodimoaa
set_option linter.unusedVariables false
set_option linter.unusedSimpArgs false
open Go Go.RowKit Go.Proofs.Rg Go.Proofs.Mp Go.Proofs.Hp Go.Proofs.Qs
def CopyPost (w : World) (s : Int) (ns : List K4) (e : Ending) (w' : World) : Prop := ∃ v, e = .returned (.agg #[.int .i64 s, v]) ∧ w'.ownsRow w.heap.size 77 4 v ns.length (flat ns) ∧ Fr [] w w'
set_option maxHeartbeats 4000000 in
theorem copied_ref {w : World} {s : Int} {ns : List K4} {v : Value} (hl : ns.length ≤ 1048576) (hv : Reads w v ns.length 4 (flat ns)) :
    Calls Try.prog 44 #[.agg #[.int .i64 s, v]] w (CopyPost w s ns) := by
  have hvk := hv
  obtain ⟨_, a, c, rfl, hav⟩ := hv
  have Hav := Lib.hid hav
  have Hvk := Lib.hid hvk
  clear hav hvk
  obtain ⟨i0, hi0, hi1, hi2, hi3⟩ := info_parts info_quad
  go_enter Try.func44, Try.ntmps44
  go_wp2
  go_loopw [4] (fun x wr => ∃ (k : Nat) (nv : Value), x = .int .i64 k ∧ k ≤ ns.length ∧ Fr [] w wr ∧ w.heap.size + 3 ≤ wr.heap.size ∧ wr.heap[w.heap.size]? = some (.cells #[.int .i64 s, .slice a ns.length c] 39 (0, 0)) ∧
      wr.heap[w.heap.size + 1]? = some (.cells #[.int .i64 0, .slice none 0 0] 39 (0, 0)) ∧ wr.heap[w.heap.size + 2]? = some (.cells #[.int .i64 s, nv] 39 (0, 0)) ∧
      wr.ownsRow (w.heap.size + 3) 77 4 nv k (flat (ns.take k))) (fun x _ => ns.length - (intOf x).toNat)
  case atStart =>
    refine ⟨0, .slice none 0 0, rfl, by omega, ?_, ?_, ?_, ?_, ?_, World.ownsRow_nil _ _ _ _⟩
    · repeat (first | exact Fr.refl _ _ | apply Fr.drewN | apply Fr.drew | apply Fr.alloc | refine Fr.setCell ?_ (Or.inr (by simp)) _)
    · simp only [hp_alloc_size]; omega
    · (repeat (first | rw [if_pos (by omega)] | rw [if_neg (by omega)] | rw [hp_drew] | rw [hp_drewN] | rw [hp_alloc_size] | rw [hp_setCell_size] | rw [hp_alloc] | rw [hp_setCell] | rw [Option.map_some] | rw [upd_cells] | rw [List.set_cons_zero] | rw [List.set_cons_succ] | rfl))
    · (repeat (first | rw [if_pos (by omega)] | rw [if_neg (by omega)] | rw [hp_drew] | rw [hp_drewN] | rw [hp_alloc_size] | rw [hp_setCell_size] | rw [hp_alloc] | rw [hp_setCell] | rw [Option.map_some] | rw [upd_cells] | rw [List.set_cons_zero] | rw [List.set_cons_succ] | rfl))
    · (repeat (first | rw [if_pos (by omega)] | rw [if_neg (by omega)] | rw [hp_drew] | rw [hp_drewN] | rw [hp_alloc_size] | rw [hp_setCell_size] | rw [hp_alloc] | rw [hp_setCell] | rw [Option.map_some] | rw [upd_cells] | rw [List.set_cons_zero] | rw [List.set_cons_succ] | rfl))
  case round =>
    obtain ⟨k, nv, rfl, hk, hf, hsz, hb0, hb1, hb2, hown⟩ := hrel
    have b0 := heap_eq_cell hb0 0
    have b1 := heap_eq_cell hb0 1
    have r0 := heap_eq_cell hb1 0
    have r1 := heap_eq_cell hb1 1
    have q0 := heap_eq_frozen hb1 0
    have q1 := heap_eq_frozen hb1 1
    have o0 := heap_eq_cell hb2 0
    have o1 := heap_eq_cell hb2 1
    have p1 := heap_eq_frozen hb2 1
    have Hsz := Lib.hid hsz
    have hz0 : w.heap.size < wr.heap.size := by omega
    have hz1 : w.heap.size + 1 < wr.heap.size := by omega
    have hz2 : w.heap.size + 2 < wr.heap.size := by omega
    have hnb : ∀ x, nv.ownBlock = some x → w.heap.size + 3 ≤ x := fun x hx => owns_ge hown hx
    have Hnb := Lib.hid hnb
    have Hf := Lib.hid hf
    have H0 := Lib.hid hb0
    have H1 := Lib.hid hb1
    have H2 := Lib.hid hb2
    have Hown := Lib.hid hown
    obtain ⟨na, nc, rfl, _, _⟩ := owns_form hown
    clear hf hb0 hb1 hb2 hown hsz hnb
    by_cases hlt : k < ns.length
    · obtain ⟨g, off, rfl, hg, hc⟩ := Hav.out (by omega)
      obtain ⟨f0, f1, f2, f3⟩ := flat_get (List.getElem?_eq_getElem hlt)
      rw [Nat.mul_comm] at f0 f1 f2 f3
      obtain ⟨x, hx⟩ : ∃ x, x = ns[k] := ⟨_, rfl⟩
      rw [← hx] at f0 f1 f2 f3
      have hgw : ∀ j, wr.cell? ⟨g, off + j, none⟩ = w.cell? ⟨g, off + j, none⟩ := fun j => Hf.out.cell (p := ⟨g, off + j, none⟩) hg (by simp)
      have e0 := (hgw _).trans (hc _ _ f0)
      have e1 := (hgw _).trans (hc _ _ f1)
      have e2 := (hgw _).trans (hc _ _ f2)
      have e3 := (hgw _).trans (hc _ _ f3)
      simp only [← Nat.add_assoc] at e1 e2 e3
      have hgr : g < wr.heap.size := by omega
      have Hx := Lib.hid hx
      clear hx hc f0 f1 f2 f3 hgw
      go_wp2
      (refine wp_region_text (by kernel_rfl) (by kernel_rfl) ?_)
      go_wp2_with (at_builtin; refine append_quad (k := x) (n := k) (base := w.heap.size + 3) (xs := flat (ns.take k)) rfl rfl rfl ?e1 rfl ?e2 ?e3 ?e4 ?_)
      case e1 => exact owns_of_block Hown.out fun y hy => by rw [hp_drew]; exact heap_alloc_else _ _ _ (owns_lt Hown.out hy)
      case e2 => (repeat (first | rw [if_pos (by omega)] | rw [if_neg (by omega)] | rw [hp_drew] | rw [hp_drewN] | rw [hp_alloc_size] | rw [hp_setCell_size] | rw [hp_alloc] | rw [hp_setCell] | rw [Option.map_some] | rw [upd_cells] | rw [List.set_cons_zero] | rw [List.set_cons_succ] | rfl))
      case e3 => omega
      case e4 => rw [hp_drew, hp_alloc_size]; omega
      intro g' cap w1 hown1 hW1 hF1 hloc1 hg1
      have old : ∀ y, y < w.heap.size + 3 → w1.heap[y]? = wr.heap[y]? := fun y hy => (hW1 y (by have := Hsz.out; first | omega | (simp only [hp_drew, hp_alloc_size]; omega)) (fun e => by have := Hnb.out y e; omega)).trans (by rw [hp_drew]; exact heap_alloc_else _ _ _ (by have := Hsz.out; omega))
      have hb2 := (old (w.heap.size + 2) (by omega)).trans H2.out
      have o0 := heap_eq_cell hb2 0
      have o1 := heap_eq_cell hb2 1
      have p1 := heap_eq_frozen hb2 1
      have Hown1 := Lib.hid hown1
      have Hold := Lib.hid old
      have HF1 := Lib.hid hF1
      have HB2 := Lib.hid hb2
      clear hown1 hW1 hF1 hloc1 old hb2
      have hs1 : w.heap.size + 2 < w1.heap.size := lt_of_block HB2.out
      go_wp2
      refine Strict.intro rfl ?_
      go_wp2
      go_roundw
      case rel =>
        have hG : w.heap.size + 3 ≤ g' := owns_ge Hown1.out rfl
        refine ⟨k + 1, .slice (some ⟨g', 0, none⟩) (k + 1) cap, by go_num, by omega, ?_, ?_, ?_, ?_, ?_, ?_⟩
        · refine (((Hf.out.alloc _).drew).trans HF1.out fun y hy => ?_).setCell (Or.inr (by simp; omega)) _
          have := Hnb.out y (by simpa using hy)
          right; omega
        · rw [hp_setCell_size]; have := HF1.out.size; simp only [hp_drew, hp_alloc_size] at this; have := Hsz.out; omega
        · rw [hp_setCell, if_neg (by omega), Hold.out _ (by omega)]; exact H0.out
        · rw [hp_setCell, if_neg (by omega), Hold.out _ (by omega)]; exact H1.out
        · rw [hp_setCell, if_pos rfl, HB2.out]; rfl
        · have ht : flat (ns.take (k + 1)) = flat (ns.take k) ++ kcells x := by
            rw [List.take_add_one, List.getElem?_eq_getElem hlt, ← Hx.out]
            exact flat_snoc _ _
          rw [ht]
          refine owns_of_block Hown1.out fun y hy => ?_
          have : g' = y := by simpa [Value.ownBlock] using hy
          rw [hp_setCell, if_neg (by omega)]
      case measure => simp [intOf]; omega
    · go_wp2
      refine bodyPost_ret (v := .agg #[.int .i64 s, .slice na k nc]) (by simp [results, Try.results44, go_sem, r0, r1]) rfl ⟨_, rfl, ?_, ?_⟩
      · have hkn : k = ns.length := by omega
        subst hkn
        rw [List.take_of_length_le (Nat.le_refl _)] at Hown
        refine owns_of_block (owns_base Hown.out (by omega)) fun y hy => ?_
        have := Hnb.out y hy
        exact heap_setCell2 _ _ _ _ _ _ (by omega)
      · exact (Hf.out.setCell (Or.inr (by simp)) _).setCell (Or.inr (by simp)) _
end Go.Proofs.Ytppmnmheodimoaa
end

section
/- The reference's store of layer 25: New, Load, Level, Kids, Data. -/
namespace Go.Proofs.Ytppmnmheodimoaa
set_option linter.unusedVariables false
set_option linter.unusedSimpArgs false
open Go Go.RowKit Go.Proofs.Rg Go.Proofs.Mp Go.Proofs.Hp Go.Proofs.Qs
/-- the reference's store: one block with the number of states and the nodes -/
structure RefIn (w : World) (b : Nat) (s : Int) (ns : List K4) (nv : Value) : Prop where
  blk : w.heap[b]? = some (.cells #[.int .i64 s, nv] 95 (0, 0))
  nodes : w.ownsRow 0 77 4 nv ns.length (flat ns)
  ne : nv.ownBlock ≠ some b
def RefAt (w : World) (b : Nat) (s : Int) (ns : List K4) (F : List Nat) : Prop := GoodQ s ns ∧ ∃ nv, RefIn w b s ns nv ∧ F = b :: nv.ownBlock.toList
theorem RefAt.keep {w w' : World} {b : Nat} {s : Int} {ns : List K4} {F : List Nat} (h : RefAt w b s ns F) (hk : ∀ x ∈ F, w'.heap[x]? = w.heap[x]?) : RefAt w' b s ns F := by
  obtain ⟨hg, nv, hI, rfl⟩ := h
  exact ⟨hg, nv, ⟨(hk b (by simp)).trans hI.blk, owns_of_block hI.nodes fun g hg => hk g (by simp [hg]), hI.ne⟩, rfl⟩
theorem RefAt.lt {w : World} {b : Nat} {s : Int} {ns : List K4} {F : List Nat} (h : RefAt w b s ns F) : ∀ x ∈ F, x < w.heap.size := by
  obtain ⟨_, nv, hI, rfl⟩ := h
  intro x hx
  simp only [List.mem_cons, Option.mem_toList] at hx
  rcases hx with rfl | hx
  · exact lt_of_block hI.blk
  · exact owns_lt hI.nodes hx
theorem RefAt.fr {w w' : World} {b : Nat} {s : Int} {ns : List K4} {F G : List Nat} (h : RefAt w b s ns F) (hf : Fr G w w') (hd : ∀ x ∈ F, x ∉ G) : RefAt w' b s ns F := h.keep fun x hx => hf.block x (h.lt x hx) (hd x hx)
set_option maxHeartbeats 1000000 in
theorem RNew_bad (s : Int) (w : World) (h : s < 2 ∨ 8 < s) :
    Calls Try.prog 30 #[.int .i64 s] w fun e w' => e = .returned (.tuple #[.pointer none, .int .i64 2]) ∧ w = w' := by
  rcases h with h | h
  · go_enter Try.func30, Try.ntmps30
    go_wp2
    go_ret2
    exact ⟨rfl, rfl⟩
  · have h' : ¬ s < 2 := by omega
    go_enter Try.func30, Try.ntmps30
    go_wp2
    go_ret2
    exact ⟨rfl, rfl⟩
set_option maxHeartbeats 1000000 in
theorem RNew_ok (s : Int) (w : World) (h : 2 ≤ s) (h' : s ≤ 8) :
    Calls Try.prog 30 #[.int .i64 s] w fun e w' => ∃ b F, e = .returned (.tuple #[.pointer (some ⟨b, 0, none⟩), .int .i64 0]) ∧ RefAt w' b s [] F ∧ Fr [] w w' ∧ ∀ x ∈ F, w.heap.size ≤ x := by
  go_enter Try.func30, Try.ntmps30
  go_wp2
  go_ret2
  refine ⟨w.heap.size, [w.heap.size], rfl, ⟨GoodQ.nil h h', .slice none 0 0, ⟨by (repeat (first | rw [if_pos (by omega)] | rw [if_neg (by omega)] | rw [hp_drew] | rw [hp_drewN] | rw [hp_alloc_size] | rw [hp_setCell_size] | rw [hp_alloc] | rw [hp_setCell] | rw [Option.map_some] | rw [upd_cells] | rw [List.set_cons_zero] | rw [List.set_cons_succ] | rfl)), World.ownsRow_nil _ _ _ _, by simp [Value.ownBlock]⟩, rfl⟩, by (repeat (first | exact Fr.refl _ _ | assumption | apply Fr.drewN | apply Fr.drew | apply Fr.alloc | refine Fr.setCell ?_ (Or.inr (by simp; try omega)) _)), by simp⟩
/-- what the reference's Load leaves -/
def RLoadPost (w : World) (s : Int) (ns : List K4) (e : Ending) (w' : World) : Prop :=
  (GoodQ s ns → ∃ b F, e = .returned (.tuple #[.pointer (some ⟨b, 0, none⟩), .int .i64 0]) ∧ RefAt w' b s ns F ∧ Fr [] w w' ∧ ∀ x ∈ F, w.heap.size ≤ x) ∧
  (¬ GoodQ s ns → e = .returned (.tuple #[.pointer none, .int .i64 2]) ∧ Fr [] w w')
set_option maxHeartbeats 4000000 in
theorem RLoad_calls {w : World} {s : Int} {ns : List K4} {v : Value} (hl : ns.length ≤ 90000) (hv : Reads w v ns.length 4 (flat ns)) :
    Calls Try.prog 18 #[.agg #[.int .i64 s, v]] w (RLoadPost w s ns) := by
  have hvk := hv
  obtain ⟨_, a, c, rfl, hav⟩ := hv
  have Hvk := Lib.hid hvk
  have Hl := Lib.hid hl
  clear hav hvk hl
  go_enter Try.func18, Try.ntmps18
  go_wp2_with fail
  have hbx : (w.alloc (.cells #[.int .i64 s, .slice a ns.length c] 39)).heap[w.heap.size]? = some (.cells #[.int .i64 s, .slice a ns.length c] 39 (0, 0)) := by (repeat (first | rw [if_pos (by omega)] | rw [if_neg (by omega)] | rw [hp_drew] | rw [hp_drewN] | rw [hp_alloc_size] | rw [hp_setCell_size] | rw [hp_alloc] | rw [hp_setCell] | rw [Option.map_some] | rw [upd_cells] | rw [List.set_cons_zero] | rw [List.set_cons_succ] | rfl))
  have hf0 : Fr [] w (w.alloc (.cells #[.int .i64 s, .slice a ns.length c] 39)) := by (repeat (first | exact Fr.refl _ _ | assumption | apply Fr.drewN | apply Fr.drew | apply Fr.alloc | refine Fr.setCell ?_ (Or.inr (by simp; try omega)) _))
  generalize w.alloc (.cells #[.int .i64 s, .slice a ns.length c] 39) = w0 at *
  refine (RRight_calls (by have := Hl.out; omega) (Hvk.out.fr hf0)).mono ?_
  rintro e w1 ⟨rfl, hf1⟩
  have hb1 := (hf1.block _ (lt_of_block hbx) (by simp)).trans hbx
  have c0 := heap_eq_cell hb1 0
  have c1 := heap_eq_cell hb1 1
  simp at c0 c1
  have Hf1 := Lib.hid (hf0.trans0 hf1)
  clear hb1 hbx hf0 hf1
  by_cases hg : GoodQ s ns
  · rw [decide_eq_true hg]
    have Hg := Lib.hid hg
    clear hg
    go_wp2_with fail
    refine (copied_ref (by have := Hl.out; omega) (Hvk.out.fr Hf1.out)).mono ?_
    rintro e w2 ⟨v, rfl, ho, hf2⟩
    obtain ⟨va, vc, rfl, _⟩ := owns_form ho
    have Ho := Lib.hid ho
    have Hf2 := Lib.hid hf2
    clear ho hf2
    go_wp2
    go_ret2
    refine ⟨fun _ => ⟨w2.heap.size, w2.heap.size :: (Value.slice va ns.length vc).ownBlock.toList, rfl, ⟨Hg.out, _, ⟨by (repeat (first | rw [if_pos (by omega)] | rw [if_neg (by omega)] | rw [hp_drew] | rw [hp_drewN] | rw [hp_alloc_size] | rw [hp_setCell_size] | rw [hp_alloc] | rw [hp_setCell] | rw [Option.map_some] | rw [upd_cells] | rw [List.set_cons_zero] | rw [List.set_cons_succ] | rfl)), ?_, ?_⟩, rfl⟩, (Hf1.out.trans0 Hf2.out).alloc _, ?_⟩, fun h => absurd Hg.out h⟩
    · exact owns_of_block (owns_base Ho.out (by omega)) fun x hx => heap_alloc_else _ _ _ (owns_lt Ho.out hx)
    · intro h
      have := owns_lt Ho.out h
      omega
    · intro x hx
      simp only [List.mem_cons, Option.mem_toList] at hx
      have h1 := Hf1.out.size
      have h2 := Hf2.out.size
      rcases hx with rfl | hx
      · omega
      · have := owns_ge Ho.out hx; omega
  · rw [decide_eq_false hg]
    have Hg := Lib.hid hg
    clear hg
    go_wp2
    go_ret2
    exact ⟨fun h => absurd h Hg.out, fun _ => ⟨rfl, Hf1.out⟩⟩
end Go.Proofs.Ytppmnmheodimoaa
end

section
/- The reference's store of layer 25: Level, Kids, Data. -/
namespace Go.Proofs.Ytppmnmheodimoaa
set_option linter.unusedVariables false
set_option linter.unusedSimpArgs false
open Go Go.RowKit Go.Proofs.Rg Go.Proofs.Mp Go.Proofs.Hp Go.Proofs.Qs
set_option maxHeartbeats 2000000 in
theorem RLevel_calls {w : World} {b : Nat} {s : Int} {ns : List K4} {F : List Nat} (hS : RefAt w b s ns F) (id : Int) :
    Calls Try.prog 42 #[.pointer (some ⟨b, 0, none⟩), .int .i64 id] w fun e w' => e = .returned (.int .i64 (lvl s (levs s ns) id)) ∧ Fr [] w w' := by
  obtain ⟨hgood, nv, hI, rfl⟩ := hS
  obtain ⟨na, nc, rfl, _, _⟩ := owns_form hI.nodes
  have b0 := heap_eq_cell hI.blk 0
  have b1 := heap_eq_cell hI.blk 1
  have HI := Lib.hid hI
  have Hgood := Lib.hid hgood
  clear hI hgood
  go_enter Try.func42, Try.ntmps42
  go_wp2_with fail
  refine (level_ref Hgood.out (Reads.of_owns HI.out.nodes) id).mono ?_
  rintro e w' ⟨rfl, o, rfl⟩
  go_wp2
  go_ret
  exact ⟨rfl, by (repeat (first | exact Fr.refl _ _ | assumption | apply Fr.drewN | apply Fr.drew | apply Fr.alloc | refine Fr.setCell ?_ (Or.inr (by simp; try omega)) _))⟩
set_option maxHeartbeats 2000000 in
theorem RKids_calls {w : World} {b : Nat} {s : Int} {ns : List K4} {F : List Nat} (hS : RefAt w b s ns F) (id : Int) :
    Calls Try.prog 51 #[.pointer (some ⟨b, 0, none⟩), .int .i64 id] w fun e w' => e = .returned (.tuple #[kv (kidsOf s ns id).1, .bool (kidsOf s ns id).2]) ∧ Fr [] w w' := by
  obtain ⟨hgood, nv, hI, rfl⟩ := hS
  obtain ⟨na, nc, rfl, hna, _⟩ := owns_form hI.nodes
  have b0 := heap_eq_cell hI.blk 0
  have b1 := heap_eq_cell hI.blk 1
  have hb := lt_of_block hI.blk
  have hs1 : 2 ≤ s := hgood.1
  have hs2 : s ≤ 8 := hgood.2.1
  have hn : ns.length ≤ 1048576 := by have := hgood.2.2.1; omega
  have HI := Lib.hid hI
  have Hna := Lib.hid hna
  clear hI hgood hna
  unfold kidsOf
  by_cases hst : id < s
  · rw [if_pos hst]
    unfold kv
    go_enter Try.func51, Try.ntmps51
    go_wp2
    (refine wp_region_text (by kernel_rfl) (by kernel_rfl) ?_)
    go_wp2
    refine Strict.intro rfl ?_
    go_wp2
    exact bodyPost_ret (v := .tuple #[.agg #[.int .i64 0, .int .i64 0, .int .i64 0, .int .i64 0], .bool false]) (by simp [results, Try.results51, go_sem]) rfl ⟨rfl, by (repeat (first | exact Fr.refl _ _ | assumption | apply Fr.drewN | apply Fr.drew | apply Fr.alloc | refine Fr.setCell ?_ (Or.inr (by simp; try omega)) _))⟩
  · rw [if_neg hst]
    by_cases hfar : s + ns.length ≤ id
    · rw [List.getElem?_eq_none (by omega)]
      unfold kv
      go_enter Try.func51, Try.ntmps51
      go_wp2
      (refine wp_region_text (by kernel_rfl) (by kernel_rfl) ?_)
      go_wp2
      refine Strict.intro rfl ?_
      go_wp2
      exact bodyPost_ret (v := .tuple #[.agg #[.int .i64 0, .int .i64 0, .int .i64 0, .int .i64 0], .bool false]) (by simp [results, Try.results51, go_sem]) rfl ⟨rfl, by (repeat (first | exact Fr.refl _ _ | assumption | apply Fr.drewN | apply Fr.drew | apply Fr.alloc | refine Fr.setCell ?_ (Or.inr (by simp; try omega)) _))⟩
    · obtain ⟨i, rfl⟩ : ∃ i : Nat, id = s + i := ⟨(id - s).toNat, by omega⟩
      have hi : i < ns.length := by omega
      rw [show (s + (i : Int) - s).toNat = i by omega, List.getElem?_eq_getElem hi]
      obtain ⟨g, rfl⟩ := Hna.out (by omega)
      obtain ⟨f0, f1, f2, f3⟩ := flat_get (List.getElem?_eq_getElem hi)
      rw [Nat.mul_comm] at f0 f1 f2 f3
      obtain ⟨k, hk⟩ : ∃ k, k = ns[i] := ⟨_, rfl⟩
      rw [← hk] at f0 f1 f2 f3 ⊢
      have e0 := owns_cell HI.out.nodes rfl f0
      have e1 := owns_cell HI.out.nodes rfl f1
      have e2 := owns_cell HI.out.nodes rfl f2
      have e3 := owns_cell HI.out.nodes rfl f3
      have hg := owns_lt HI.out.nodes rfl
      have hw1 : IntKind.i64.wrap (s + ↑i - s) = ↑i := IntWalk.i64_in _ (by omega) |>.trans (by omega)
      clear f0 f1 f2 f3 hk hst hfar
      unfold kv
      go_enter Try.func51, Try.ntmps51
      go_wp2
      (refine wp_region_text (by kernel_rfl) (by kernel_rfl) ?_)
      go_wp2
      refine Strict.intro rfl ?_
      go_wp2
      (refine wp_region_text (by kernel_rfl) (by kernel_rfl) ?_)
      go_wp2
      refine Strict.intro rfl ?_
      go_wp2
      exact bodyPost_ret (v := .tuple #[.agg #[.int .i64 k.a, .int .i64 k.b, .int .i64 k.c, .int .i64 k.d], .bool true]) (by simp [results, Try.results51, go_sem]) rfl ⟨rfl, by (repeat (first | exact Fr.refl _ _ | assumption | apply Fr.drewN | apply Fr.drew | apply Fr.alloc | refine Fr.setCell ?_ (Or.inr (by simp; try omega)) _))⟩
set_option maxHeartbeats 2000000 in
theorem RData_calls {w : World} {b : Nat} {s : Int} {ns : List K4} {F : List Nat} (hS : RefAt w b s ns F) :
    Calls Try.prog 32 #[.pointer (some ⟨b, 0, none⟩)] w (CopyPost w s ns) := by
  obtain ⟨hgood, nv, hI, rfl⟩ := hS
  obtain ⟨na, nc, rfl, _, _⟩ := owns_form hI.nodes
  have b0 := heap_eq_cell hI.blk 0
  have b1 := heap_eq_cell hI.blk 1
  have hb := lt_of_block hI.blk
  have HI := Lib.hid hI
  have Hgood := Lib.hid hgood
  clear hI hgood
  go_enter Try.func32, Try.ntmps32
  go_wp2_with fail
  refine (copied_ref (s := s) (by have := Hgood.out.2.2.1; omega) ((Reads.of_owns HI.out.nodes).fr (by (repeat (first | exact Fr.refl _ _ | assumption | apply Fr.drewN | apply Fr.drew | apply Fr.alloc | refine Fr.setCell ?_ (Or.inr (by simp; try omega)) _))))).mono ?_
  rintro e w1 ⟨v, rfl, ho, hf⟩
  have hl : w1.heap[w.heap.size]? = some (.cells #[.int .i64 0, .slice none 0 0] 39 (0, 0)) := (hf.block _ (by rw [hp_alloc_size]; omega) (by simp)).trans (by (repeat (first | rw [if_pos (by omega)] | rw [if_neg (by omega)] | rw [hp_drew] | rw [hp_drewN] | rw [hp_alloc_size] | rw [hp_setCell_size] | rw [hp_alloc] | rw [hp_setCell] | rw [Option.map_some] | rw [upd_cells] | rw [List.set_cons_zero] | rw [List.set_cons_succ] | rfl)))
  have l0 := heap_eq_cell hl 0
  have l1 := heap_eq_cell hl 1
  have g0 := heap_eq_frozen hl 0
  have g1 := heap_eq_frozen hl 1
  obtain ⟨va, vc, rfl, hva, hvn⟩ := owns_form ho
  have hne : (Value.slice va ns.length vc).ownBlock ≠ some w.heap.size := fun e => by
    have := owns_ge ho e; rw [hp_alloc_size] at this; omega
  have Ho := Lib.hid ho
  have Hne := Lib.hid hne
  have Hf := Lib.hid (((Fr.refl [] w).alloc _).trans0 hf)
  clear ho hva hvn hf hl hne
  go_wp2
  exact bodyPost_ret (v := .agg #[.int .i64 s, .slice va ns.length vc]) (by simp [results, Try.results32, go_sem, l0, l1]) rfl
    ⟨_, rfl, owns_of_block (base := w.heap.size) (owns_base Ho.out (by rw [hp_alloc_size]; omega)) fun x hx => heap_setCell2 _ _ _ _ _ _ (fun e => Hne.out (by rw [hx, e])), by repeat (first | exact Hf.out | apply Fr.drewN | apply Fr.drew | apply Fr.alloc | refine Fr.setCell ?_ (Or.inr (by simp)) _)⟩
end Go.Proofs.Ytppmnmheodimoaa
end
