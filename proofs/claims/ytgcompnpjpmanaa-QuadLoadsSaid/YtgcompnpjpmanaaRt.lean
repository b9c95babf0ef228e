/- The reference's store of layer 25: Level, Kids, Data. -/
import Derived.Test.YtgcompnpjpmanaaRs
namespace Go.Proofs.Ytgcompnpjpmanaa
open Go Go.RowKit Go.Proofs.Rg Go.Proofs.Mp Go.Proofs.Hp Go.Proofs.Qs
set_option maxHeartbeats 2000000 in
theorem RLevel_calls {w : World} {b : Nat} {s : Int} {ns : List K4} {F : List Nat} (hS : RefAt w b s ns F) (id : Int) :
    Calls Try.prog 28 #[.pointer (some ⟨b, 0, none⟩), .int .i64 id] w fun e w' => e = .returned (.int .i64 (lvl s (levs s ns) id)) ∧ Fr [] w w' := by
  obtain ⟨hgood, nv, hI, rfl⟩ := hS
  obtain ⟨na, nc, rfl, _, _⟩ := owns_form hI.nodes
  have b0 := heap_eq_cell hI.blk 0
  have b1 := heap_eq_cell hI.blk 1
  have HI := Lib.hid hI
  have Hgood := Lib.hid hgood
  clear hI hgood
  go_enter Try.func28, Try.ntmps28
  go_wp2_with fail
  refine (level_ref Hgood.out (Reads.of_owns HI.out.nodes) id).mono ?_
  rintro e w' ⟨rfl, o, rfl⟩
  go_wp2
  go_ret
  exact ⟨rfl, by (repeat (first | exact Fr.refl _ _ | assumption | apply Fr.drewN | apply Fr.drew | apply Fr.alloc | refine Fr.setCell ?_ (Or.inr (by simp; try omega)) _))⟩
set_option maxHeartbeats 2000000 in
theorem RKids_calls {w : World} {b : Nat} {s : Int} {ns : List K4} {F : List Nat} (hS : RefAt w b s ns F) (id : Int) :
    Calls Try.prog 27 #[.pointer (some ⟨b, 0, none⟩), .int .i64 id] w fun e w' => e = .returned (.tuple #[kv (kidsOf s ns id).1, .bool (kidsOf s ns id).2]) ∧ Fr [] w w' := by
  obtain ⟨hgood, nv, hI, rfl⟩ := hS
  obtain ⟨na, nc, rfl, hna, _⟩ := owns_form hI.nodes
  have b0 := heap_eq_cell hI.blk 0
  have b1 := heap_eq_cell hI.blk 1
  have hb := lt_of_block hI.blk
  have hs1 : 2 ≤ s := hgood.1
  have hs2 : s ≤ 8 := hgood.2.1
  have hn : ns.length ≤ 1048576 := by have := hgood.2.2.1; omega
  have HI := Lib.hid hI
  have Hna := Lib.hid hna
  clear hI hgood hna
  unfold kidsOf
  by_cases hst : id < s
  · rw [if_pos hst]
    unfold kv
    go_enter Try.func27, Try.ntmps27
    go_wp2
    (refine wp_region_text (by kernel_rfl) (by kernel_rfl) ?_)
    go_wp2
    refine Strict.intro rfl ?_
    go_wp2
    exact bodyPost_ret (v := .tuple #[.agg #[.int .i64 0, .int .i64 0, .int .i64 0, .int .i64 0], .bool false]) (by simp [results, Try.results27, go_sem]) rfl ⟨rfl, by (repeat (first | exact Fr.refl _ _ | assumption | apply Fr.drewN | apply Fr.drew | apply Fr.alloc | refine Fr.setCell ?_ (Or.inr (by simp; try omega)) _))⟩
  · rw [if_neg hst]
    by_cases hfar : s + ns.length ≤ id
    · rw [List.getElem?_eq_none (by omega)]
      unfold kv
      go_enter Try.func27, Try.ntmps27
      go_wp2
      (refine wp_region_text (by kernel_rfl) (by kernel_rfl) ?_)
      go_wp2
      refine Strict.intro rfl ?_
      go_wp2
      exact bodyPost_ret (v := .tuple #[.agg #[.int .i64 0, .int .i64 0, .int .i64 0, .int .i64 0], .bool false]) (by simp [results, Try.results27, go_sem]) rfl ⟨rfl, by (repeat (first | exact Fr.refl _ _ | assumption | apply Fr.drewN | apply Fr.drew | apply Fr.alloc | refine Fr.setCell ?_ (Or.inr (by simp; try omega)) _))⟩
    · obtain ⟨i, rfl⟩ : ∃ i : Nat, id = s + i := ⟨(id - s).toNat, by omega⟩
      have hi : i < ns.length := by omega
      rw [show (s + (i : Int) - s).toNat = i by omega, List.getElem?_eq_getElem hi]
      obtain ⟨g, rfl⟩ := Hna.out (by omega)
      obtain ⟨f0, f1, f2, f3⟩ := flat_get (List.getElem?_eq_getElem hi)
      rw [Nat.mul_comm] at f0 f1 f2 f3
      obtain ⟨k, hk⟩ : ∃ k, k = ns[i] := ⟨_, rfl⟩
      rw [← hk] at f0 f1 f2 f3 ⊢
      have e0 := owns_cell HI.out.nodes rfl f0
      have e1 := owns_cell HI.out.nodes rfl f1
      have e2 := owns_cell HI.out.nodes rfl f2
      have e3 := owns_cell HI.out.nodes rfl f3
      have hg := owns_lt HI.out.nodes rfl
      have hw1 : IntKind.i64.wrap (s + ↑i - s) = ↑i := IntWalk.i64_in _ (by omega) |>.trans (by omega)
      clear f0 f1 f2 f3 hk hst hfar
      unfold kv
      go_enter Try.func27, Try.ntmps27
      go_wp2
      (refine wp_region_text (by kernel_rfl) (by kernel_rfl) ?_)
      go_wp2
      refine Strict.intro rfl ?_
      go_wp2
      (refine wp_region_text (by kernel_rfl) (by kernel_rfl) ?_)
      go_wp2
      refine Strict.intro rfl ?_
      go_wp2
      exact bodyPost_ret (v := .tuple #[.agg #[.int .i64 k.a, .int .i64 k.b, .int .i64 k.c, .int .i64 k.d], .bool true]) (by simp [results, Try.results27, go_sem]) rfl ⟨rfl, by (repeat (first | exact Fr.refl _ _ | assumption | apply Fr.drewN | apply Fr.drew | apply Fr.alloc | refine Fr.setCell ?_ (Or.inr (by simp; try omega)) _))⟩
set_option maxHeartbeats 2000000 in
theorem RData_calls {w : World} {b : Nat} {s : Int} {ns : List K4} {F : List Nat} (hS : RefAt w b s ns F) :
    Calls Try.prog 30 #[.pointer (some ⟨b, 0, none⟩)] w (CopyPost w s ns) := by
  obtain ⟨hgood, nv, hI, rfl⟩ := hS
  obtain ⟨na, nc, rfl, _, _⟩ := owns_form hI.nodes
  have b0 := heap_eq_cell hI.blk 0
  have b1 := heap_eq_cell hI.blk 1
  have hb := lt_of_block hI.blk
  have HI := Lib.hid hI
  have Hgood := Lib.hid hgood
  clear hI hgood
  go_enter Try.func30, Try.ntmps30
  go_wp2_with fail
  refine (copied_ref (s := s) (by have := Hgood.out.2.2.1; omega) ((Reads.of_owns HI.out.nodes).fr (by (repeat (first | exact Fr.refl _ _ | assumption | apply Fr.drewN | apply Fr.drew | apply Fr.alloc | refine Fr.setCell ?_ (Or.inr (by simp; try omega)) _))))).mono ?_
  rintro e w1 ⟨v, rfl, ho, hf⟩
  have hl : w1.heap[w.heap.size]? = some (.cells #[.int .i64 0, .slice none 0 0] 24 (0, 0)) := (hf.block _ (by rw [hp_alloc_size]; omega) (by simp)).trans (by (repeat (first | rw [if_pos (by omega)] | rw [if_neg (by omega)] | rw [hp_drew] | rw [hp_drewN] | rw [hp_alloc_size] | rw [hp_setCell_size] | rw [hp_alloc] | rw [hp_setCell] | rw [Option.map_some] | rw [upd_cells] | rw [List.set_cons_zero] | rw [List.set_cons_succ] | rfl)))
  have l0 := heap_eq_cell hl 0
  have l1 := heap_eq_cell hl 1
  have g0 := heap_eq_frozen hl 0
  have g1 := heap_eq_frozen hl 1
  obtain ⟨va, vc, rfl, hva, hvn⟩ := owns_form ho
  have hne : (Value.slice va ns.length vc).ownBlock ≠ some w.heap.size := fun e => by
    have := owns_ge ho e; rw [hp_alloc_size] at this; omega
  have Ho := Lib.hid ho
  have Hne := Lib.hid hne
  have Hf := Lib.hid (((Fr.refl [] w).alloc _).trans0 hf)
  clear ho hva hvn hf hl hne
  go_wp2
  exact bodyPost_ret (v := .agg #[.int .i64 s, .slice va ns.length vc]) (by simp [results, Try.results30, go_sem, l0, l1]) rfl
    ⟨_, rfl, owns_of_block (base := w.heap.size) (owns_base Ho.out (by rw [hp_alloc_size]; omega)) fun x hx => heap_setCell2 _ _ _ _ _ _ (fun e => Hne.out (by rw [hx, e])), by repeat (first | exact Hf.out | apply Fr.drewN | apply Fr.drew | apply Fr.alloc | refine Fr.setCell ?_ (Or.inr (by simp)) _)⟩
end Go.Proofs.Ytgcompnpjpmanaa
