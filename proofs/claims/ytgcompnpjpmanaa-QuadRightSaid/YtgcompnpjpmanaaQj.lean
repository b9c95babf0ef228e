/- QuadRight: Right and Load agree with the reference: what the law's function returns. -/
import Derived.Test.YtgcompnpjpmanaaQo
import Derived.Test.YtgcompnpjpmanaaRs
namespace Go.Proofs.Ytgcompnpjpmanaa
open Go Go.RowKit Go.Proofs.Rg Go.Proofs.Mp Go.Proofs.Hp Go.Proofs.Qs
set_option maxHeartbeats 8000000 in
set_option maxRecDepth 100000 in
theorem QuadRight_calls {W : World} {s : Int} {ns : List K4} {v : Value} (hv : Reads W v ns.length 4 (flat ns)) :
    Calls Try.prog 3 #[.agg #[.int .i64 s, v]] W fun e w' => e = .returned (.bool true) ∧ Fr [] W w' := by
  have hvk := hv
  obtain ⟨_, a, c, rfl, hav⟩ := hv
  have Hvk := Lib.hid hvk
  clear hav hvk
  by_cases hl : 200 < ns.length
  · have hd : decide ((200 : Int) < ↑ns.length) = true := by simp; omega
    clear hl
    go_enter Try.func3, Try.ntmps3
    go_wp2_with fail
    refine (awake_calls _).mono ?_
    rintro e w1 ⟨rfl, hf⟩
    have Hf := Lib.hid (((Fr.refl [] W).alloc _).trans0 hf)
    clear hf
    go_wp2
    go_ret
    exact ⟨rfl, Hf.out⟩
  have hd : decide ((200 : Int) < ↑ns.length) = false := by simp; omega
  have Hl := Lib.hid hl
  clear hl
  go_enter Try.func3, Try.ntmps3
  go_wp2_with fail
  have hbx : (W.alloc (.cells #[.int .i64 s, .slice a ns.length c] 24)).heap[W.heap.size]? = some (.cells #[.int .i64 s, .slice a ns.length c] 24 (0, 0)) := by (repeat (first | rw [if_pos (by omega)] | rw [if_neg (by omega)] | rw [hp_drew] | rw [hp_drewN] | rw [hp_alloc_size] | rw [hp_setCell_size] | rw [hp_alloc] | rw [hp_setCell] | rw [Option.map_some] | rw [upd_cells] | rw [List.set_cons_zero] | rw [List.set_cons_succ] | rfl))
  have hf0 : Fr [] W (W.alloc (.cells #[.int .i64 s, .slice a ns.length c] 24)) := by (repeat (first | exact Fr.refl _ _ | assumption | apply Fr.drewN | apply Fr.drew | apply Fr.alloc | refine Fr.setCell ?_ (Or.inr (by simp; try omega)) _))
  generalize W.alloc (.cells #[.int .i64 s, .slice a ns.length c] 24) = w0 at *
  have hcells : ∀ w', Fr [] w0 w' → w'.cell? ⟨W.heap.size, 0, none⟩ = some (.int .i64 s) ∧ w'.cell? ⟨W.heap.size, 1, none⟩ = some (.slice a ns.length c) := fun w' hf' => by
    have hq := (hf'.block _ (lt_of_block hbx) (by simp)).trans hbx
    exact ⟨heap_eq_cell hq 0, heap_eq_cell hq 1⟩
  have hrng : ∀ w', Fr [] w0 w' → ∀ j v, [Value.int .i64 s, .slice a ns.length c][j]? = some v → w'.cell? ⟨W.heap.size, 0 + j, none⟩ = some v := fun w' hf' j v hj => by
    rw [Nat.zero_add, heap_eq_cell ((hf'.block _ (lt_of_block hbx) (by simp)).trans hbx), ← hj]
    exact (Array.getElem?_toList (xs := #[Value.int .i64 s, .slice a ns.length c])).symm
  have Hrng := Lib.hid hrng
  clear hrng
  have Hcells := Lib.hid hcells
  have Hf0 := Lib.hid hf0
  clear hcells hbx hf0
  have hAw : ∀ w1, Fr [] w0 w1 → Calls Try.prog 8 #[] w1 fun e w' => e = .returned (.bool true) ∧ Fr [] w0 w' := fun w1 h => (awake_calls w1).mono fun e w' ⟨h1, h2⟩ => ⟨h1, h.trans0 h2⟩
  have HAw := Lib.hid hAw
  clear hAw
  refine (Load_calls (by have := Hl.out; omega) (Hvk.out.fr Hf0.out)).mono ?_
  rintro e w1 ⟨hok, hno⟩
  by_cases hg : GoodQ s ns
  case neg =>
    obtain ⟨rfl, hf⟩ := hno hg
    obtain ⟨c0, c1⟩ := Hcells.out w1 hf
    have Hf1 := Lib.hid hf
    have Hg := Lib.hid hg
    clear hok hno hf hg
    go_wp2_with fail
    clear c0 c1
    refine (RLoad_calls (by have := Hl.out; omega) (Hvk.out.fr (Hf0.out.trans0 Hf1.out))).mono ?_
    rintro e w2 ⟨_, hno⟩
    obtain ⟨rfl, hf⟩ := hno Hg.out
    have Hf2 := Lib.hid (Hf1.out.trans0 hf)
    clear hno hf
    obtain ⟨c0, c1⟩ := Hcells.out w2 Hf2.out
    go_wp2_with fail
    refine wp_region_segs [([0, 1, 2, 3, 4, 6, 5], [6]), ([7, 8, 9], [])] (by kernel_rfl) (by kernel_rfl) ?_
    (simp only [wpSegs, pick, Array.getD_eq_getD_getElem?, List.getElem?_toArray, List.getElem?_cons_succ, List.getElem?_cons_zero, Option.getD_some])
    go_wp2_with fail
    clear c0 c1
    refine (Right_calls (by have := Hl.out; omega) (Hvk.out.fr (Hf0.out.trans0 Hf2.out.drew))).mono ?_
    rintro e w3 ⟨rfl, hf⟩
    rw [decide_eq_false Hg.out]
    have Hf3 := Lib.hid (Hf2.out.drew.trans0 hf)
    clear hf
    obtain ⟨c0, c1⟩ := Hcells.out w3 Hf3.out
    go_wp2
    refine Mid.intro ⟨⟨again_row (T := 24) (cs := [.int .i64 s, .slice a ns.length c]) rfl rfl rfl Try.underlying24 rfl (by kernel_rfl) (Hrng.out _ Hf3.out) rfl, trivial⟩, ?_⟩
    clear c0 c1
    go_wp2_with fail
    refine (RRight_calls (by have := Hl.out; omega) (Hvk.out.fr (Hf0.out.trans0 Hf3.out))).mono ?_
    rintro e w4 ⟨rfl, hf⟩
    rw [decide_eq_false Hg.out]
    have Hf4 := Lib.hid (Hf3.out.trans0 hf)
    clear hf
    go_wp2_with fail
    refine Mid.intro ⟨trivial, Strict.intro rfl ?_⟩
    go_wp2_with fail
    refine wp_region_segs [([0, 1, 2, 3, 5, 4], [5]), ([6, 7, 8, 9, 10, 11], [])] (by kernel_rfl) (by kernel_rfl) ?_
    (simp only [wpSegs, pick, Array.getD_eq_getD_getElem?, List.getElem?_toArray, List.getElem?_cons_succ, List.getElem?_cons_zero, Option.getD_some])
    go_wp2
    refine Mid.intro ⟨⟨fun o ho hw => by obtain rfl := Option.some.inj ho; exact absurd hw (by simp [Region.wanted, yielded]), trivial⟩, ?_⟩
    go_wp2_with fail
    refine (HAw.out _ Hf4.out.drew).mono ?_
    rintro e w5 ⟨rfl, hf⟩
    have Hf5 := Lib.hid hf
    clear hf
    go_wp2
    refine Mid.intro ⟨trivial, Strict.intro rfl ?_⟩
    go_wp2
    go_ret
    exact ⟨rfl, Hf0.out.trans0 Hf5.out⟩
  obtain ⟨b, F0, rfl, hS0, hf1, hF0⟩ := hok hg
  have Hg := Lib.hid hg
  have HS0 := Lib.hid hS0
  have Hf1 := Lib.hid hf1
  clear hok hno hg hS0 hf1 hF0
  obtain ⟨c0, c1⟩ := Hcells.out w1 Hf1.out
  go_wp2_with fail
  clear c0 c1
  refine (RLoad_calls (by have := Hl.out; omega) (Hvk.out.fr (Hf0.out.trans0 Hf1.out))).mono ?_
  rintro e w2 ⟨hok, _⟩
  obtain ⟨b2, F2, rfl, hS2, hf, hF2⟩ := hok Hg.out
  have Hf2 := Lib.hid (Hf1.out.trans0 hf)
  have HS2 := Lib.hid (HS0.out.fr hf (by simp))
  clear hok hf hS2 hF2
  obtain ⟨c0, c1⟩ := Hcells.out w2 Hf2.out
  go_wp2_with fail
  refine wp_region_segs [([0, 1, 2, 3, 4, 6, 5], [6]), ([7, 8, 9], [])] (by kernel_rfl) (by kernel_rfl) ?_
  (simp only [wpSegs, pick, Array.getD_eq_getD_getElem?, List.getElem?_toArray, List.getElem?_cons_succ, List.getElem?_cons_zero, Option.getD_some])
  go_wp2_with fail
  clear c0 c1
  refine (Right_calls (by have := Hl.out; omega) (Hvk.out.fr (Hf0.out.trans0 Hf2.out.drew))).mono ?_
  rintro e w3 ⟨rfl, hf⟩
  rw [decide_eq_true Hg.out]
  have Hf3 := Lib.hid (Hf2.out.drew.trans0 hf)
  have HS3 := Lib.hid (HS2.out.fr (((Fr.refl [] w2).drew).trans0 hf) (by simp))
  clear hf
  obtain ⟨c0, c1⟩ := Hcells.out w3 Hf3.out
  go_wp2
  refine Mid.intro ⟨⟨again_row (T := 24) (cs := [.int .i64 s, .slice a ns.length c]) rfl rfl rfl Try.underlying24 rfl (by kernel_rfl) (Hrng.out _ Hf3.out) rfl, trivial⟩, ?_⟩
  clear c0 c1
  go_wp2_with fail
  refine (RRight_calls (by have := Hl.out; omega) (Hvk.out.fr (Hf0.out.trans0 Hf3.out))).mono ?_
  rintro e w4 ⟨rfl, hf⟩
  rw [decide_eq_true Hg.out]
  have Hf4 := Lib.hid (Hf3.out.trans0 hf)
  have HS4 := Lib.hid (HS3.out.fr hf (by simp))
  clear hf
  obtain ⟨c0, c1⟩ := Hcells.out w4 Hf4.out
  go_wp2_with fail
  refine Mid.intro ⟨trivial, Strict.intro rfl ?_⟩
  go_wp2_with fail
  refine wp_region_segs [([0, 1, 2, 3, 5, 4], [5]), ([6, 7, 8, 9, 10, 11], [])] (by kernel_rfl) (by kernel_rfl) ?_
  (simp only [wpSegs, pick, Array.getD_eq_getD_getElem?, List.getElem?_toArray, List.getElem?_cons_succ, List.getElem?_cons_zero, Option.getD_some])
  go_wp2_with fail
  clear c0 c1
  refine (Data_calls (HS4.out.fr (Fr.refl [] w4).drew (by simp))).mono ?_
  rintro e w5 ⟨v5, rfl, ho, hf⟩
  obtain ⟨va, vc, rfl, _, _⟩ := owns_form ho
  have Ho := Lib.hid ho
  have Hf5 := Lib.hid (Hf4.out.drew.trans0 hf)
  clear hf ho
  obtain ⟨c0, c1⟩ := Hcells.out w5 Hf5.out
  go_wp2
  refine Mid.intro ⟨⟨again_row (T := 24) (cs := [.int .i64 s, .slice a ns.length c]) rfl rfl rfl Try.underlying24 rfl (by kernel_rfl) (Hrng.out _ Hf5.out) rfl, trivial⟩, ?_⟩
  clear c0 c1
  go_wp2_with fail
  refine (Same_ref (by have := Hl.out; omega) (Reads.of_owns Ho.out) (Hvk.out.fr (Hf0.out.trans0 Hf5.out))).mono ?_
  rintro e w6 ⟨rfl, o1, o2, n, rfl⟩
  have hsq : sameQ s s ns ns = true := by simp [sameQ]
  rw [hsq]
  have Hf6 := Lib.hid (((Hf5.out.alloc o1).alloc o2).drewN n)
  clear hsq
  go_wp2_with fail
  refine (HAw.out _ Hf6.out).mono ?_
  rintro e w7 ⟨rfl, hf⟩
  have Hf7 := Lib.hid hf
  clear hf
  go_wp2
  refine Mid.intro ⟨trivial, Strict.intro rfl ?_⟩
  go_wp2
  go_ret
  exact ⟨rfl, Hf0.out.trans0 Hf7.out⟩
end Go.Proofs.Ytgcompnpjpmanaa
