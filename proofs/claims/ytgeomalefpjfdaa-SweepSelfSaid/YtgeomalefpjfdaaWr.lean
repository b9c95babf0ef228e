/- renamed of package sweep. -/
import Derived.Test.YtgeomalefpjfdaaWe
namespace Go.Proofs.Ytgeomalefpjfdaa
open Go Go.RowKit Go.Proofs.Rg Go.Proofs.Mp Go.Proofs.Hp Go.Proofs.Qs
set_option linter.unusedVariables false
theorem results_cell1 {fn : Func} {p : Tmp} {ty : TypeId} (h : fn.results = #[.cell p ty]) (tmps : Array Value) (P : Program) (w : World) :
    (results fn tmps).run P w = ((asAddr (tmps.getD p undef)).run P w).andThen fun a w₁ => (loadVar ty a).run P w₁ := by
  simp only [results, h]
  simp [Sem.run_bind, Result.andThen]
theorem renamed_result {tmps : Array Value} {b : Nat} {w' : World} {cs : Array Value} (h4 : tmps.getD 4 undef = .pointer (some ⟨b, 0, none⟩)) (hb : w'.heap[b]? = some (.cells cs 59 (0, 0))) (hs : cs.size = 4) :
    (results Try.f30 tmps).run Try.prog w' = .ok (.agg cs) w' := by
  rw [results_cell1 rfl, h4]
  simp only [asAddr, Sem.run_pure, Result.andThen]
  exact run_loadVar_row w' b _ _ cs _ _ hb Try.underlying59 rfl (by rw [hs]; kernel_rfl)
def rj (k k' : K4) : Nat → Array Value
  | 0 => #[.int .i64 k.a, .int .i64 k.b, .int .i64 k.c, .int .i64 k.d]
  | 1 => #[.int .i64 k'.a, .int .i64 k.b, .int .i64 k.c, .int .i64 k.d]
  | 2 => #[.int .i64 k'.a, .int .i64 k'.b, .int .i64 k.c, .int .i64 k.d]
  | 3 => #[.int .i64 k'.a, .int .i64 k'.b, .int .i64 k'.c, .int .i64 k.d]
  | _ => #[.int .i64 k'.a, .int .i64 k'.b, .int .i64 k'.c, .int .i64 k'.d]
set_option maxHeartbeats 16000000 in
set_option maxRecDepth 100000 in
theorem renamed_calls {w : World} {k : K4} {t : List Int} {tv : Value} (ht : Reads w tv t.length 1 (i64s t)) (ha : 0 ≤ k.a ∧ k.a < t.length) (hb : 0 ≤ k.b ∧ k.b < t.length) (hc : 0 ≤ k.c ∧ k.c < t.length) (hd : 0 ≤ k.d ∧ k.d < t.length) :
    Calls Try.prog 30 #[kv k, tv] w fun e w' => e = .returned (kv (ren t k)) ∧ Fr [] w w' := by
  obtain ⟨_, a, c, rfl, hat⟩ := ht
  obtain ⟨g, off, rfl, hg, hcell⟩ := hat (by omega)
  obtain ⟨ka, kb, kc, kd⟩ := k
  obtain ⟨⟨ha, ha1⟩, ⟨hb, hb1⟩, ⟨hc, hc1⟩, ⟨hd, hd1⟩⟩ := (⟨ha, hb, hc, hd⟩ : (0 ≤ ka ∧ ka < (t.length : Int)) ∧ (0 ≤ kb ∧ kb < (t.length : Int)) ∧ (0 ≤ kc ∧ kc < (t.length : Int)) ∧ (0 ≤ kd ∧ kd < (t.length : Int)))
  obtain ⟨ka, rfl⟩ : ∃ n : Nat, ka = n := ⟨ka.toNat, by omega⟩
  obtain ⟨kb, rfl⟩ : ∃ n : Nat, kb = n := ⟨kb.toNat, by omega⟩
  obtain ⟨kc, rfl⟩ : ∃ n : Nat, kc = n := ⟨kc.toNat, by omega⟩
  obtain ⟨kd, rfl⟩ : ∃ n : Nat, kd = n := ⟨kd.toNat, by omega⟩
  have hget : ∀ n : Nat, (n : Int) < t.length → (i64s t)[n]? = some (.int .i64 (geti t n)) := fun n hn => by
    unfold i64s geti
    rw [List.getElem?_map, List.getElem?_eq_getElem (by omega), List.getD_eq_getElem?_getD, show ((n : Int)).toNat = n from rfl, List.getElem?_eq_getElem (by omega)]; rfl
  have c0 := hcell _ _ (hget ka ha1)
  have c1 := hcell _ _ (hget kb hb1)
  have c2 := hcell _ _ (hget kc hc1)
  have c3 := hcell _ _ (hget kd hd1)
  have hr : ren t ⟨ka, kb, kc, kd⟩ = ⟨geti t ka, geti t kb, geti t kc, geti t kd⟩ := rfl
  rw [hr]
  generalize geti t ka = va at *
  generalize geti t kb = vb at *
  generalize geti t kc = vc at *
  generalize geti t kd = vd at *
  generalize t.length = tl at *
  clear hcell hget hr hat
  unfold kv
  simp only
  go_enter Try.func30, Try.ntmps30
  go_wp2_with fail
  have C0 := Lib.hid c0
  have C1 := Lib.hid c1
  have C2 := Lib.hid c2
  have C3 := Lib.hid c3
  clear c0 c1 c2 c3
  go_loopw [9] (fun x wl => ∃ (j : Nat) (o : Obj), x = .int .i64 j ∧ j ≤ 4 ∧ wl.heap[w.heap.size]? = some (.cells (rj ⟨ka, kb, kc, kd⟩ ⟨va, vb, vc, vd⟩ j) 59 (0, 0)) ∧ wl.heap[w.heap.size + 1]? = some (.cells #[.int .i64 0, .int .i64 0, .int .i64 0, .int .i64 0] 59 (0, 0)) ∧ Fr [] w wl) (fun x _ => 4 - (intOf x).toNat)
  case atStart => exact ⟨0, .cells #[] 0 (0, 0), rfl, by omega, by (repeat (first | rw [if_pos (by omega)] | rw [if_neg (by omega)] | rw [hp_drew] | rw [hp_drewN] | rw [hp_alloc_size] | rw [hp_setCell_size] | rw [hp_alloc] | rw [hp_setCell] | rw [Option.map_some] | rw [upd_cells] | rw [List.set_cons_zero] | rw [List.set_cons_succ] | rfl)), by (repeat (first | rw [if_pos (by omega)] | rw [if_neg (by omega)] | rw [hp_drew] | rw [hp_drewN] | rw [hp_alloc_size] | rw [hp_setCell_size] | rw [hp_alloc] | rw [hp_setCell] | rw [Option.map_some] | rw [upd_cells] | rw [List.set_cons_zero] | rw [List.set_cons_succ] | rfl)), by (repeat (first | exact Fr.refl _ _ | assumption | apply Fr.drewN | apply Fr.drew | apply Fr.alloc | refine Fr.setCell ?_ (Or.inr (by simp; try omega)) _))⟩
  case round =>
    obtain ⟨j, _, rfl, hj, hb0, hb1, hf⟩ := hrel
    have e0 := (hf.cell (p := ⟨g, off + ka, none⟩) hg (by simp)).trans C0.out
    have e1 := (hf.cell (p := ⟨g, off + kb, none⟩) hg (by simp)).trans C1.out
    have e2 := (hf.cell (p := ⟨g, off + kc, none⟩) hg (by simp)).trans C2.out
    have e3 := (hf.cell (p := ⟨g, off + kd, none⟩) hg (by simp)).trans C3.out
    have hs := lt_of_block hb1
    have Hf := Lib.hid hf
    clear hf
    have hj5 : j = 0 ∨ j = 1 ∨ j = 2 ∨ j = 3 ∨ j = 4 := by omega
    rcases hj5 with rfl | rfl | rfl | rfl | rfl
    all_goals
      simp only [rj] at hb0
      have d0 := heap_eq_cell hb0 0
      have d1 := heap_eq_cell hb0 1
      have d2 := heap_eq_cell hb0 2
      have d3 := heap_eq_cell hb0 3
      have y0 := heap_eq_frozen hb0 0
      have y1 := heap_eq_frozen hb0 1
      have y2 := heap_eq_frozen hb0 2
      have y3 := heap_eq_frozen hb0 3
      have x0 := heap_eq_frozen hb1 0
      have x1 := heap_eq_frozen hb1 1
      have x2 := heap_eq_frozen hb1 2
      have x3 := heap_eq_frozen hb1 3
      have z0 := heap_eq_cell hb1 0
      have z1 := heap_eq_cell hb1 1
      have z2 := heap_eq_cell hb1 2
      have z3 := heap_eq_cell hb1 3
      have Hb0 := Lib.hid hb0
      have Hb1 := Lib.hid hb1
      clear hb0 hb1
      go_wp2
    all_goals first | (go_roundw; case measure => (simp [intOf]; done)) | skip
    · refine ⟨1, .cells #[] 0 (0, 0), by go_num, by omega, ?_, ?_, Hf.out.setCell (.inr (by simp)) _⟩
      · rw [heap_setCell_here Hb0.out]; rfl
      · rw [setCell_else _ _ _ (by simp)]; exact Hb1.out
    · refine ⟨2, .cells #[] 0 (0, 0), by go_num, by omega, ?_, ?_, Hf.out.setCell (.inr (by simp)) _⟩
      · rw [heap_setCell_here Hb0.out]; rfl
      · rw [setCell_else _ _ _ (by simp)]; exact Hb1.out
    · refine ⟨3, .cells #[] 0 (0, 0), by go_num, by omega, ?_, ?_, Hf.out.setCell (.inr (by simp)) _⟩
      · rw [heap_setCell_here Hb0.out]; rfl
      · rw [setCell_else _ _ _ (by simp)]; exact Hb1.out
    · refine ⟨4, .cells #[] 0 (0, 0), by go_num, by omega, ?_, ?_, Hf.out.setCell (.inr (by simp)) _⟩
      · rw [heap_setCell_here Hb0.out]; rfl
      · rw [setCell_else _ _ _ (by simp)]; exact Hb1.out
    · (try simp only [Exit.inBlock, Exit.then])
      refine bodyPost_ret (renamed_result (b := w.heap.size + 1) (cs := #[.int .i64 va, .int .i64 vb, .int .i64 vc, .int .i64 vd]) rfl ?_ rfl) rfl ⟨rfl, ?_⟩
      · have h1 := Hb1.out
        (repeat (first | rw [if_pos (by omega)] | rw [if_neg (by omega)] | rw [hp_drew] | rw [hp_drewN] | rw [hp_alloc_size] | rw [hp_setCell_size] | rw [hp_alloc] | rw [hp_setCell] | rw [Option.map_some] | rw [upd_cells] | rw [List.set_cons_zero] | rw [List.set_cons_succ] | rfl))
        rw [h1]
        (repeat (first | rw [if_pos (by omega)] | rw [if_neg (by omega)] | rw [hp_drew] | rw [hp_drewN] | rw [hp_alloc_size] | rw [hp_setCell_size] | rw [hp_alloc] | rw [hp_setCell] | rw [Option.map_some] | rw [upd_cells] | rw [List.set_cons_zero] | rw [List.set_cons_succ] | rfl))
      · have h1 := Hf.out
        (repeat (first | exact Fr.refl _ _ | assumption | apply Fr.drewN | apply Fr.drew | apply Fr.alloc | refine Fr.setCell ?_ (Or.inr (by simp; try omega)) _))
end Go.Proofs.Ytgeomalefpjfdaa
