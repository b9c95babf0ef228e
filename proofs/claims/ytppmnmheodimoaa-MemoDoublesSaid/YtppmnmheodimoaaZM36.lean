/- Own texts of this claim, part 37: no condition. -/
import Derived.Test.YtppmnmheodimoaaZM34
import Derived.Test.YtppmnmheodimoaaZM35
import Derived.Test.YtppmnmheodimoaaZM29
section
/- The reference's memo: New, Most. -/
namespace Go.Proofs.Ytppmnmheodimoaa
open Go Go.RowKit Go.Proofs.Rg Go.Proofs.Mp Go.Proofs.Hp Go.Proofs.Qs Go.Proofs.Ev
set_option linter.unusedVariables false
set_option linter.unusedSimpArgs false
/-- a store of the reference as a thing -/
def refR (b : Nat) (s : Int) (ns : List K4) : Res where
  holds w F := RefAt w b s ns F
  keep := fun h hk => h.keep hk
  lt := fun h => h.lt
def rmcells (r : Rule) (hv nv : Value) (sb : Nat) : Array Value := #[.int .i64 r.S, hv, nv, .pointer (some ⟨sb, 0, none⟩), .slice none 0 0]
def rmemoL (r : Rule) (hv nv : Value) (mb sb : Nat) (ns : List K4) (Ps : List Res) : List Res := refR sb r.S ns :: Hp.blk mb (.cells (rmcells r hv nv sb) 98 (0, 0)) :: Ps
theorem rmemo_cells {W w : World} {r : Rule} {hv nv : Value} {mb sb : Nat} {ns : List K4} {Ps : List Res} (h : Has W w (rmemoL r hv nv mb sb ns Ps)) :
    w.cell? ⟨mb, 0, none⟩ = some (.int .i64 r.S) ∧ w.cell? ⟨mb, 1, none⟩ = some hv ∧ w.cell? ⟨mb, 2, none⟩ = some nv ∧ w.cell? ⟨mb, 3, none⟩ = some (.pointer (some ⟨sb, 0, none⟩)) ∧ w.cell? ⟨mb, 4, none⟩ = some (.slice none 0 0) ∧ mb < w.heap.size := by
  obtain ⟨h1, _, h3⟩ := has_cells h.drop
  exact ⟨h1 0, h1 1, h1 2, h1 3, h1 4, h3⟩
section
variable {w : World} {r : Rule} {ha na : Option Addr} {hc nc : Nat} (hru : RuleAt w (.slice ha r.hood.length hc) (.slice na r.nodes.length nc) r) (hlh : r.hood.length ≤ 1000000) (hln : r.nodes.length ≤ 1000000)
include hru hlh hln
theorem RMNew_bad (hR : rightR r = false) (s : Value) : Calls Try.prog 19 #[rv r ha na hc nc, s] w fun e w' => e = .returned (.tuple #[.pointer none, .int .i64 11]) ∧ Fr [] w w' := by
  have HT := Lib.hid (fun w1 (hf : Fr [] w w1) => RTRight_calls (hru.fr hf) hlh hln)
  clear hru
  unfold rv
  rw [hR] at HT
  go_enter Try.func19, Try.ntmps19
  go_wp2_with fail
  refine (HT.out _ (by (repeat (first | exact Fr.refl _ _ | assumption | apply Fr.drewN | apply Fr.drew | apply Fr.alloc | refine Fr.setCell ?_ (Or.inr (by simp; try omega)) _)))).mono ?_
  rintro e w5 ⟨rfl, hf⟩
  have Hf := Lib.hid (Fr.trans0 (by (repeat (first | exact Fr.refl _ _ | assumption | apply Fr.drewN | apply Fr.drew | apply Fr.alloc | refine Fr.setCell ?_ (Or.inr (by simp; try omega)) _)) : Fr [] w _) hf)
  clear hf
  go_wp2
  all_goals
    go_ret2
    exact ⟨rfl, Hf.out⟩
end
set_option maxHeartbeats 4000000 in
set_option maxRecDepth 100000 in
theorem RMNew_calls {W w : World} {r : Rule} {ha na : Option Addr} {hc nc : Nat} (hru : RuleAt w (.slice ha r.hood.length hc) (.slice na r.nodes.length nc) r) (hlh : r.hood.length ≤ 1000000) (hln : r.nodes.length ≤ 1000000)
    (hR : rightR r = true) {sb : Nat} {S : Int} {ns : List K4} {Ps : List Res} (h : Has W w (refR sb S ns :: Ps)) :
    Calls Try.prog 19 #[rv r ha na hc nc, .pointer (some ⟨sb, 0, none⟩)] w fun e w' => (S ≠ r.S ∧ e = .returned (.tuple #[.pointer none, .int .i64 10]) ∧ Has W w' (refR sb S ns :: Ps)) ∨
      (S = r.S ∧ ∃ mb, e = .returned (.tuple #[.pointer (some ⟨mb, 0, none⟩), .int .i64 0]) ∧ Has W w' (rmemoL r (.slice ha r.hood.length hc) (.slice na r.nodes.length nc) mb sb ns Ps)) := by
  have HT := Lib.hid (fun w1 (hf : Fr [] w w1) => RTRight_calls (hru.fr hf) hlh hln)
  have H := Lib.hid h
  clear hru h
  unfold rv
  rw [hR] at HT
  go_enter Try.func19, Try.ntmps19
  go_wp2_with fail
  refine (HT.out _ (by (repeat (first | exact Fr.refl _ _ | assumption | apply Fr.drewN | apply Fr.drew | apply Fr.alloc | refine Fr.setCell ?_ (Or.inr (by simp; try omega)) _)))).mono ?_
  rintro e w5 ⟨rfl, hf⟩
  have Hf := Lib.hid (Fr.trans0 (by (repeat (first | exact Fr.refl _ _ | assumption | apply Fr.drewN | apply Fr.drew | apply Fr.alloc | refine Fr.setCell ?_ (Or.inr (by simp; try omega)) _)) : Fr [] w _) hf)
  have ht_ := (hf.block (w.heap.size) (by first | (simp; done) | (simp; omega)) (by simp)).trans (show _ = some (.cells #[.int .i64 r.S, .slice ha r.hood.length hc, .slice na r.nodes.length nc] 31 (0, 0)) by (repeat (first | rw [if_pos (by omega)] | rw [if_neg (by omega)] | rw [hp_drew] | rw [hp_drewN] | rw [hp_alloc_size] | rw [hp_setCell_size] | rw [hp_alloc] | rw [hp_setCell] | rw [Option.map_some] | rw [upd_cells] | rw [List.set_cons_zero] | rw [List.set_cons_succ] | rfl)))
  have t0 := heap_eq_cell ht_ 0
  have t1 := heap_eq_cell ht_ 1
  have t2 := heap_eq_cell ht_ 2
  have tl := lt_of_block ht_
  have Ht := Lib.hid ht_
  clear ht_
  clear hf
  go_wp2
  refine wp_region_segs [([0, 3, 4, 1], [4]), ([2, 5], [])] (by kernel_rfl) (by kernel_rfl) ?_
  (simp only [wpSegs, pick, Array.getD_eq_getD_getElem?, List.getElem?_toArray, List.getElem?_cons_succ, List.getElem?_cons_zero, Option.getD_some])
  go_wp2_with fail
  obtain ⟨F9, hF9⟩ := (H.out.step (Fr.trans0 Hf.out (by (repeat (first | exact Fr.refl _ _ | assumption | apply Fr.drewN | apply Fr.drew | apply Fr.alloc | refine Fr.setCell ?_ (Or.inr (by simp; try omega)) _)) : Fr [] w5 w5.drew))).head
  refine (RData_calls hF9).mono ?_
  rintro e w6 ⟨v, rfl, ho, hf⟩
  obtain ⟨xa, xc, rfl, _, _⟩ := owns_form ho
  (try clear t0)
  (try clear t1)
  (try clear t2)
  (try clear tl)
  have ht_ := (hf.block _ (lt_of_block Ht.out) (by simp)).trans Ht.out
  clear Ht
  have t0 := heap_eq_cell ht_ 0
  have t1 := heap_eq_cell ht_ 1
  have t2 := heap_eq_cell ht_ 2
  have tl := lt_of_block ht_
  have Ht := Lib.hid ht_
  clear ht_
  have H6 := Lib.hid (H.out.step (Hf.out.trans0 (Fr.trans0 (by (repeat (first | exact Fr.refl _ _ | assumption | apply Fr.drewN | apply Fr.drew | apply Fr.alloc | refine Fr.setCell ?_ (Or.inr (by simp; try omega)) _))) hf)))
  have hfld := run_field_S w6 S (.slice xa ns.length xc)
  clear hf H Hf ho hF9
  go_wp2
  refine Mid.intro ⟨⟨again_cell (T := 3) rfl rfl rfl Try.underlying3 rfl t0 rfl, trivial⟩, ?_⟩
  by_cases hS : S = r.S
  · subst hS
    go_wp2
    refine Mid.intro ⟨trivial, Strict.intro rfl ?_⟩
    go_wp2
    go_ret2
    exact ⟨_, rfl, (has_alloc (H6.out.step (by (repeat (first | exact Fr.refl _ _ | assumption | apply Fr.drewN | apply Fr.drew | apply Fr.alloc | refine Fr.setCell ?_ (Or.inr (by simp; try omega)) _)))) (rmcells r (.slice ha r.hood.length hc) (.slice na r.nodes.length nc) sb) 98).swap⟩
  · have hS1 : (S != r.S) = true := by simpa using hS
    go_wp2
    refine Mid.intro ⟨trivial, Strict.intro rfl ?_⟩
    go_wp2
    go_ret2
    exact Or.inl ⟨hS, rfl, by have := H6.out; exact this.step (by (repeat (first | exact Fr.refl _ _ | assumption | apply Fr.drewN | apply Fr.drew | apply Fr.alloc | refine Fr.setCell ?_ (Or.inr (by simp; try omega)) _)))⟩
theorem RMMost_calls {W w : World} {r : Rule} {ha na : Option Addr} {hc nc : Nat} {mb sb : Nat} {ns : List K4} {Ps : List Res} (hru : RuleAt w (.slice ha r.hood.length hc) (.slice na r.nodes.length nc) r) (hlh : r.hood.length ≤ 1000000)
    (h : Has W w (rmemoL r (.slice ha r.hood.length hc) (.slice na r.nodes.length nc) mb sb ns Ps)) (n : Int) :
    Calls Try.prog 20 #[.pointer (some ⟨mb, 0, none⟩), .int .i64 n] w fun e w' => e = .returned (.int .i64 (mostOf r n)) ∧ Fr [] w w' := by
  obtain ⟨m0, m1, m2, m3, m4, ml⟩ := rmemo_cells h
  have HRad := Lib.hid (fun w1 (hf : Fr [] w w1) => RHRadius_calls (hru.fr hf).1 hlh)
  have hr2 := radius_le r.hood
  have HM := Lib.hid (show mostOf r n = if n < 0 ∨ 256 < n then -1 else max (n - (lostOf (radius r.hood) : Nat)) (-1) from rfl)
  generalize radius r.hood = q at HRad hr2 HM
  clear h hru
  by_cases h1 : n < 0
  · go_enter Try.func20, Try.ntmps20
    go_wp2
    all_goals
      go_ret
      exact ⟨ret_int' (by rw [HM.out, if_pos (.inl h1)]), Fr.refl _ _⟩
  · by_cases h2 : 256 < n
    · go_enter Try.func20, Try.ntmps20
      go_wp2
      all_goals
        go_ret
        exact ⟨ret_int' (by rw [HM.out, if_pos (.inr h2)]), Fr.refl _ _⟩
    · by_cases h3 : q > 1
      · go_enter Try.func20, Try.ntmps20
        go_wp2_with fail
        refine (HRad.out _ (by (repeat (first | exact Fr.refl _ _ | assumption | apply Fr.drewN | apply Fr.drew | apply Fr.alloc | refine Fr.setCell ?_ (Or.inr (by simp; try omega)) _)))).mono ?_
        rintro e w5 ⟨rfl, hf⟩
        have Hf := Lib.hid (Fr.trans0 (by (repeat (first | exact Fr.refl _ _ | assumption | apply Fr.drewN | apply Fr.drew | apply Fr.alloc | refine Fr.setCell ?_ (Or.inr (by simp; try omega)) _)) : Fr [] w _) hf)
        clear hf
        go_wp2
        all_goals
          go_ret
          exact ⟨ret_int' (by rw [HM.out, if_neg (by omega)]; unfold lostOf; omega), by have := Hf.out; (repeat (first | exact Fr.refl _ _ | assumption | apply Fr.drewN | apply Fr.drew | apply Fr.alloc | refine Fr.setCell ?_ (Or.inr (by simp; try omega)) _))⟩
      · go_enter Try.func20, Try.ntmps20
        go_wp2_with fail
        refine (HRad.out _ (by (repeat (first | exact Fr.refl _ _ | assumption | apply Fr.drewN | apply Fr.drew | apply Fr.alloc | refine Fr.setCell ?_ (Or.inr (by simp; try omega)) _)))).mono ?_
        rintro e w5 ⟨rfl, hf⟩
        have Hf := Lib.hid (Fr.trans0 (by (repeat (first | exact Fr.refl _ _ | assumption | apply Fr.drewN | apply Fr.drew | apply Fr.alloc | refine Fr.setCell ?_ (Or.inr (by simp; try omega)) _)) : Fr [] w _) hf)
        clear hf
        go_wp2
        all_goals
          go_ret
          exact ⟨ret_int' (by rw [HM.out, if_neg (by omega)]; unfold lostOf; omega), by have := Hf.out; (repeat (first | exact Fr.refl _ _ | assumption | apply Fr.drewN | apply Fr.drew | apply Fr.alloc | refine Fr.setCell ?_ (Or.inr (by simp; try omega)) _))⟩
theorem RMMost_nil {w : World} (n : Int) : Calls Try.prog 20 #[.pointer none, .int .i64 n] w fun e w' => e = .returned (.int .i64 (-1)) ∧ w = w' := by
  go_enter Try.func20, Try.ntmps20
  go_wp2
  all_goals
    go_ret
    exact ⟨rfl, rfl⟩
end Go.Proofs.Ytppmnmheodimoaa
end
