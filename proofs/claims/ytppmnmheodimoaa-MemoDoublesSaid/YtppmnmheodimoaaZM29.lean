/- Own texts of this claim, part 30: no condition. -/
import Derived.Deep.DeepCutAuto
import Derived.Deep.RegionHeld3
import Derived.Test.YtppmnmheodimoaaZM27
import Derived.Test.YtppmnmheodimoaaZM22
import Derived.Test.YtppmnmheodimoaaZM28
set_option linter.unusedVariables false
set_option linter.unusedSimpArgs false
section
/- Steps of all levels; Step, Most, Known and Forget of package memo. -/
namespace Go.Proofs.Mp
open Go Go.RowKit Go.MapKept
set_option linter.unusedVariables false
set_option linter.unusedSimpArgs false
theorem MapIs.cleared {P : Program} {κ ν : Type} {f : κ → Value} {g : ν → Value} {w : World} {b : Nat} {l : List (κ × ν)} (h : MapIs w b f g l) {T K E : TypeId} (hT : P.underlying T = some (.map K E)) :
    ∃ q, (∀ ty, (Builtin.clear_ #[T] ty #[.map (some b)]).run P w = .ok (.tuple #[]) { w with heap := w.heap.setIfInBounds b q }) ∧ MapIs { w with heap := w.heap.setIfInBounds b q } b f g [] := by
  obtain ⟨es, clock, hb, hl⟩ := h
  obtain ⟨hlt, hbb⟩ := Array.getElem?_eq_some_iff.1 hb
  refine ⟨.map #[] clock, fun ty => ?_, ⟨#[], clock, ?_, rfl⟩⟩
  · have hr : (Go.underlying T).run P w = .ok (.map K E) w := by unfold Go.underlying; simp [hT]
    simp [Builtin.clear_, hr, Go.MapKept.run_getObj_map hb, Go.MapKept.run_setObj_map _ hb, Result.andThen]
  · simp [Array.getElem?_setIfInBounds, hlt]
end Go.Proofs.Mp
namespace Go.Proofs.Ytppmnmheodimoaa
open Go Go.RowKit Go.Proofs.Rg Go.Proofs.Mp Go.Proofs.Hp Go.Proofs.Qs Go.Proofs.Ev
set_option linter.unusedVariables false
theorem step_all {W : World} {r : Rule} {ha na : Option Addr} {hc nc : Nat} {mb sb rb : Nat} {L : List Tr} (hR : rightR r = true) :
    ∀ n, n ≤ 200 → StepAt W r (.slice ha r.hood.length hc) (.slice na r.nodes.length nc) mb sb rb L n
  | 0, _ => by
    intro w Ps ns mm id k t _ _ _ _ h4
    have := lost_le (radius_le r.hood).1 (radius_le r.hood).2
    omega
  | n + 1, hn => by
    have hl := lost_le (radius_le r.hood).1 (radius_le r.hood).2
    have ih := step_all (W := W) (ha := ha) (na := na) (hc := hc) (nc := nc) (L := L) (mb := mb) (sb := sb) (rb := rb) hR n (by omega)
    refine step_at (by omega) hR (fun e => ?_) (fun hlt => ?_)
    · rcases (show lostOf (radius r.hood) = 2 ∨ lostOf (radius r.hood) = 3 by omega) with h | h
      · obtain rfl : n = 1 := by omega
        exact direct_four hR h
      · obtain rfl : n = 2 := by omega
        exact direct_eight hR h
    · obtain ⟨m, rfl⟩ : ∃ m, n = m + 2 := ⟨n - 2, by omega⟩
      intro w Ps ns mm id k t h hroom hkept hi hk hL hsrc
      exact parts_calls h hroom hkept hi (by omega) hR hlt hk rfl hL ih hsrc
/-- the greatest exponent -/
def mostOf (r : Rule) (n : Int) : Int := if n < 0 ∨ 256 < n then -1 else max (n - (lostOf (radius r.hood) : Nat)) (-1)
theorem MMost_calls {W w : World} {r : Rule} {hv nv : Value} {mb sb rb : Nat} {ns : List K4} {mm : List ((Int × Int) × Int)} {Ps : List Res} (h : Has W w (memoL r hv nv mb sb rb ns mm Ps)) (n : Int) :
    Calls Try.prog 12 #[.pointer (some ⟨mb, 0, none⟩), .int .i64 n] w fun e w' => e = .returned (.int .i64 (mostOf r n)) ∧ w = w' := by
  obtain ⟨_, _, _, _, _, m5, ml⟩ := memo_cells h
  have hl := lost_le (radius_le r.hood).1 (radius_le r.hood).2
  clear h
  generalize hlo : lostOf (radius r.hood) = lo at m5 hl
  have HM := Lib.hid (show mostOf r n = if n < 0 ∨ 256 < n then -1 else max (n - (lo : Nat)) (-1) by rw [← hlo]; rfl)
  clear hlo
  by_cases h1 : n < 0
  · go_enter Try.func12, Try.ntmps12
    go_wp2
    all_goals
      go_ret
      exact ⟨ret_int' (by rw [HM.out, if_pos (.inl h1)]), rfl⟩
  · by_cases h2 : 256 < n
    · go_enter Try.func12, Try.ntmps12
      go_wp2
      all_goals
        go_ret
        exact ⟨ret_int' (by rw [HM.out, if_pos (.inr h2)]), rfl⟩
    · go_enter Try.func12, Try.ntmps12
      go_wp2
      all_goals
        go_ret
        exact ⟨ret_int' (by rw [HM.out, if_neg (by omega)]; omega), rfl⟩
theorem MMost_nil {w : World} (n : Int) : Calls Try.prog 12 #[.pointer none, .int .i64 n] w fun e w' => e = .returned (.int .i64 (-1)) ∧ w = w' := by
  go_enter Try.func12, Try.ntmps12
  go_wp2
  all_goals
    go_ret
    exact ⟨rfl, rfl⟩
theorem MKnown_nil {w : World} : Calls Try.prog 13 #[.pointer none] w fun e w' => e = .returned (.int .i64 0) ∧ w = w' := by
  go_enter Try.func13, Try.ntmps13
  go_wp2
  all_goals
    go_ret
    exact ⟨rfl, rfl⟩
theorem MForget_nil {w : World} : Calls Try.prog 8 #[.pointer none] w fun e w' => e = .returned (.tuple #[]) ∧ w = w' := by
  go_enter Try.func8, Try.ntmps8
  go_wp2
  all_goals
    refine bodyPost_end (results_none rfl _ _ _) rfl ?_
    exact ⟨rfl, rfl⟩
theorem MStep_nil {w : World} (id k : Int) : Calls Try.prog 9 #[.pointer none, .int .i64 id, .int .i64 k] w fun e w' => e = .returned (.tuple #[.int .i64 0, .int .i64 1]) ∧ w = w' := by
  go_enter Try.func9, Try.ntmps9
  go_wp2
  all_goals
    go_ret2
    exact ⟨rfl, rfl⟩
theorem MKnown_calls {W w : World} {r : Rule} {hv nv : Value} {mb sb rb : Nat} {ns : List K4} {mm : List ((Int × Int) × Int)} {Ps : List Res} (h : Has W w (memoL r hv nv mb sb rb ns mm Ps)) :
    Calls Try.prog 13 #[.pointer (some ⟨mb, 0, none⟩)] w fun e w' => e = .returned (.int .i64 mm.length) ∧ w = w' := by
  obtain ⟨_, _, _, _, m4, _, ml⟩ := memo_cells h
  obtain ⟨F9, hM, _⟩ := h.swap.head
  have hlen := MapIs.len hM Try.underlying79
  clear h hM
  go_enter Try.func13, Try.ntmps13
  go_wp2
  all_goals
    go_ret
    exact ⟨rfl, rfl⟩
theorem MForget_calls {W w : World} {r : Rule} {hv nv : Value} {mb sb rb : Nat} {ns : List K4} {mm : List ((Int × Int) × Int)} {Ps : List Res} (h : Has W w (memoL r hv nv mb sb rb ns mm Ps)) :
    Calls Try.prog 8 #[.pointer (some ⟨mb, 0, none⟩)] w fun e w' => e = .returned (.tuple #[]) ∧ Has W w' (memoL r hv nv mb sb rb ns [] Ps) := by
  obtain ⟨_, _, _, _, m4, _, ml⟩ := memo_cells h
  obtain ⟨F9, hM, _⟩ := h.swap.head
  obtain ⟨q, hclear, hM'⟩ := MapIs.cleared hM Try.underlying79
  have H := Lib.hid (map_put_has h.swap hM').swap
  clear h hM hM'
  go_enter Try.func8, Try.ntmps8
  go_wp2
  all_goals
    refine bodyPost_end (results_none rfl _ _ _) rfl ?_
    exact ⟨rfl, H.out⟩
/-- what Step leaves -/
def StepEnd (W : World) (r : Rule) (hv nv : Value) (mb sb rb : Nat) (L : List Tr) (ns : List K4) (mm : List ((Int × Int) × Int)) (id k : Int) (Ps : List Res) (e : Ending) (w' : World) : Prop :=
  (¬ Kn r.S ns id ∧ e = .returned (.tuple #[.int .i64 0, .int .i64 13]) ∧ Has W w' (memoL r hv nv mb sb rb ns mm Ps)) ∨
  (∃ n t, Is r.S ns n id t ∧ (k < 0 ∨ mostOf r n < k) ∧ e = .returned (.tuple #[.int .i64 0, .int .i64 18]) ∧ Has W w' (memoL r hv nv mb sb rb ns mm Ps)) ∨
  (∃ n t, ∃ k' : Nat, Is r.S ns n id t ∧ k = k' ∧ lostOf (radius r.hood) ≤ n ∧ k' ≤ n - lostOf (radius r.hood) ∧ StepPost W r hv nv mb sb rb L ns mm n k' id (stp (gen r) n k' t) Ps e w')
set_option maxHeartbeats 4000000 in
theorem MStep_calls {W w : World} {r : Rule} {ha na : Option Addr} {hc nc : Nat} {mb sb rb : Nat} {L : List Tr} {ns : List K4} {mm : List ((Int × Int) × Int)} {Ps : List Res} (hR : rightR r = true) (hsrc : RuleSrc W (.slice ha r.hood.length hc) (.slice na r.nodes.length nc) r Ps)
    (h : Has W w (memoL r (.slice ha r.hood.length hc) (.slice na r.nodes.length nc) mb sb rb ns mm Ps)) (hroom : room r.S ns L) (hkept : Kept r ns mm) (id k : Int)
    (hL : ∀ (n k' : Nat) (t : Tr), Is r.S ns n id t → k = k' → lostOf (radius r.hood) ≤ n → k' ≤ n - lostOf (radius r.hood) → n ≤ 200 ∧ ∀ u ∈ need (gen r) (lostOf (radius r.hood)) n k' t, u ∈ L) :
    Calls Try.prog 9 #[.pointer (some ⟨mb, 0, none⟩), .int .i64 id, .int .i64 k] w (StepEnd W r (.slice ha r.hood.length hc) (.slice na r.nodes.length nc) mb sb rb L ns mm id k Ps) := by
  have hg := has_good h
  have hlv := Level_has h id
  obtain ⟨_, _, _, m3, _, _, ml⟩ := memo_cells h
  by_cases hk : Kn r.S ns id
  · have hi : Is r.S ns (tr r.S ns id).ht id (tr r.S ns id) := Is.of_lvl hg (lvl_ht hg ns.length (by have := hk.2; omega) hk)
    generalize (tr r.S ns id).ht = n at hi
    generalize tr r.S ns id = t at hi
    have hlv := LevelIs_has h hi
    have HLV := Lib.hid hlv
    have HI := Lib.hid hi
    have hne : ((n : Int) < 0) = False := by simp
    have hlt : decide ((n : Int) < 0) = false := by simp
    clear h hlv
    by_cases h0 : k < 0
    · clear hroom hkept hL hi
      go_enter Try.func9, Try.ntmps9
      go_wp2_with fail
      refine HLV.out.mono ?_
      rintro e w5 ⟨rfl, h5, hf⟩
      have H5 := Lib.hid h5
      clear h5 hf m3 ml
      go_wp2
      all_goals
        go_ret2
        exact .inr (.inl ⟨n, t, HI.out, .inl h0, rfl, H5.out⟩)
    · obtain ⟨k', rfl⟩ : ∃ k' : Nat, k = k' := ⟨k.toNat, by omega⟩
      have hk0 : ((k' : Int) < 0) = False := by simp
      have hk0' : decide ((k' : Int) < 0) = false := by simp
      have HM := Lib.hid (fun w1 (h1 : Has W w1 (memoL r (.slice ha r.hood.length hc) (.slice na r.nodes.length nc) mb sb rb ns mm Ps)) => MMost_calls h1 n)
      have hl := lost_le (radius_le r.hood).1 (radius_le r.hood).2
      by_cases hm : mostOf r n < k'
      · have hmd : decide ((k' : Int) > mostOf r n) = true := by simp; omega
        have HM2 := Lib.hid hm
        clear hroom hkept hL hi hm hl
        go_enter Try.func9, Try.ntmps9
        go_wp2_with fail
        refine HLV.out.mono ?_
        rintro e w5 ⟨rfl, h5, hf⟩
        have H5 := Lib.hid h5
        clear h5 hf m3 ml
        go_wp2_with fail
        refine (HM.out _ H5.out).mono ?_
        rintro e w5 ⟨rfl, rfl⟩
        go_wp2
        all_goals
          go_ret2
          exact .inr (.inl ⟨n, t, HI.out, .inr HM2.out, rfl, H5.out⟩)
      · have hmd : decide ((k' : Int) > mostOf r n) = false := by simp; omega
        have hmk : lostOf (radius r.hood) ≤ n ∧ k' ≤ n - lostOf (radius r.hood) := by
          unfold mostOf at hm
          split at hm <;> omega
        obtain ⟨hn, hL⟩ := hL n k' t hi rfl hmk.1 hmk.2
        have HST := Lib.hid (fun w1 (h1 : Has W w1 (memoL r (.slice ha r.hood.length hc) (.slice na r.nodes.length nc) mb sb rb ns mm Ps)) => step_all (L := L) (mb := mb) (sb := sb) (rb := rb) hR n hn w1 Ps ns mm id k' t h1 hroom hkept hi hmk.1 hmk.2 hL hsrc)
        have HMK := Lib.hid hmk
        clear hroom hkept hL hi hm hl hmk
        go_enter Try.func9, Try.ntmps9
        go_wp2_with fail
        refine HLV.out.mono ?_
        rintro e w5 ⟨rfl, h5, hf⟩
        have H5 := Lib.hid h5
        clear h5 hf m3 ml
        go_wp2_with fail
        refine (HM.out _ H5.out).mono ?_
        rintro e w5 ⟨rfl, rfl⟩
        go_wp2_with fail
        refine (HST.out _ H5.out).mono ?_
        rintro e w6 ⟨res, ns', mm', rfl, h6⟩
        have H6 := Lib.hid h6
        clear h6
        go_wp2
        all_goals
          go_ret2
          exact .inr (.inr ⟨n, t, k', HI.out, rfl, HMK.out.1, HMK.out.2, res, ns', mm', rfl, H6.out⟩)
  · have hlt : ¬ 0 ≤ lvl r.S (levs r.S ns) id := fun h => hk ((kn_lvl hg id).1 h)
    generalize lvl r.S (levs r.S ns) id = v at hlv hlt
    have HLV := Lib.hid hlv
    have hv : decide (v < 0) = true := by simp; omega
    clear h hlv hroom hkept hL hg
    go_enter Try.func9, Try.ntmps9
    go_wp2_with fail
    refine HLV.out.mono ?_
    rintro e w5 ⟨rfl, h5, hf⟩
    have H5 := Lib.hid h5
    clear h5 hf m3 ml
    go_wp2
    all_goals
      go_ret2
      exact .inl ⟨hk, rfl, H5.out⟩
end Go.Proofs.Ytppmnmheodimoaa
end

section
/- New of package memo. -/
namespace Go.Proofs.Ytppmnmheodimoaa
open Go Go.RowKit Go.Proofs.Rg Go.Proofs.Mp Go.Proofs.Hp Go.Proofs.Qs Go.Proofs.Ev
set_option linter.unusedVariables false
set_option linter.unusedSimpArgs false
theorem run_field_S (w : World) (s : Int) (x : Value) : (Instr.field 39 (.agg #[.int .i64 s, x]) 0).run Try.prog w = .ok (.int .i64 s) w := by
  simp [Instr.field, Sem.run_bind, run_underlying, Try.underlying39, part, go_sem, asAgg, isAgg, Try.underlying3]
theorem run_maxq {q z : Int} (hz : z = max q 1) (w : World) : (Builtin.max_ #[3, 3] 3 #[.int .i64 q, .int .i64 1]).run Try.prog w = .ok (.int .i64 z) w := by
  subst hz
  unfold Builtin.max_
  simp [Builtin.max2]
  split <;> omega
theorem has_map {W w : World} {Ps : List Res} (h : Has W w Ps) : Has W (w.alloc (.map #[] 0)) (mapR w.heap.size [] :: Ps) :=
  h.new (F := [w.heap.size]) ((Fr.refl [] w).alloc _) ⟨MapIs.made w, rfl⟩ (by simp)
theorem memo_made {W w : World} {r : Rule} {hv nv : Value} {sb rb : Nat} {ns : List K4} {Ps : List Res} (h : Has W w (mapR rb [] :: storeR sb r.S ns :: Ps)) {z : Int} (hz : z = (lostOf (radius r.hood) : Nat)) :
    Has W (w.alloc (.cells #[.int .i64 r.S, hv, nv, .pointer (some ⟨sb, 0, none⟩), .map (some rb), .int .i64 z] 81 (0, 0))) (memoL r hv nv w.heap.size sb rb ns [] Ps) := by
  subst hz
  have h1 := has_alloc h (mcells r hv nv sb rb) 81
  have p : [Hp.blk w.heap.size (.cells (mcells r hv nv sb rb) 81 (0, 0)), mapR rb [], storeR sb r.S ns].Perm [storeR sb r.S ns, mapR rb [], Hp.blk w.heap.size (.cells (mcells r hv nv sb rb) 81 (0, 0))] := List.reverse_perm [storeR sb r.S ns, mapR rb [], Hp.blk w.heap.size (.cells (mcells r hv nv sb rb) 81 (0, 0))]
  exact h1.perm (p.append_right Ps)
def rv (r : Rule) (ha na : Option Addr) (hc nc : Nat) : Value := .agg #[.int .i64 r.S, .slice ha r.hood.length hc, .slice na r.nodes.length nc]
section
variable {w : World} {r : Rule} {ha na : Option Addr} {hc nc : Nat} (hru : RuleAt w (.slice ha r.hood.length hc) (.slice na r.nodes.length nc) r) (hlh : r.hood.length ≤ 1000000) (hln : r.nodes.length ≤ 1000000)
include hru hlh hln
theorem MNew_bad (hR : rightR r = false) (s : Value) : Calls Try.prog 10 #[rv r ha na hc nc, s] w fun e w' => e = .returned (.tuple #[.pointer none, .int .i64 11]) ∧ Fr [] w w' := by
  have HT := Lib.hid (fun w1 (hf : Fr [] w w1) => TRight_calls (hru.fr hf) hlh hln)
  clear hru
  unfold rv
  rw [hR] at HT
  go_enter Try.func10, Try.ntmps10
  go_wp2_with fail
  refine (HT.out _ (by (repeat (first | exact Fr.refl _ _ | assumption | apply Fr.drewN | apply Fr.drew | apply Fr.alloc | refine Fr.setCell ?_ (Or.inr (by simp; try omega)) _)))).mono ?_
  rintro e w5 ⟨rfl, hf⟩
  have Hf := Lib.hid (Fr.trans0 (by (repeat (first | exact Fr.refl _ _ | assumption | apply Fr.drewN | apply Fr.drew | apply Fr.alloc | refine Fr.setCell ?_ (Or.inr (by simp; try omega)) _)) : Fr [] w _) hf)
  clear hf
  go_wp2
  all_goals
    go_ret2
    exact ⟨rfl, Hf.out⟩
theorem MNew_nil (hR : rightR r = true) : Calls Try.prog 10 #[rv r ha na hc nc, .pointer none] w fun e w' => e = .returned (.tuple #[.pointer none, .int .i64 1]) ∧ Fr [] w w' := by
  have HT := Lib.hid (fun w1 (hf : Fr [] w w1) => TRight_calls (hru.fr hf) hlh hln)
  clear hru
  unfold rv
  rw [hR] at HT
  go_enter Try.func10, Try.ntmps10
  go_wp2_with fail
  refine (HT.out _ (by (repeat (first | exact Fr.refl _ _ | assumption | apply Fr.drewN | apply Fr.drew | apply Fr.alloc | refine Fr.setCell ?_ (Or.inr (by simp; try omega)) _)))).mono ?_
  rintro e w5 ⟨rfl, hf⟩
  have Hf := Lib.hid (Fr.trans0 (by (repeat (first | exact Fr.refl _ _ | assumption | apply Fr.drewN | apply Fr.drew | apply Fr.alloc | refine Fr.setCell ?_ (Or.inr (by simp; try omega)) _)) : Fr [] w _) hf)
  clear hf
  go_wp2
  all_goals
    go_ret2
    exact ⟨rfl, Hf.out⟩
end
set_option maxHeartbeats 4000000 in
set_option maxRecDepth 100000 in
theorem MNew_calls {W w : World} {r : Rule} {ha na : Option Addr} {hc nc : Nat} (hru : RuleAt w (.slice ha r.hood.length hc) (.slice na r.nodes.length nc) r) (hlh : r.hood.length ≤ 1000000) (hln : r.nodes.length ≤ 1000000)
    (hR : rightR r = true) {sb : Nat} {S : Int} {ns : List K4} {Ps : List Res} (h : Has W w (storeR sb S ns :: Ps)) :
    Calls Try.prog 10 #[rv r ha na hc nc, .pointer (some ⟨sb, 0, none⟩)] w fun e w' => ((S ≠ r.S ∧ e = .returned (.tuple #[.pointer none, .int .i64 10]) ∧ Has W w' (storeR sb S ns :: Ps)) ∨
      (S = r.S ∧ ∃ mb rb, e = .returned (.tuple #[.pointer (some ⟨mb, 0, none⟩), .int .i64 0]) ∧ Has W w' (memoL r (.slice ha r.hood.length hc) (.slice na r.nodes.length nc) mb sb rb ns [] Ps))) := by
  have HT := Lib.hid (fun w1 (hf : Fr [] w w1) => TRight_calls (hru.fr hf) hlh hln)
  have HRad := Lib.hid (fun w1 (hf : Fr [] w w1) => HRadius_calls (hru.fr hf).1 hlh)
  have H := Lib.hid h
  have hr2 := radius_le r.hood
  generalize hrad : radius r.hood = q at HRad hr2
  have HQ := Lib.hid hrad
  obtain ⟨z, hzq⟩ : ∃ z, z = max q 1 := ⟨_, rfl⟩
  have hz1 : 1 ≤ z := by omega
  have hz2 : z ≤ 2 := by omega
  have hwz : IntKind.i64.wrap (z + 1) = z + 1 := by simp [IntKind.wrap, IntKind.signed, IntKind.bits]; omega
  have hmaxq := fun w1 => run_maxq (q := q) hzq w1
  have HZ := Lib.hid hzq
  clear hzq hr2
  clear hru h hrad
  have hmm := @run_makeMap Try.prog
  unfold rv
  rw [hR] at HT
  go_enter Try.func10, Try.ntmps10
  go_wp2_with fail
  refine (HT.out _ (by (repeat (first | exact Fr.refl _ _ | assumption | apply Fr.drewN | apply Fr.drew | apply Fr.alloc | refine Fr.setCell ?_ (Or.inr (by simp; try omega)) _)))).mono ?_
  rintro e w5 ⟨rfl, hf⟩
  have Hf := Lib.hid (Fr.trans0 (by (repeat (first | exact Fr.refl _ _ | assumption | apply Fr.drewN | apply Fr.drew | apply Fr.alloc | refine Fr.setCell ?_ (Or.inr (by simp; try omega)) _)) : Fr [] w _) hf)
  have ht_ := (hf.block (w.heap.size) (by first | (simp; done) | (simp; omega)) (by simp)).trans (show _ = some (.cells #[.int .i64 r.S, .slice ha r.hood.length hc, .slice na r.nodes.length nc] 31 (0, 0)) by (repeat (first | rw [if_pos (by omega)] | rw [if_neg (by omega)] | rw [hp_drew] | rw [hp_drewN] | rw [hp_alloc_size] | rw [hp_setCell_size] | rw [hp_alloc] | rw [hp_setCell] | rw [Option.map_some] | rw [upd_cells] | rw [List.set_cons_zero] | rw [List.set_cons_succ] | rfl)))
  have t0 := heap_eq_cell ht_ 0
  have t1 := heap_eq_cell ht_ 1
  have t2 := heap_eq_cell ht_ 2
  have tl := lt_of_block ht_
  have Ht := Lib.hid ht_
  clear ht_
  clear hf
  go_wp2
  refine wp_region_segs [([0, 3, 4, 1], [4]), ([2, 5, 6], [])] (by kernel_rfl) (by kernel_rfl) ?_
  (simp only [wpSegs, pick, Array.getD_eq_getD_getElem?, List.getElem?_toArray, List.getElem?_cons_succ, List.getElem?_cons_zero, Option.getD_some])
  go_wp2_with fail
  refine (Data_has (H.out.step (Fr.trans0 Hf.out (by (repeat (first | exact Fr.refl _ _ | assumption | apply Fr.drewN | apply Fr.drew | apply Fr.alloc | refine Fr.setCell ?_ (Or.inr (by simp; try omega)) _)))))).mono ?_
  rintro e w6 ⟨xa, xc, rfl, _, h6, hf⟩
  (try clear t0)
  (try clear t1)
  (try clear t2)
  (try clear tl)
  have ht_ := (hf.block _ (lt_of_block Ht.out) (by simp)).trans Ht.out
  clear Ht
  have t0 := heap_eq_cell ht_ 0
  have t1 := heap_eq_cell ht_ 1
  have t2 := heap_eq_cell ht_ 2
  have tl := lt_of_block ht_
  have Ht := Lib.hid ht_
  clear ht_
  have Hf := Lib.hid (Hf.out.trans0 (Fr.trans0 (by (repeat (first | exact Fr.refl _ _ | assumption | apply Fr.drewN | apply Fr.drew | apply Fr.alloc | refine Fr.setCell ?_ (Or.inr (by simp; try omega)) _))) hf))
  have H6 := Lib.hid h6
  have hfld := run_field_S w6 S (.slice xa ns.length xc)
  clear hf h6 H
  go_wp2
  refine Mid.intro ⟨⟨again_cell (T := 3) rfl rfl rfl Try.underlying3 rfl t0 rfl, trivial⟩, ?_⟩
  by_cases hS : S = r.S
  · have HS := Lib.hid hS
    subst hS
    go_wp2
    refine Mid.intro ⟨trivial, Strict.intro rfl ?_⟩
    go_upto_region 7 with fail
    go_cut [4, 5] (fun s4 s5 wx => ∃ mb rb, s4 = .pointer (some ⟨mb, 0, none⟩) ∧ s5 = .int .i64 0 ∧ Hid (Has W wx (memoL r (.slice ha r.hood.length hc) (.slice na r.nodes.length nc) mb sb rb ns [] Ps)))
    case first =>
      have n10 := World.new_ne w6 _ t0
      have n11 := World.new_ne w6 _ t1
      have n12 := World.new_ne w6 _ t2
      go_region_held3 (fun w' => w'.cell? ⟨w.heap.size, 0, none⟩ = some (.int .i64 r.S) ∧ w'.cell? ⟨w.heap.size, 1, none⟩ = some (.slice ha r.hood.length hc) ∧ w'.cell? ⟨w.heap.size, 2, none⟩ = some (.slice na r.nodes.length nc)) (first | go_keep | exact ⟨k0, k1, k2⟩)
        (first | (go_at_call 38; refine (HRad.out _ (by have := Hf.out; (repeat (first | exact Fr.refl _ _ | assumption | apply Fr.drewN | apply Fr.drew | apply Fr.alloc | refine Fr.setCell ?_ (Or.inr (by simp; try omega)) _)))).mono ?_; rintro e wA ⟨rfl, hf0⟩; have h45 : Fr [] w6 wA := Fr.trans0 (by (repeat (first | exact Fr.refl _ _ | assumption | apply Fr.drewN | apply Fr.drew | apply Fr.alloc | refine Fr.setCell ?_ (Or.inr (by simp; try omega)) _))) hf0; have k0 := (h45.cell (p := ⟨w.heap.size, 0, none⟩) tl (by simp)).trans t0; have k1 := (h45.cell (p := ⟨w.heap.size, 1, none⟩) tl (by simp)).trans t1; have k2 := (h45.cell (p := ⟨w.heap.size, 2, none⟩) tl (by simp)).trans t2; have n0 := World.new_ne wA _ k0; have n1 := World.new_ne wA _ k1; have n2 := World.new_ne wA _ k2))
      all_goals
        go_wp2_with fail
        go_meet
        have hz : z + 1 = ((lostOf (radius r.hood) : Nat) : Int) := by rw [HQ.out]; have := HZ.out; unfold lostOf; omega
        first
          | exact ⟨_, _, rfl, rfl, Lib.hid (memo_made (((has_map H6.out).step ((Fr.refl [] _).drew)).step hf0) hz)⟩
          | exact ⟨_, _, rfl, rfl, Lib.hid (hp_alloc_size wA (.map #[] 0) ▸ memo_made (has_map (H6.out.step h45)) hz)⟩
    case rest =>
      obtain ⟨mb, rb, rfl, rfl, HM⟩ := hcut
      go_wp2
      go_ret2
      exact ⟨mb, rfl, rb, HM.out⟩
  · have hS1 : (S != r.S) = true := by simpa using hS
    go_wp2
    refine Mid.intro ⟨trivial, Strict.intro rfl ?_⟩
    go_wp2
    go_ret2
    exact Or.inl ⟨hS, rfl, by have := H6.out; exact this.step (by (repeat (first | exact Fr.refl _ _ | assumption | apply Fr.drewN | apply Fr.drew | apply Fr.alloc | refine Fr.setCell ?_ (Or.inr (by simp; try omega)) _)))⟩
end Go.Proofs.Ytppmnmheodimoaa
end
