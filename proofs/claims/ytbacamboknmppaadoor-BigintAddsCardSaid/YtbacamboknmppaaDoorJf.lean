/- Big integers: From, Int. -/
import Derived.Test.YtbacamboknmppaaDoorJe
namespace Go.Proofs.YtbacamboknmppaaDoor
open Go Go.RowKit Go.Proofs.Rg Go.Proofs.Hp Go.Proofs.Bn
set_option linter.unusedVariables false
set_option linter.unusedSimpArgs false
def fromS (n : Int) : Bool × List Nat × Int := mkN (decide (n < 0)) n.natAbs
set_option maxHeartbeats 4000000 in
set_option maxRecDepth 100000 in
theorem From_calls {w : World} {n : Int} (h1 : -9223372036854775808 ≤ n) (h2 : n < 9223372036854775808) :
    Calls Tryd.prog 12 #[.int .i64 n] w (BigPost1 w (w.heap.size ≤ ·) (fromS n)) := by
  have hsz := fun w1 => size_calls (w := w1) h1 h2
  have hb : n.natAbs < 18446744073709551616 := by omega
  unfold fromS
  obtain ⟨neg, hneg⟩ : ∃ neg, decide (n < 0) = neg := ⟨_, rfl⟩
  rw [hneg]
  generalize n.natAbs = v at *
  obtain ⟨r, hrr⟩ : ∃ r, mkN neg v = r := ⟨_, rfl⟩
  rw [hrr]
  have HRR := Lib.hid hrr
  clear hrr
  have Hsz := Lib.hid hsz
  have hv : val 4294967296 [v % 4294967296, v / 4294967296 % 4294967296] = v := by simp only [val]; omega
  have hdd : Dig 4294967296 [v % 4294967296, v / 4294967296 % 4294967296] := fun x hx => by simp at hx; omega
  have Hv := Lib.hid hv
  have Hdd := Lib.hid hdd
  have Hb := Lib.hid (And.intro h1 (And.intro h2 hb))
  clear hsz hv hdd h1 h2 hb
  go_enter Tryd.func12, Tryd.ntmps12
  go_wp2_with fail
  refine (Hsz.out _).mono ?_
  rintro e w1 ⟨rfl, rfl⟩
  go_wp2_with fail
  refine (made_calls (ds := [v % 4294967296, v / 4294967296 % 4294967296]) (A := fun g => w.heap.size + 1 ≤ g) (reads_blk (cs := u32s [v % 4294967296, v / 4294967296 % 4294967296]) (by (repeat (first | rw [if_pos (by omega)] | rw [if_neg (by omega)] | rw [hp_drew] | rw [hp_drewN] | rw [hp_alloc_size] | rw [hp_setCell_size] | rw [hp_alloc] | rw [hp_setCell] | rw [Option.map_some] | rw [upd_cells] | rw [List.set_cons_zero] | rw [List.set_cons_succ] | rfl))) rfl) Hdd.out (by simp) (by simp) (fun g hg => by simp [Value.ownBlock] at hg; omega)).mono ?_
  rintro e w2 ⟨ra, rc, hlo, rfl, hr, hf⟩
  rw [Hv.out, HRR.out] at hlo hr
  rw [Hv.out, HRR.out]
  have hc := (hf.block w.heap.size (by simp; omega) (by simp)).trans (show _ = some (.cells #[.bool false, .slice none 0 0] 24 (0, 0)) by (repeat (first | rw [if_pos (by omega)] | rw [if_neg (by omega)] | rw [hp_drew] | rw [hp_drewN] | rw [hp_alloc_size] | rw [hp_setCell_size] | rw [hp_alloc] | rw [hp_setCell] | rw [Option.map_some] | rw [upd_cells] | rw [List.set_cons_zero] | rw [List.set_cons_succ] | rfl)))
  have c0 := heap_eq_cell hc 0
  have c1 := heap_eq_cell hc 1
  have z0 := heap_eq_frozen hc 0
  have z1 := heap_eq_frozen hc 1
  have cl := lt_of_block hc
  have Hc := Lib.hid hc
  have Hlo := Lib.hid hlo
  have Hr := Lib.hid hr
  have Hf := Lib.hid (Fr.trans0 (by (repeat (first | exact Fr.refl _ _ | assumption | apply Fr.drewN | apply Fr.drew | apply Fr.alloc | refine Fr.setCell ?_ (Or.inr (by simp; try omega)) _)) : Fr [] w _) hf)
  clear hlo hr hf hc
  obtain ⟨r1, r2, r3⟩ := r
  go_wp2
  (try simp only [Exit.inBlock, Exit.then])
  refine bodyPost_ret (big_result1 rfl (b := w.heap.size) (x := .bool r1) (y := .slice ra r2.length rc) rfl ?_) rfl ⟨_, _, ⟨Hlo.out.1, fun g hg => (by have h := Hlo.out.2 g hg; omega)⟩, rfl, ?_, ?_⟩
  · have h := Hc.out
    (repeat (first | rw [if_pos (by omega)] | rw [if_neg (by omega)] | rw [hp_drew] | rw [hp_drewN] | rw [hp_alloc_size] | rw [hp_setCell_size] | rw [hp_alloc] | rw [hp_setCell] | rw [Option.map_some] | rw [upd_cells] | rw [List.set_cons_zero] | rw [List.set_cons_succ] | rfl))
    first | exact h | (rw [h]; (repeat (first | rw [if_pos (by omega)] | rw [if_neg (by omega)] | rw [hp_drew] | rw [hp_drewN] | rw [hp_alloc_size] | rw [hp_setCell_size] | rw [hp_alloc] | rw [hp_setCell] | rw [Option.map_some] | rw [upd_cells] | rw [List.set_cons_zero] | rw [List.set_cons_succ] | rfl)))
  · refine Hr.out.keep fun x hx hl => ?_
    have h1 := Hlo.out.2 x hx
    rw [heap_alloc_else _ _ _ (by simp only [hp_setCell_size]; exact hl), setCell_else _ _ _ (by simp; omega), setCell_else _ _ _ (by simp; omega)]
  · repeat (first | exact Hf.out | refine Fr.alloc ?_ _ | refine Fr.setCell ?_ (.inr (by first | (simp; done) | (simp; omega))) _)
/-- the int that a big integer is -/
def intS (neg : Bool) (ds : List Nat) : Int × Bool :=
  if RightB neg ds = false ∨ 2 < ds.length then (0, false) else if neg then (if val 4294967296 ds ≤ 9223372036854775808 then (-(val 4294967296 ds : Nat), true) else (0, false))
  else (if val 4294967296 ds < 9223372036854775808 then ((val 4294967296 ds : Nat), true) else (0, false))
theorem or_shift {x y : Nat} (hx : x < 4294967296) : x ||| y * 4294967296 = x + y * 4294967296 := by
  have := Nat.two_pow_add_eq_or_of_lt (i := 32) hx y
  rw [show 2 ^ 32 = 4294967296 from rfl] at this
  rw [Nat.mul_comm, Nat.or_comm]
  omega
theorem int_pos {x : Nat} (h : x < 9223372036854775808) : Ending.returned (.tuple #[.int .i64 (wrap64 (x : Int)), .bool true]) = .returned (.tuple #[.int .i64 (x : Nat), .bool true]) := by
  have e : wrap64 (x : Int) = x := by simp only [wrap64]; omega
  rw [e]
theorem int_neg {x : Nat} (h : x ≤ 9223372036854775808) : Ending.returned (.tuple #[.int .i64 (wrap64 (IntKind.u64.wrap (-(x : Int)))), .bool true]) = .returned (.tuple #[.int .i64 (-(x : Nat)), .bool true]) := by
  have e : wrap64 (IntKind.u64.wrap (-(x : Int))) = -(x : Int) := by
    rw [wrap_u64]; simp only [wrap64]; omega
  rw [e]
theorem or_two {x y : Nat} (hx : x < 4294967296) (hy : y < 4294967296) : bits BinOp.or IntKind.u64 (x : Int) (IntKind.u64.wrap (IntKind.u64.wrap (y : Int) * 4294967296)) = ((val 4294967296 [x, y] : Nat) : Int) := by
  rw [IntWalk.u64_in (y : Int) (by omega), show (y : Int) * 4294967296 = ((y * 4294967296 : Nat) : Int) by omega, IntWalk.u64_in _ (by omega), u64_or_nat _ _ (by omega) (by omega), or_shift hx]
  simp [val]; omega
set_option maxHeartbeats 8000000 in
set_option maxRecDepth 100000 in
theorem Int_calls {w : World} {neg : Bool} {ds : List Nat} {v : Value} (hv : Reads w v ds.length 1 (u32s ds)) (hD : Dig 4294967296 ds) (hl : ds.length ≤ 10000) :
    Calls Tryd.prog 13 #[.agg #[.bool neg, v]] w fun e w' => e = .returned (.tuple #[.int .i64 (intS neg ds).1, .bool (intS neg ds).2]) ∧ Fr [] w w' := by
  have hra := fun w1 (hf : Fr [] w w1) => Right_calls (neg := neg) (hv.fr hf) (by omega)
  obtain ⟨_, a, c, rfl, hav⟩ := hv
  obtain ⟨r, hS⟩ : ∃ r, r = intS neg ds := ⟨_, rfl⟩
  rw [← hS]
  unfold intS at hS
  by_cases hbad : RightB neg ds = false
  · rw [if_pos (.inl hbad)] at hS
    rw [hbad] at hra
    subst hS
    have Hra := Lib.hid hra
    clear hbad hra hav
    go_enter Tryd.func13, Tryd.ntmps13
    go_wp2_with fail
    refine (Hra.out _ (by (repeat (first | exact Fr.refl _ _ | assumption | apply Fr.drewN | apply Fr.drew | apply Fr.alloc | refine Fr.setCell ?_ (Or.inr (by simp; try omega)) _)))).mono ?_
    rintro e w1 ⟨rfl, hf⟩
    have Hf := Lib.hid (Fr.trans0 (by (repeat (first | exact Fr.refl _ _ | assumption | apply Fr.drewN | apply Fr.drew | apply Fr.alloc | refine Fr.setCell ?_ (Or.inr (by simp; try omega)) _)) : Fr [] w _) hf)
    clear hf
    go_wp2
    go_ret2
    exact ⟨rfl, Hf.out⟩
  have hgood : RightB neg ds = true := by simpa using hbad
  by_cases hlen : 2 < ds.length
  · rw [if_pos (.inr hlen)] at hS
    rw [hgood] at hra
    subst hS
    have hd : decide ((2 : Int) < ds.length) = true := by simp; omega
    have Hra := Lib.hid hra
    clear hbad hra hav hgood hlen
    go_enter Tryd.func13, Tryd.ntmps13
    go_wp2_with fail
    refine (Hra.out _ (by (repeat (first | exact Fr.refl _ _ | assumption | apply Fr.drewN | apply Fr.drew | apply Fr.alloc | refine Fr.setCell ?_ (Or.inr (by simp; try omega)) _)))).mono ?_
    rintro e w1 ⟨rfl, hf⟩
    have hb := (hf.block w.heap.size (by simp) (by simp)).trans (show _ = some (.cells #[.bool neg, .slice a ds.length c] 24 (0, 0)) by (repeat (first | rw [if_pos (by omega)] | rw [if_neg (by omega)] | rw [hp_drew] | rw [hp_drewN] | rw [hp_alloc_size] | rw [hp_setCell_size] | rw [hp_alloc] | rw [hp_setCell] | rw [Option.map_some] | rw [upd_cells] | rw [List.set_cons_zero] | rw [List.set_cons_succ] | rfl)))
    have b0 := heap_eq_cell hb 0
    have b1 := heap_eq_cell hb 1
    have bl := lt_of_block hb
    have Hf := Lib.hid (Fr.trans0 (by (repeat (first | exact Fr.refl _ _ | assumption | apply Fr.drewN | apply Fr.drew | apply Fr.alloc | refine Fr.setCell ?_ (Or.inr (by simp; try omega)) _)) : Fr [] w _) hf)
    clear hf hb
    go_wp2
    go_ret2
    exact ⟨rfl, Hf.out⟩
  rw [if_neg (by rw [hgood]; simp; omega)] at hS
  rw [hgood] at hra
  have Hra := Lib.hid hra
  have HS := Lib.hid hS
  clear hbad hra hgood hS
  have Hav := Lib.hid hav
  clear hav
  rcases ds with _ | ⟨x, _ | ⟨y, _ | ⟨z, ds⟩⟩⟩
  · clear hD hl hlen
    go_enter Tryd.func13, Tryd.ntmps13
    go_wp2_with fail
    refine (Hra.out _ (by (repeat (first | exact Fr.refl _ _ | assumption | apply Fr.drewN | apply Fr.drew | apply Fr.alloc | refine Fr.setCell ?_ (Or.inr (by simp; try omega)) _)))).mono ?_
    rintro e w1 ⟨rfl, hf⟩
    have hb := (hf.block w.heap.size (by simp) (by simp)).trans (show _ = some (.cells #[.bool neg, .slice a 0 c] 24 (0, 0)) by (repeat (first | rw [if_pos (by omega)] | rw [if_neg (by omega)] | rw [hp_drew] | rw [hp_drewN] | rw [hp_alloc_size] | rw [hp_setCell_size] | rw [hp_alloc] | rw [hp_setCell] | rw [Option.map_some] | rw [upd_cells] | rw [List.set_cons_zero] | rw [List.set_cons_succ] | rfl)))
    have b0 := heap_eq_cell hb 0
    have b1 := heap_eq_cell hb 1
    have bl := lt_of_block hb
    have Hf := Lib.hid (Fr.trans0 (by (repeat (first | exact Fr.refl _ _ | assumption | apply Fr.drewN | apply Fr.drew | apply Fr.alloc | refine Fr.setCell ?_ (Or.inr (by simp; try omega)) _)) : Fr [] w _) hf)
    clear hf hb
    go_wp2
    refine wp_loop_rounds 1 ?_
    rw [rounds_succ]
    go_wp2
    all_goals
      go_ret2
      exact ⟨by rw [HS.out]; (cases neg <;> simp [val]), Hf.out⟩
  · obtain ⟨g, off, rfl, hg, hc⟩ := Hav.out (by simp)
    have e0 := hc 0 _ (u32s_get (l := [x]) (by simp))
    have hx : x < 4294967296 := hD x (by simp)
    have Ex : IntKind.u64.wrap (x : Int) = x := IntWalk.u64_in _ (by omega)
    have Eo : bits BinOp.or IntKind.u64 0 (x : Int) = x := (u64_or_nat 0 x (by omega) (by omega)).trans (by simp)
    have Hvx := Lib.hid (show val 4294967296 [x] = x by simp [val])
    have Hx := Lib.hid hx
    clear hD hl hlen hc hx
    go_enter Tryd.func13, Tryd.ntmps13
    go_wp2_with fail
    refine (Hra.out _ (by (repeat (first | exact Fr.refl _ _ | assumption | apply Fr.drewN | apply Fr.drew | apply Fr.alloc | refine Fr.setCell ?_ (Or.inr (by simp; try omega)) _)))).mono ?_
    rintro e w1 ⟨rfl, hf⟩
    have hb := (hf.block w.heap.size (by simp) (by simp)).trans (show _ = some (.cells #[.bool neg, .slice (some ⟨g, off, none⟩) 1 c] 24 (0, 0)) by (repeat (first | rw [if_pos (by omega)] | rw [if_neg (by omega)] | rw [hp_drew] | rw [hp_drewN] | rw [hp_alloc_size] | rw [hp_setCell_size] | rw [hp_alloc] | rw [hp_setCell] | rw [Option.map_some] | rw [upd_cells] | rw [List.set_cons_zero] | rw [List.set_cons_succ] | rfl)))
    have b0 := heap_eq_cell hb 0
    have b1 := heap_eq_cell hb 1
    have bl := lt_of_block hb
    have hf' : Fr [] w w1 := Fr.trans0 (by (repeat (first | exact Fr.refl _ _ | assumption | apply Fr.drewN | apply Fr.drew | apply Fr.alloc | refine Fr.setCell ?_ (Or.inr (by simp; try omega)) _)) : Fr [] w _) hf
    have e1 := (hf'.cell (p := ⟨g, off, none⟩) hg (by simp)).trans e0
    have hgl : g < w1.heap.size := by have := hf'.size; omega
    have Hf := Lib.hid hf'
    clear hf hb hf' e0
    have hS := HS.out
    rw [Hvx.out] at hS
    have hd1 : decide ((x : Int) ≤ 9223372036854775808) = true := by simp; have := Hx.out; omega
    have hd2 : decide ((9223372036854775808 : Int) ≤ x) = false := by simp; have := Hx.out; omega
    have hd3 : decide ((x : Int) ≤ 9223372036854775807) = true := by simp; have := Hx.out; omega
    have hd4 : decide ((x : Int) < 9223372036854775808) = true := by simp; have := Hx.out; omega
    cases neg
    all_goals
      go_wp2
      refine wp_loop_rounds 2 ?_
      rw [rounds_succ]; go_wp2
      rw [rounds_succ]; go_wp2
    all_goals
      go_ret2
      refine ⟨?_, Hf.out⟩
      simp only [if_true, if_neg (show ¬ (false = true) by simp)] at hS
      rw [if_pos (by have := Hx.out; omega)] at hS
      rw [hS]
      first
        | exact int_pos (by have := Hx.out; omega)
        | exact int_neg (by have := Hx.out; omega)
  · obtain ⟨g, off, rfl, hg, hc⟩ := Hav.out (by simp)
    have e0 := hc 0 _ (u32s_get (l := [x, y]) (by simp))
    have e0' := hc 1 _ (u32s_get (l := [x, y]) (i := 1) (by simp))
    have hx : x < 4294967296 := hD x (by simp)
    have hy : y < 4294967296 := hD y (by simp)
    have Ex : IntKind.u64.wrap (x : Int) = x := IntWalk.u64_in _ (by omega)
    have Eo : bits BinOp.or IntKind.u64 0 (x : Int) = x := (u64_or_nat 0 x (by omega) (by omega)).trans (by simp)
    have Ev := or_two hx hy
    have HV := Lib.hid (show val 4294967296 [x, y] < 18446744073709551616 by simp [val]; omega)
    obtain ⟨v, hvv⟩ : ∃ v, val 4294967296 [x, y] = v := ⟨_, rfl⟩
    have hS := HS.out
    rw [hvv] at Ev HV hS
    have HS' := Lib.hid hS
    clear hD hl hlen hc hx hy hvv hS HS
    go_enter Tryd.func13, Tryd.ntmps13
    go_wp2_with fail
    refine (Hra.out _ (by (repeat (first | exact Fr.refl _ _ | assumption | apply Fr.drewN | apply Fr.drew | apply Fr.alloc | refine Fr.setCell ?_ (Or.inr (by simp; try omega)) _)))).mono ?_
    rintro e w1 ⟨rfl, hf⟩
    have hb := (hf.block w.heap.size (by simp) (by simp)).trans (show _ = some (.cells #[.bool neg, .slice (some ⟨g, off, none⟩) 2 c] 24 (0, 0)) by (repeat (first | rw [if_pos (by omega)] | rw [if_neg (by omega)] | rw [hp_drew] | rw [hp_drewN] | rw [hp_alloc_size] | rw [hp_setCell_size] | rw [hp_alloc] | rw [hp_setCell] | rw [Option.map_some] | rw [upd_cells] | rw [List.set_cons_zero] | rw [List.set_cons_succ] | rfl)))
    have b0 := heap_eq_cell hb 0
    have b1 := heap_eq_cell hb 1
    have bl := lt_of_block hb
    have hf' : Fr [] w w1 := Fr.trans0 (by (repeat (first | exact Fr.refl _ _ | assumption | apply Fr.drewN | apply Fr.drew | apply Fr.alloc | refine Fr.setCell ?_ (Or.inr (by simp; try omega)) _)) : Fr [] w _) hf
    have e1 := (hf'.cell (p := ⟨g, off, none⟩) hg (by simp)).trans e0
    have e2 := (hf'.cell (p := ⟨g, off + 1, none⟩) hg (by simp)).trans e0'
    have hgl : g < w1.heap.size := by have := hf'.size; omega
    have Hf := Lib.hid hf'
    clear hf hb hf' e0 e0'
    go_wp2
    refine wp_loop_rounds 3 ?_
    rw [rounds_succ]; go_wp2
    rw [rounds_succ]; go_wp2
    rw [rounds_succ]
    have hS := HS'.out
    clear HS' Ev Ex Eo e1 e2
    cases neg <;> simp only [if_true, if_neg (show ¬ (false = true) by simp)] at hS
    · by_cases h : v < 9223372036854775808
      · rw [if_pos h] at hS
        have hd1 : decide ((v : Int) < 9223372036854775808) = true := by simp; omega
        have HH := Lib.hid h
        clear h
        have HS := Lib.hid hS
        clear hS
        go_wp2
        go_ret2
        refine ⟨?_, Hf.out⟩
        rw [HS.out]
        exact int_pos HH.out
      · rw [if_neg h] at hS
        have hd1 : decide ((v : Int) < 9223372036854775808) = false := by simp; omega
        clear h
        have HS := Lib.hid hS
        clear hS
        go_wp2
        go_ret2
        refine ⟨?_, Hf.out⟩
        rw [HS.out]; rfl
    · by_cases h : v ≤ 9223372036854775808
      · rw [if_pos h] at hS
        have hd1 : decide ((v : Int) ≤ 9223372036854775808) = true := by simp; omega
        have HH := Lib.hid h
        clear h
        have HS := Lib.hid hS
        clear hS
        go_wp2
        go_ret2
        refine ⟨?_, Hf.out⟩
        rw [HS.out]
        exact int_neg HH.out
      · rw [if_neg h] at hS
        have hd1 : decide ((v : Int) ≤ 9223372036854775808) = false := by simp; omega
        clear h
        have HS := Lib.hid hS
        clear hS
        go_wp2
        go_ret2
        refine ⟨?_, Hf.out⟩
        rw [HS.out]; rfl
  · simp at hlen
end Go.Proofs.YtbacamboknmppaaDoor
