/- Big integers in the heap; Right, digit, trimmed, made. -/
import Derived.Test.YtbacamboknmppaaDoorRows
import Derived.Test.YtbacamboknmppaaDoorNb
import Derived.Test.YtbacamboknmppaaDoorRf
import Derived.Test.YtbacamboknmppaaDoorRd
import Derived.Test.YtbacamboknmppaaDoorMk
import Derived.Lib.Hide
import Derived.LoopN
import Derived.Laws.Bits64b
import Derived.Laws.BitsAllLaws
import Derived.WalkSmall
import Derived.WalkMore
namespace Go.Proofs.YtbacamboknmppaaDoor
open Go Go.RowKit Go.Proofs.Rg Go.Proofs.Hp Go.Proofs.Bn
set_option linter.unusedVariables false
set_option linter.unusedSimpArgs false
def u32s (l : List Nat) : List Value := l.map fun (n : Nat) => Value.int .u32 n
theorem u32s_length (l : List Nat) : (u32s l).length = l.length := by simp [u32s]
theorem u32s_get {l : List Nat} {i : Nat} (h : i < l.length) : (u32s l)[i]? = some (.int .u32 (l.getD i 0 : Nat)) := by
  rw [u32s, List.getElem?_map, List.getElem?_eq_getElem h, List.getD_eq_getElem?_getD, List.getElem?_eq_getElem h]; rfl
theorem Reads.take {w : World} {a : Option Addr} {n c k : Nat} {xs : List Value} (h : Reads w (.slice a n c) n 1 xs) (hk : k ≤ n) : Reads w (.slice a k c) k 1 (xs.take k) := by
  obtain ⟨h1, a', c', he, h2⟩ := h
  cases he
  refine ⟨by rw [List.length_take, h1]; omega, _, _, rfl, fun hn => ?_⟩
  obtain ⟨g, off, rfl, hg, hc⟩ := h2 (by omega)
  refine ⟨g, off, rfl, hg, fun j u hj => hc j u ?_⟩
  rw [List.getElem?_take] at hj
  split at hj
  · exact hj
  · cases hj
/-- is a big integer valid? -/
def RightB (neg : Bool) (ds : List Nat) : Bool := if ds.length = 0 then !neg else decide (ds.length ≤ 64 ∧ ds.getD (ds.length - 1) 0 ≠ 0)
/-- the big integer with a sign and an absolute value -/
def mkN (neg : Bool) (V : Nat) : Bool × List Nat × Int := if V = 0 then (false, [], 0) else if V < 4294967296 ^ 64 then (neg, dg 4294967296 V, 0) else (false, [], 6)
/-- what a function that returns a big integer and an error leaves -/
def BigPost (w : World) (A : Nat → Prop) (r : Bool × List Nat × Int) (e : Ending) (w' : World) : Prop :=
  ∃ a c, (r.2.1.length ≤ c ∧ ∀ g, (Value.slice a r.2.1.length c).ownBlock = some g → A g) ∧ e = .returned (.tuple #[.agg #[.bool r.1, .slice a r.2.1.length c], .int .i64 r.2.2]) ∧ Reads w' (.slice a r.2.1.length c) r.2.1.length 1 (u32s r.2.1) ∧ Fr [] w w'
theorem own_len (a : Option Addr) (n m c d : Nat) : (Value.slice a n c).ownBlock = (Value.slice a m d).ownBlock := by
  cases a with
  | none => rfl
  | some ad => rfl
theorem reads_nil (w : World) : Reads w (.slice none 0 0) 0 1 [] := ⟨rfl, none, 0, rfl, fun h => absurd h (by omega)⟩
set_option maxHeartbeats 2000000 in
theorem Right_calls {w : World} {neg : Bool} {ds : List Nat} {v : Value} (hv : Reads w v ds.length 1 (u32s ds)) (hl : ds.length ≤ 1000000) :
    Calls Tryd.prog 17 #[.agg #[.bool neg, v]] w fun e w' => e = .returned (.bool (RightB neg ds)) ∧ Fr [] w w' := by
  obtain ⟨_, a, c, rfl, hav⟩ := hv
  have Hav := Lib.hid hav
  clear hav
  by_cases h0 : ds.length = 0
  · have hd : decide ((ds.length : Int) = 0) = true := by simp [h0]
    have hR : RightB neg ds = !neg := by unfold RightB; rw [if_pos h0]
    have HR := Lib.hid hR
    obtain rfl := List.eq_nil_of_length_eq_zero h0
    clear h0 hR hd
    go_enter Tryd.func17, Tryd.ntmps17
    go_wp2
    go_ret
    exact ⟨by rw [HR.out]; rfl, by (repeat (first | exact Fr.refl _ _ | assumption | apply Fr.drewN | apply Fr.drew | apply Fr.alloc | refine Fr.setCell ?_ (Or.inr (by simp; try omega)) _))⟩
  · obtain ⟨g, off, rfl, hg, hc⟩ := Hav.out (by omega)
    have hcz := hc (ds.length - 1) _ (u32s_get (by omega))
    have hd : ((ds.length : Int) == 0) = false := by rw [beq_eq_false_iff_ne]; omega
    have hp1 : (1 : Int) ≤ ds.length := by omega
    have hp2 : (ds.length : Int) - 1 < ds.length := by omega
    by_cases h64 : ds.length ≤ 64
    · have hd2 : decide ((ds.length : Int) ≤ 64) = true := by simp; omega
      have hR : RightB neg ds = (((ds.getD (ds.length - 1) 0 : Nat) : Int) != 0) := by
        unfold RightB; rw [if_neg h0, Bool.eq_iff_iff]; simp; omega
      have HR := Lib.hid hR
      have H0 := Lib.hid h0
      generalize ds.getD (ds.length - 1) 0 = y at *
      clear h0 hR hc
      go_enter Tryd.func17, Tryd.ntmps17
      go_wp2
      go_ret
      exact ⟨by rw [HR.out]; rfl, by (repeat (first | exact Fr.refl _ _ | assumption | apply Fr.drewN | apply Fr.drew | apply Fr.alloc | refine Fr.setCell ?_ (Or.inr (by simp; try omega)) _))⟩
    · have hd2 : decide ((ds.length : Int) ≤ 64) = false := by simp; omega
      have hR : RightB neg ds = false := by
        unfold RightB; rw [if_neg h0, Bool.eq_iff_iff]; simp; omega
      have HR := Lib.hid hR
      have H0 := Lib.hid h0
      clear h0 hcz hR hc
      go_enter Tryd.func17, Tryd.ntmps17
      go_wp2
      go_ret
      exact ⟨by rw [HR.out]; rfl, by (repeat (first | exact Fr.refl _ _ | assumption | apply Fr.drewN | apply Fr.drew | apply Fr.alloc | refine Fr.setCell ?_ (Or.inr (by simp; try omega)) _))⟩
/-- a digit, and 0 beyond the highest one -/
theorem digit_calls {w : World} {ds : List Nat} {v : Value} (hv : Reads w v ds.length 1 (u32s ds)) (hl : ds.length ≤ 1000000) (i : Nat) :
    Calls Tryd.prog 51 #[v, .int .i64 i] w fun e w' => e = .returned (.int .u32 (ds.getD i 0 : Nat)) ∧ w = w' := by
  obtain ⟨_, a, c, rfl, hav⟩ := hv
  by_cases h : i < ds.length
  · obtain ⟨g, off, rfl, hg, hc⟩ := hav (by omega)
    have hcz := hc i _ (u32s_get h)
    clear hc hav
    generalize ds.getD i 0 = y at *
    go_enter Tryd.func51, Tryd.ntmps51
    go_wp2
    go_ret
    exact ⟨rfl, rfl⟩
  · have h0 : ds.getD i 0 = 0 := by rw [List.getD_eq_getElem?_getD, List.getElem?_eq_none (by omega)]; rfl
    rw [h0]
    clear h0 hav
    go_enter Tryd.func51, Tryd.ntmps51
    go_wp2
    go_ret
    exact ⟨rfl, rfl⟩
set_option maxHeartbeats 2000000 in
theorem trimmed_calls {w : World} {ds : List Nat} {a : Option Addr} {c : Nat} (hv : Reads w (.slice a ds.length c) ds.length 1 (u32s ds)) (hD : Dig 4294967296 ds) (hl : ds.length ≤ 1000000) (hc : ds.length ≤ c) :
    Calls Tryd.prog 56 #[.slice a ds.length c] w fun e w' => e = .returned (.slice a (trimL 4294967296 ds).length c) ∧ w = w' := by
  obtain ⟨_, a', c', he, hav⟩ := hv
  cases he
  have Hav := Lib.hid hav
  have HD := Lib.hid hD
  clear hav hD
  go_enter Tryd.func56, Tryd.ntmps56
  go_wp2
  go_loop [0] (fun x => ∃ k : Nat, k ≤ ds.length ∧ x = .slice a k c ∧ trimL 4294967296 (ds.take k) = trimL 4294967296 ds) (fun x => match x with | .slice _ k _ => k | _ => 0)
  case atStart => exact ⟨_, Nat.le_refl _, rfl, by rw [List.take_length]⟩
  case round =>
    obtain ⟨k, hk, rfl, hT⟩ := hrel
    have HT := Lib.hid hT
    clear hT
    cases k with
    | zero =>
      go_wp2
      go_ret
      have hT := HT.out
      rw [List.take_zero] at hT
      exact ⟨by rw [← hT, trimL_nil]; rfl, rfl⟩
    | succ k =>
      obtain ⟨g, off, rfl, hg, hc⟩ := Hav.out (by omega)
      have hcz := hc k _ (u32s_get (by omega))
      have htk : ds.take (k + 1) = ds.take k ++ [ds.getD k 0] := by
        rw [List.take_add_one, List.getElem?_eq_getElem (by omega), List.getD_eq_getElem?_getD, List.getElem?_eq_getElem (by omega)]; rfl
      have Htk := Lib.hid htk
      clear hc htk
      obtain ⟨y, hy⟩ : ∃ y, y = ds.getD k 0 := ⟨_, rfl⟩
      rw [← hy] at hcz Htk
      have Hy := Lib.hid hy
      clear hy
      by_cases hz : y = 0
      · subst hz
        go_wp2
        go_round
        case rel => exact ⟨k, by omega, rfl, by have := HT.out; rwa [Htk.out, trimL_zero] at this⟩
        case measure => simp
      · have hb : ((y : Int) == 0) = false := by rw [beq_eq_false_iff_ne]; omega
        have Hz := Lib.hid hz
        clear hz
        go_wp2
        go_ret
        refine ⟨?_, rfl⟩
        have hT := HT.out
        have hD := HD.out.take (k + 1)
        rw [Htk.out] at hT hD
        rw [trimL_canon (by omega) hD (canon_snoc Hz.out)] at hT
        rw [← hT, List.length_append, List.length_take, Nat.min_eq_left (by omega)]
        rfl
theorem results_cell2 {fn : Func} {p u : Tmp} {ty : TypeId} (h : fn.results = #[.cell p ty, .tmp u]) (tmps : Array Value) (P : Program) (w : World) :
    (results fn tmps).run P w = ((asAddr (tmps.getD p undef)).run P w).andThen fun a w₁ => ((loadVar ty a).run P w₁).andThen fun x w₂ => .ok (.tuple #[x, tmps.getD u undef]) w₂ := by
  simp only [results, h]
  simp [Sem.run_bind, Result.andThen]
theorem results_cell1 {fn : Func} {p : Tmp} {ty : TypeId} (h : fn.results = #[.cell p ty]) (tmps : Array Value) (P : Program) (w : World) :
    (results fn tmps).run P w = ((asAddr (tmps.getD p undef)).run P w).andThen fun a w₁ => (loadVar ty a).run P w₁ := by
  simp only [results, h]
  simp [Sem.run_bind, Result.andThen]
/-- the results of a function that returns a big integer in a cell, and an error -/
theorem big_result {fn : Func} {p u : Tmp} (h : fn.results = #[.cell p 24, .tmp u]) {tmps : Array Value} {b : Nat} {w' : World} {x y v : Value} (h4 : tmps.getD p undef = .pointer (some ⟨b, 0, none⟩)) (hb : w'.heap[b]? = some (.cells #[x, y] 24 (0, 0))) (h5 : tmps.getD u undef = v) :
    (results fn tmps).run Tryd.prog w' = .ok (.tuple #[.agg #[x, y], v]) w' := by
  rw [results_cell2 h, h4]
  simp only [asAddr, Sem.run_pure, Result.andThen]
  rw [run_loadVar_row w' b _ _ _ _ _ hb Tryd.underlying24 rfl (by kernel_rfl)]
  simp only [h5]
theorem big_result1 {fn : Func} {p : Tmp} (h : fn.results = #[.cell p 24]) {tmps : Array Value} {b : Nat} {w' : World} {x y : Value} (h4 : tmps.getD p undef = .pointer (some ⟨b, 0, none⟩)) (hb : w'.heap[b]? = some (.cells #[x, y] 24 (0, 0))) :
    (results fn tmps).run Tryd.prog w' = .ok (.agg #[x, y]) w' := by
  rw [results_cell1 h, h4]
  simp only [asAddr, Sem.run_pure, Result.andThen]
  rw [run_loadVar_row w' b _ _ _ _ _ hb Tryd.underlying24 rfl (by kernel_rfl)]
theorem mkN_len {neg : Bool} {V : Nat} : (mkN neg V).2.1.length ≤ 64 := by
  unfold mkN
  split
  · simp
  · split
    · rename_i h; exact (dg_length_le (by omega) 64).2 h
    · simp
theorem mkN_dig {neg : Bool} {V : Nat} : Dig 4294967296 (mkN neg V).2.1 := by
  unfold mkN
  split
  · exact Dig.nil
  · split
    · exact dg_dig (by omega) V
    · exact Dig.nil
set_option maxHeartbeats 2000000 in
set_option maxRecDepth 100000 in
theorem made_calls {w : World} {neg : Bool} {ds : List Nat} {a : Option Addr} {c : Nat} (hv : Reads w (.slice a ds.length c) ds.length 1 (u32s ds)) (hD : Dig 4294967296 ds) (hl : ds.length ≤ 1000000) (hc : ds.length ≤ c) {A : Nat → Prop} (hlo : ∀ g, (Value.slice a ds.length c).ownBlock = some g → A g) :
    Calls Tryd.prog 38 #[.bool neg, .slice a ds.length c] w (BigPost w A (mkN neg (val 4294967296 ds))) := by
  have Hlo := Lib.hid hlo
  clear hlo
  have hT := fun w1 (hf : Fr [] w w1) => trimmed_calls (hv.fr hf) hD hl hc
  obtain ⟨k, hk, hkt⟩ := trimL_prefix (by omega : 2 ≤ 4294967296) ds.length rfl hD
  have hkl : (trimL 4294967296 ds).length = k := by rw [hkt, List.length_take, Nat.min_eq_left hk]
  rw [hkl] at hT
  have hr := Reads.take hv hk
  have hu : (u32s ds).take k = u32s (dg 4294967296 (val 4294967296 ds)) := by rw [u32s, u32s, ← List.map_take, ← hkt]; rfl
  rw [hu] at hr
  have hle := dg_length_le (B := 4294967296) (by omega) 64 (n := val 4294967296 ds)
  have h0 := dg_eq_nil (B := 4294967296) (by omega) (n := val 4294967296 ds)
  rw [← List.length_eq_zero_iff] at h0
  have hkl' : (dg 4294967296 (val 4294967296 ds)).length = k := hkl
  rw [hkl'] at hle h0
  have HT := Lib.hid hT
  have Hr := Lib.hid hr
  have Hkl := Lib.hid hkl'
  clear hT hr hu hkt hkl hkl' hv hD
  have hmk : mkN neg (val 4294967296 ds) = if k = 0 then (false, [], 0) else if k ≤ 64 then (neg, dg 4294967296 (val 4294967296 ds), 0) else (false, [], 6) := by
    unfold mkN
    by_cases e : val 4294967296 ds = 0
    · rw [if_pos e, if_pos (h0.2 e)]
    · rw [if_neg e, if_neg (fun h => e (h0.1 h))]
      by_cases e2 : val 4294967296 ds < 4294967296 ^ 64
      · rw [if_pos e2, if_pos (hle.2 e2)]
      · rw [if_neg e2, if_neg (fun h => e2 (hle.1 h))]
  generalize mkN neg (val 4294967296 ds) = r at *
  generalize dg 4294967296 (val 4294967296 ds) = T at *
  clear hle h0
  by_cases hk0 : k = 0
  · rw [if_pos hk0] at hmk
    have Hmk := Lib.hid hmk
    clear hmk
    subst hk0
    go_enter Tryd.func38, Tryd.ntmps38
    go_wp2_with fail
    refine (HT.out _ (by (repeat (first | exact Fr.refl _ _ | assumption | apply Fr.drewN | apply Fr.drew | apply Fr.alloc | refine Fr.setCell ?_ (Or.inr (by simp; try omega)) _)))).mono ?_
    rintro e w1 ⟨rfl, rfl⟩
    go_wp2
    (try simp only [Exit.inBlock, Exit.then])
    have hr := Hmk.out
    subst hr
    refine bodyPost_ret (big_result rfl (b := w.heap.size) (x := .bool false) (y := .slice none 0 0) rfl (by (repeat (first | rw [if_pos (by omega)] | rw [if_neg (by omega)] | rw [hp_drew] | rw [hp_drewN] | rw [hp_alloc_size] | rw [hp_setCell_size] | rw [hp_alloc] | rw [hp_setCell] | rw [Option.map_some] | rw [upd_cells] | rw [List.set_cons_zero] | rw [List.set_cons_succ] | rfl))) rfl) rfl ⟨_, _, ⟨Nat.le_refl _, fun g hg => (by cases hg)⟩, rfl, reads_nil _, by (repeat (first | exact Fr.refl _ _ | assumption | apply Fr.drewN | apply Fr.drew | apply Fr.alloc | refine Fr.setCell ?_ (Or.inr (by simp; try omega)) _))⟩
  by_cases hk64 : k ≤ 64
  · rw [if_neg hk0, if_pos hk64] at hmk
    have Hmk := Lib.hid hmk
    clear hmk
    have hd : decide ((64 : Int) < k) = false := by simp; omega
    have hd0 : ((k : Int) == 0) = false := by rw [beq_eq_false_iff_ne]; omega
    have Hk := Lib.hid (And.intro hk0 hk64)
    clear hk0 hk64
    go_enter Tryd.func38, Tryd.ntmps38
    go_wp2_with fail
    refine (HT.out _ (by (repeat (first | exact Fr.refl _ _ | assumption | apply Fr.drewN | apply Fr.drew | apply Fr.alloc | refine Fr.setCell ?_ (Or.inr (by simp; try omega)) _)))).mono ?_
    rintro e w1 ⟨rfl, rfl⟩
    go_wp2
    (try simp only [Exit.inBlock, Exit.then])
    have hr := Hmk.out
    subst hr
    have hTl := Hkl.out
    subst hTl
    exact bodyPost_ret (big_result rfl (b := w.heap.size) (x := .bool neg) (y := .slice a T.length c) rfl (by (repeat (first | rw [if_pos (by omega)] | rw [if_neg (by omega)] | rw [hp_drew] | rw [hp_drewN] | rw [hp_alloc_size] | rw [hp_setCell_size] | rw [hp_alloc] | rw [hp_setCell] | rw [Option.map_some] | rw [upd_cells] | rw [List.set_cons_zero] | rw [List.set_cons_succ] | rfl))) rfl) rfl ⟨_, _, ⟨(show T.length ≤ c by omega), fun g hg => Hlo.out g (own_len a _ _ c c ▸ hg)⟩, rfl, Hr.out.fr (by (repeat (first | exact Fr.refl _ _ | assumption | apply Fr.drewN | apply Fr.drew | apply Fr.alloc | refine Fr.setCell ?_ (Or.inr (by simp; try omega)) _))), by (repeat (first | exact Fr.refl _ _ | assumption | apply Fr.drewN | apply Fr.drew | apply Fr.alloc | refine Fr.setCell ?_ (Or.inr (by simp; try omega)) _))⟩
  · rw [if_neg hk0, if_neg hk64] at hmk
    have Hmk := Lib.hid hmk
    clear hmk
    have hd : decide ((64 : Int) < k) = true := by simp; omega
    have Hk := Lib.hid (And.intro hk0 hk64)
    clear hk0 hk64
    go_enter Tryd.func38, Tryd.ntmps38
    go_wp2_with fail
    refine (HT.out _ (by (repeat (first | exact Fr.refl _ _ | assumption | apply Fr.drewN | apply Fr.drew | apply Fr.alloc | refine Fr.setCell ?_ (Or.inr (by simp; try omega)) _)))).mono ?_
    rintro e w1 ⟨rfl, rfl⟩
    go_wp2
    (try simp only [Exit.inBlock, Exit.then])
    have hr := Hmk.out
    subst hr
    exact bodyPost_ret (big_result rfl (b := w.heap.size) (x := .bool false) (y := .slice none 0 0) rfl (by (repeat (first | rw [if_pos (by omega)] | rw [if_neg (by omega)] | rw [hp_drew] | rw [hp_drewN] | rw [hp_alloc_size] | rw [hp_setCell_size] | rw [hp_alloc] | rw [hp_setCell] | rw [Option.map_some] | rw [upd_cells] | rw [List.set_cons_zero] | rw [List.set_cons_succ] | rfl))) rfl) rfl ⟨_, _, ⟨Nat.le_refl _, fun g hg => (by cases hg)⟩, rfl, reads_nil _, by (repeat (first | exact Fr.refl _ _ | assumption | apply Fr.drewN | apply Fr.drew | apply Fr.alloc | refine Fr.setCell ?_ (Or.inr (by simp; try omega)) _))⟩
end Go.Proofs.YtbacamboknmppaaDoor
