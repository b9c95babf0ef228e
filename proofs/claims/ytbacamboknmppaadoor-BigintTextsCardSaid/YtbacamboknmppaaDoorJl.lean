/- Big integers: Div. -/
import Derived.Test.YtbacamboknmppaaDoorJk
namespace Go.Proofs.YtbacamboknmppaaDoor
open Go Go.RowKit Go.Proofs.Rg Go.Proofs.Hp Go.Proofs.Bn
set_option linter.unusedVariables false
set_option linter.unusedSimpArgs false
theorem results_cell3 {fn : Func} {p u v : Tmp} {ty : TypeId} (h : fn.results = #[.cell p ty, .tmp u, .tmp v]) (tmps : Array Value) (P : Program) (w : World) :
    (results fn tmps).run P w = ((asAddr (tmps.getD p undef)).run P w).andThen fun a w₁ => ((loadVar ty a).run P w₁).andThen fun x w₂ => .ok (.tuple #[x, tmps.getD u undef, tmps.getD v undef]) w₂ := by
  simp only [results, h]
  simp [Sem.run_bind, Result.andThen]
theorem big_result3 {fn : Func} {p u v : Tmp} (h : fn.results = #[.cell p 24, .tmp u, .tmp v]) {tmps : Array Value} {b : Nat} {w' : World} {x y i j : Value} (h4 : tmps.getD p undef = .pointer (some ⟨b, 0, none⟩)) (hb : w'.heap[b]? = some (.cells #[x, y] 24 (0, 0))) (h5 : tmps.getD u undef = i) (h6 : tmps.getD v undef = j) :
    (results fn tmps).run Tryd.prog w' = .ok (.tuple #[.agg #[x, y], i, j]) w' := by
  rw [results_cell3 h, h4]
  simp only [asAddr, Sem.run_pure, Result.andThen]
  rw [run_loadVar_row w' b _ _ _ _ _ hb Tryd.underlying24 rfl (by kernel_rfl)]
  simp only [h5, h6]
theorem ret_neg {x : Nat} {A B : Value} (h : x < 9223372036854775808) : Ending.returned (.tuple #[A, .int .i64 (wrap64 (IntKind.u64.wrap (-(x : Int)))), B]) = .returned (.tuple #[A, .int .i64 (-(x : Int)), B]) := by
  have e : wrap64 (IntKind.u64.wrap (-(x : Int))) = -(x : Int) := by
    rw [wrap_u64]; simp only [wrap64]; omega
  rw [e]
/-- does the quotient's rounding down turn it? -/
def divUp (neg : Bool) (V : Nat) (n : Int) : Bool := (neg != decide (n < 0)) && decide (V % n.natAbs ≠ 0)
def divS (neg : Bool) (ds : List Nat) (n : Int) : (Bool × List Nat × Int) × Int :=
  if RightB neg ds = false then ((false, [], 2), 0) else if n = 0 then ((false, [], 12), 0)
  else (mkN (neg != decide (n < 0)) (val 4294967296 ds / n.natAbs + if divUp neg (val 4294967296 ds) n then 1 else 0),
    let r := if divUp neg (val 4294967296 ds) n then n.natAbs - val 4294967296 ds % n.natAbs else val 4294967296 ds % n.natAbs
    if n < 0 then -(r : Int) else r)
/-- what Div leaves -/
def DivPost (w : World) (s : (Bool × List Nat × Int) × Int) (e : Ending) (w' : World) : Prop :=
  ∃ a c, (s.1.2.1.length ≤ c ∧ ∀ g, (Value.slice a s.1.2.1.length c).ownBlock = some g → w.heap.size ≤ g) ∧ e = .returned (.tuple #[.agg #[.bool s.1.1, .slice a s.1.2.1.length c], .int .i64 s.2, .int .i64 s.1.2.2]) ∧ Reads w' (.slice a s.1.2.1.length c) s.1.2.1.length 1 (u32s s.1.2.1) ∧ Fr [] w w'
set_option maxHeartbeats 8000000 in
set_option maxRecDepth 100000 in
theorem Div_calls {w : World} {neg : Bool} {ds : List Nat} {n : Int} {a : Option Addr} {c : Nat} (hv : Reads w (.slice a ds.length c) ds.length 1 (u32s ds)) (hD : Dig 4294967296 ds) (hl : ds.length ≤ 10000) (hk1 : -9223372036854775808 ≤ n) (hk2 : n < 9223372036854775808) :
    Calls Tryd.prog 23 #[.agg #[.bool neg, .slice a ds.length c], .int .i64 n] w (DivPost w (divS neg ds n)) := by
  have hra := fun w1 (hf : Fr [] w w1) => Right_calls (neg := neg) (hv.fr hf) (by omega)
  obtain ⟨r, hS⟩ : ∃ r, r = divS neg ds n := ⟨_, rfl⟩
  rw [← hS]
  unfold divS at hS
  have Hv := Lib.hid hv
  have HDd := Lib.hid hD
  clear hv hD
  cases hR1 : RightB neg ds with
  | false =>
    rw [hR1] at hS hra
    simp only [if_true] at hS
    subst hS
    have Hra := Lib.hid hra
    clear hra
    clear hR1
    go_enter Tryd.func23, Tryd.ntmps23
    go_wp2_with fail
    refine (Hra.out _ (by (repeat (first | exact Fr.refl _ _ | assumption | apply Fr.drewN | apply Fr.drew | apply Fr.alloc | refine Fr.setCell ?_ (Or.inr (by simp; try omega)) _)))).mono ?_
    rintro e w1 ⟨rfl, hf⟩
    have hc_ := (hf.block (w.heap.size + 1) (by first | (simp; done) | (simp; omega)) (by simp)).trans (show _ = some (.cells #[.bool false, .slice none 0 0] 24 (0, 0)) by (repeat (first | rw [if_pos (by omega)] | rw [if_neg (by omega)] | rw [hp_drew] | rw [hp_drewN] | rw [hp_alloc_size] | rw [hp_setCell_size] | rw [hp_alloc] | rw [hp_setCell] | rw [Option.map_some] | rw [upd_cells] | rw [List.set_cons_zero] | rw [List.set_cons_succ] | rfl)))
    have c0 := heap_eq_cell hc_ 0
    have c0z := heap_eq_frozen hc_ 0
    have c1 := heap_eq_cell hc_ 1
    have c1z := heap_eq_frozen hc_ 1
    have cl := lt_of_block hc_
    have Hc := Lib.hid hc_
    clear hc_
    have Hf := Lib.hid (Fr.trans0 (by (repeat (first | exact Fr.refl _ _ | assumption | apply Fr.drewN | apply Fr.drew | apply Fr.alloc | refine Fr.setCell ?_ (Or.inr (by simp; try omega)) _)) : Fr [] w _) hf)
    clear hf
    go_wp2
    (try simp only [Exit.inBlock, Exit.then])
    refine bodyPost_ret (big_result3 rfl (b := w.heap.size + 1) (x := .bool false) (y := .slice none 0 0) rfl ?_ rfl rfl) rfl ⟨_, _, ⟨Nat.le_refl _, fun g hg => (by cases hg)⟩, rfl, reads_nil _, ?_⟩
    · have h := Hc.out
      (repeat (first | rw [if_pos (by omega)] | rw [if_neg (by omega)] | rw [hp_drew] | rw [hp_drewN] | rw [hp_alloc_size] | rw [hp_setCell_size] | rw [hp_alloc] | rw [hp_setCell] | rw [Option.map_some] | rw [upd_cells] | rw [List.set_cons_zero] | rw [List.set_cons_succ] | rfl))
      rw [h]
      (repeat (first | rw [if_pos (by omega)] | rw [if_neg (by omega)] | rw [hp_drew] | rw [hp_drewN] | rw [hp_alloc_size] | rw [hp_setCell_size] | rw [hp_alloc] | rw [hp_setCell] | rw [Option.map_some] | rw [upd_cells] | rw [List.set_cons_zero] | rw [List.set_cons_succ] | rfl))
    · exact (Hf.out.setCell (.inr (by simp; try omega)) _).setCell (.inr (by simp; try omega)) _
  | true =>
    rw [hR1] at hS hra
    simp only [Bool.true_eq_false, if_false] at hS
    have Hra := Lib.hid hra
    clear hra
    by_cases hn0 : n = 0
    · rw [if_pos hn0] at hS
      subst hS
      subst hn0
      clear hR1
      go_enter Tryd.func23, Tryd.ntmps23
      go_wp2_with fail
      refine (Hra.out _ (by (repeat (first | exact Fr.refl _ _ | assumption | apply Fr.drewN | apply Fr.drew | apply Fr.alloc | refine Fr.setCell ?_ (Or.inr (by simp; try omega)) _)))).mono ?_
      rintro e w1 ⟨rfl, hf⟩
      have hc_ := (hf.block (w.heap.size + 1) (by first | (simp; done) | (simp; omega)) (by simp)).trans (show _ = some (.cells #[.bool false, .slice none 0 0] 24 (0, 0)) by (repeat (first | rw [if_pos (by omega)] | rw [if_neg (by omega)] | rw [hp_drew] | rw [hp_drewN] | rw [hp_alloc_size] | rw [hp_setCell_size] | rw [hp_alloc] | rw [hp_setCell] | rw [Option.map_some] | rw [upd_cells] | rw [List.set_cons_zero] | rw [List.set_cons_succ] | rfl)))
      have c0 := heap_eq_cell hc_ 0
      have c0z := heap_eq_frozen hc_ 0
      have c1 := heap_eq_cell hc_ 1
      have c1z := heap_eq_frozen hc_ 1
      have cl := lt_of_block hc_
      have Hc := Lib.hid hc_
      clear hc_
      have Hf := Lib.hid (Fr.trans0 (by (repeat (first | exact Fr.refl _ _ | assumption | apply Fr.drewN | apply Fr.drew | apply Fr.alloc | refine Fr.setCell ?_ (Or.inr (by simp; try omega)) _)) : Fr [] w _) hf)
      clear hf
      go_wp2
      (try simp only [Exit.inBlock, Exit.then])
      refine bodyPost_ret (big_result3 rfl (b := w.heap.size + 1) (x := .bool false) (y := .slice none 0 0) rfl ?_ rfl rfl) rfl ⟨_, _, ⟨Nat.le_refl _, fun g hg => (by cases hg)⟩, rfl, reads_nil _, ?_⟩
      · have h := Hc.out
        (repeat (first | rw [if_pos (by omega)] | rw [if_neg (by omega)] | rw [hp_drew] | rw [hp_drewN] | rw [hp_alloc_size] | rw [hp_setCell_size] | rw [hp_alloc] | rw [hp_setCell] | rw [Option.map_some] | rw [upd_cells] | rw [List.set_cons_zero] | rw [List.set_cons_succ] | rfl))
        rw [h]
        (repeat (first | rw [if_pos (by omega)] | rw [if_neg (by omega)] | rw [hp_drew] | rw [hp_drewN] | rw [hp_alloc_size] | rw [hp_setCell_size] | rw [hp_alloc] | rw [hp_setCell] | rw [Option.map_some] | rw [upd_cells] | rw [List.set_cons_zero] | rw [List.set_cons_succ] | rfl))
      · exact (Hf.out.setCell (.inr (by simp; try omega)) _).setCell (.inr (by simp; try omega)) _
    · rw [if_neg hn0] at hS
      obtain ⟨u, hu⟩ : ∃ u, u = n.natAbs := ⟨_, rfl⟩
      have hup : 1 ≤ u := by omega
      have hu63 : u ≤ 9223372036854775808 := by omega
      have hsz := fun w => size_calls (w := w) (n := n) hk1 hk2
      have hby := fun w1 (hf : Fr [] w w1) => by_calls (n := u) (Hv.out.fr hf) HDd.out (by omega) hup (by omega)
      simp only [← hu] at hS hsz
      obtain ⟨rest, hrest⟩ : ∃ rest, rest = val 4294967296 ds % u := ⟨_, rfl⟩
      obtain ⟨Q, hQ⟩ : ∃ Q, Q = val 4294967296 ds / u := ⟨_, rfl⟩
      have hup0 : divUp neg (val 4294967296 ds) n = ((neg != decide (n < 0)) && decide (rest ≠ 0)) := by unfold divUp; rw [← hu, ← hrest]
      simp only [← hrest, ← hQ, hup0] at hS
      unfold ByPost at hby
      simp only [← hrest, ← hQ] at hby
      obtain ⟨dif, hdif⟩ : ∃ dif, (neg != decide (n < 0)) = dif := ⟨_, rfl⟩
      obtain ⟨rz, hrz⟩ : ∃ rz, decide (rest ≠ 0) = rz := ⟨_, rfl⟩
      obtain ⟨ng, hng⟩ : ∃ ng, decide (n < 0) = ng := ⟨_, rfl⟩
      have hS2 : r = (mkN dif (Q + if dif && rz then 1 else 0), if ng then -(((if dif && rz then u - rest else rest) : Nat) : Int) else ((if dif && rz then u - rest else rest) : Nat)) := by
        rw [hS, hdif, hrz]
        cases ng
        · have h : ¬ n < 0 := by simpa using hng
          simp only [h, if_false, Bool.false_eq_true]
        · have h : n < 0 := by simpa using hng
          simp only [h, if_true]
      rw [hng] at hdif
      have hrl : rest < u := by rw [hrest]; exact Nat.mod_lt _ (by omega)
      have hn0b : ((n : Int) == 0) = false := by rw [beq_eq_false_iff_ne]; exact hn0
      have hrzb : ((rest : Int) != 0) = rz := by
        rw [← hrz]
        by_cases h : rest = 0
        · subst h; rfl
        · rw [decide_eq_true h, bne_iff_ne]; omega
      have HS := Lib.hid hS2
      have Hby := Lib.hid hby
      have Hsz := Lib.hid hsz
      clear hS hS2 hby hsz hup0 hrz hrest hQ hu hn0 hR1
      go_enter Tryd.func23, Tryd.ntmps23
      go_wp2_with fail
      refine (Hra.out _ (by (repeat (first | exact Fr.refl _ _ | assumption | apply Fr.drewN | apply Fr.drew | apply Fr.alloc | refine Fr.setCell ?_ (Or.inr (by simp; try omega)) _)))).mono ?_
      rintro e w1 ⟨rfl, hf⟩
      have hb_ := (hf.block (w.heap.size) (by first | (simp; done) | (simp; omega)) (by simp)).trans (show _ = some (.cells #[.bool neg, .slice a ds.length c] 24 (0, 0)) by (repeat (first | rw [if_pos (by omega)] | rw [if_neg (by omega)] | rw [hp_drew] | rw [hp_drewN] | rw [hp_alloc_size] | rw [hp_setCell_size] | rw [hp_alloc] | rw [hp_setCell] | rw [Option.map_some] | rw [upd_cells] | rw [List.set_cons_zero] | rw [List.set_cons_succ] | rfl)))
      have b0 := heap_eq_cell hb_ 0
      have b1 := heap_eq_cell hb_ 1
      have bl := lt_of_block hb_
      have Hb := Lib.hid hb_
      clear hb_
      have hc_ := (hf.block (w.heap.size + 1) (by first | (simp; done) | (simp; omega)) (by simp)).trans (show _ = some (.cells #[.bool false, .slice none 0 0] 24 (0, 0)) by (repeat (first | rw [if_pos (by omega)] | rw [if_neg (by omega)] | rw [hp_drew] | rw [hp_drewN] | rw [hp_alloc_size] | rw [hp_setCell_size] | rw [hp_alloc] | rw [hp_setCell] | rw [Option.map_some] | rw [upd_cells] | rw [List.set_cons_zero] | rw [List.set_cons_succ] | rfl)))
      have c0 := heap_eq_cell hc_ 0
      have c0z := heap_eq_frozen hc_ 0
      have c1 := heap_eq_cell hc_ 1
      have c1z := heap_eq_frozen hc_ 1
      have cl := lt_of_block hc_
      have Hc := Lib.hid hc_
      clear hc_
      have Hf := Lib.hid (Fr.trans0 (by (repeat (first | exact Fr.refl _ _ | assumption | apply Fr.drewN | apply Fr.drew | apply Fr.alloc | refine Fr.setCell ?_ (Or.inr (by simp; try omega)) _)) : Fr [] w _) hf)
      clear hf
      go_wp2
      refine wp_region_segs [([0, 1, 2, 3], [1]), ([4, 5, 6, 7, 8, 9], [])] (by kernel_rfl) (by kernel_rfl) ?_
      (simp only [wpSegs, pick, Array.getD_eq_getD_getElem?, List.getElem?_toArray, List.getElem?_cons_succ, List.getElem?_cons_zero, Option.getD_some])
      go_wp2_with fail
      refine (Hsz.out _).mono ?_
      rintro e w2 ⟨rfl, rfl⟩
      go_wp2
      refine Mid.intro ⟨⟨again_cell (T := 22) rfl rfl rfl Tryd.underlying22 rfl b1 rfl, trivial⟩, ?_⟩
      go_wp2_with fail
      refine (Hby.out _ (by have := Hf.out; (repeat (first | exact Fr.refl _ _ | assumption | apply Fr.drewN | apply Fr.drew | apply Fr.alloc | refine Fr.setCell ?_ (Or.inr (by simp; try omega)) _)))).mono ?_
      rintro e w3 ⟨q, os, rfl, ho, hol, hoD, hoV, hf0⟩
      have hf : Fr [] w1 w3 := Fr.trans0 (by (repeat (first | exact Fr.refl _ _ | assumption | apply Fr.drewN | apply Fr.drew | apply Fr.alloc | refine Fr.setCell ?_ (Or.inr (by simp; try omega)) _))) hf0
      have h21 := lt_of_block Hc.out
      (try clear b0)
      (try clear b1)
      (try clear bl)
      have hb_ := (hf.block _ (lt_of_block Hb.out) (by simp)).trans Hb.out
      clear Hb
      have b0 := heap_eq_cell hb_ 0
      have b1 := heap_eq_cell hb_ 1
      have bl := lt_of_block hb_
      have Hb := Lib.hid hb_
      clear hb_
      (try clear c0)
      (try clear c1)
      (try clear c0z)
      (try clear c1z)
      (try clear cl)
      have hc_ := (hf.block _ (lt_of_block Hc.out) (by simp)).trans Hc.out
      clear Hc
      have c0 := heap_eq_cell hc_ 0
      have c0z := heap_eq_frozen hc_ 0
      have c1 := heap_eq_cell hc_ 1
      have c1z := heap_eq_frozen hc_ 1
      have cl := lt_of_block hc_
      have Hc := Lib.hid hc_
      clear hc_
      have Hf := Lib.hid (Hf.out.trans0 hf)
      rw [← hol] at ho ⊢
      have hlo : ∀ g, (Value.slice (some ⟨q, 0, none⟩) os.length os.length).ownBlock = some g → w1.heap.size ≤ g := fun g hg => owns_ge ho hg
      have Hlo := Lib.hid hlo
      have Hr := Lib.hid (Reads.of_owns ho)
      have Hol := Lib.hid hol
      have HoD := Lib.hid hoD
      have HoV := Lib.hid hoV
      have H21 := Lib.hid (And.intro h21 hf.size)
      clear hlo hf hf0 ho hol hoD hoV h21
      go_wp2
      refine Mid.intro ⟨trivial, Strict.intro rfl ?_⟩
      cases neg <;> cases ng <;> cases rz <;> subst hdif
      ·
        have hm := HS.out
        simp only [bne_self_eq_false, Bool.false_and, Bool.and_false, Bool.false_eq_true, if_false, if_true, Nat.add_zero, Bool.and_self] at hm
        have Hm := Lib.hid hm
        have hrb : rest < 9223372036854775808 := by omega
        have Hlc := Lib.hid (Nat.le_refl os.length)
        clear hm HS hrl
        go_wp2_with fail
        have hm := Hm.out
        obtain ⟨⟨r1, r2, r3⟩, rr⟩ := r
        have hm1 : mkN false (Q) = (r1, r2, r3) := (congrArg Prod.fst hm).symm
        have hm2 : rr = _ := congrArg Prod.snd hm
        refine (made_calls (neg := false) Hr.out HoD.out (by have := Hol.out; omega) Hlc.out (A := fun g => w1.heap.size ≤ g) Hlo.out).mono ?_
        rintro e w6 ⟨ra, rc, hlo, rfl, hr, hf⟩
        rw [HoV.out, hm1] at hlo hr
        rw [HoV.out, hm1]
        (try clear c0)
        (try clear c1)
        (try clear c0z)
        (try clear c1z)
        (try clear cl)
        have hc_ := (hf.block _ (lt_of_block Hc.out) (by simp)).trans Hc.out
        clear Hc
        have c0 := heap_eq_cell hc_ 0
        have c0z := heap_eq_frozen hc_ 0
        have c1 := heap_eq_cell hc_ 1
        have c1z := heap_eq_frozen hc_ 1
        have cl := lt_of_block hc_
        have Hc := Lib.hid hc_
        clear hc_
        have Hf := Lib.hid (Hf.out.trans0 hf)
        have Hlo6 := Lib.hid hlo
        have Hr6 := Lib.hid hr
        have Hm2 := Lib.hid hm2
        clear hlo hr hf hm hm1 hm2
        go_wp2
        (try simp only [Exit.inBlock, Exit.then])
        refine bodyPost_ret (big_result3 rfl (b := w.heap.size + 1) (x := .bool r1) (y := .slice ra r2.length rc) rfl ?_ rfl rfl) rfl ⟨_, _, ⟨Hlo6.out.1, fun g hg => (by have := Hlo6.out.2 g hg; have := H21.out; omega)⟩, ?_, ?_, ?_⟩
        · have h := Hc.out
          (repeat (first | rw [if_pos (by omega)] | rw [if_neg (by omega)] | rw [hp_drew] | rw [hp_drewN] | rw [hp_alloc_size] | rw [hp_setCell_size] | rw [hp_alloc] | rw [hp_setCell] | rw [Option.map_some] | rw [upd_cells] | rw [List.set_cons_zero] | rw [List.set_cons_succ] | rfl))
          rw [h]
          (repeat (first | rw [if_pos (by omega)] | rw [if_neg (by omega)] | rw [hp_drew] | rw [hp_drewN] | rw [hp_alloc_size] | rw [hp_setCell_size] | rw [hp_alloc] | rw [hp_setCell] | rw [Option.map_some] | rw [upd_cells] | rw [List.set_cons_zero] | rw [List.set_cons_succ] | rfl))
        · rw [Hm2.out]
          rfl
        · refine Hr6.out.keep fun x hx hl => ?_
          have := Hlo6.out.2 x hx
          have hcl := H21.out
          rw [setCell_else _ _ _ (by simp; omega), setCell_else _ _ _ (by simp; omega), setCell_else _ _ _ (by simp; omega), setCell_else _ _ _ (by simp; omega)]
        · exact (((Hf.out.setCell (.inr (by simp; try omega)) _).setCell (.inr (by simp; try omega)) _).setCell (.inr (by simp; try omega)) _).setCell (.inr (by simp; try omega)) _
      ·
        have hm := HS.out
        simp only [bne_self_eq_false, Bool.false_and, Bool.and_false, Bool.false_eq_true, if_false, if_true, Nat.add_zero, Bool.and_self] at hm
        have Hm := Lib.hid hm
        have hrb : rest < 9223372036854775808 := by omega
        have Hlc := Lib.hid (Nat.le_refl os.length)
        clear hm HS hrl
        go_wp2_with fail
        have hm := Hm.out
        obtain ⟨⟨r1, r2, r3⟩, rr⟩ := r
        have hm1 : mkN false (Q) = (r1, r2, r3) := (congrArg Prod.fst hm).symm
        have hm2 : rr = _ := congrArg Prod.snd hm
        refine (made_calls (neg := false) Hr.out HoD.out (by have := Hol.out; omega) Hlc.out (A := fun g => w1.heap.size ≤ g) Hlo.out).mono ?_
        rintro e w6 ⟨ra, rc, hlo, rfl, hr, hf⟩
        rw [HoV.out, hm1] at hlo hr
        rw [HoV.out, hm1]
        (try clear c0)
        (try clear c1)
        (try clear c0z)
        (try clear c1z)
        (try clear cl)
        have hc_ := (hf.block _ (lt_of_block Hc.out) (by simp)).trans Hc.out
        clear Hc
        have c0 := heap_eq_cell hc_ 0
        have c0z := heap_eq_frozen hc_ 0
        have c1 := heap_eq_cell hc_ 1
        have c1z := heap_eq_frozen hc_ 1
        have cl := lt_of_block hc_
        have Hc := Lib.hid hc_
        clear hc_
        have Hf := Lib.hid (Hf.out.trans0 hf)
        have Hlo6 := Lib.hid hlo
        have Hr6 := Lib.hid hr
        have Hm2 := Lib.hid hm2
        clear hlo hr hf hm hm1 hm2
        go_wp2
        (try simp only [Exit.inBlock, Exit.then])
        refine bodyPost_ret (big_result3 rfl (b := w.heap.size + 1) (x := .bool r1) (y := .slice ra r2.length rc) rfl ?_ rfl rfl) rfl ⟨_, _, ⟨Hlo6.out.1, fun g hg => (by have := Hlo6.out.2 g hg; have := H21.out; omega)⟩, ?_, ?_, ?_⟩
        · have h := Hc.out
          (repeat (first | rw [if_pos (by omega)] | rw [if_neg (by omega)] | rw [hp_drew] | rw [hp_drewN] | rw [hp_alloc_size] | rw [hp_setCell_size] | rw [hp_alloc] | rw [hp_setCell] | rw [Option.map_some] | rw [upd_cells] | rw [List.set_cons_zero] | rw [List.set_cons_succ] | rfl))
          rw [h]
          (repeat (first | rw [if_pos (by omega)] | rw [if_neg (by omega)] | rw [hp_drew] | rw [hp_drewN] | rw [hp_alloc_size] | rw [hp_setCell_size] | rw [hp_alloc] | rw [hp_setCell] | rw [Option.map_some] | rw [upd_cells] | rw [List.set_cons_zero] | rw [List.set_cons_succ] | rfl))
        · rw [Hm2.out]
          rfl
        · refine Hr6.out.keep fun x hx hl => ?_
          have := Hlo6.out.2 x hx
          have hcl := H21.out
          rw [setCell_else _ _ _ (by simp; omega), setCell_else _ _ _ (by simp; omega), setCell_else _ _ _ (by simp; omega), setCell_else _ _ _ (by simp; omega)]
        · exact (((Hf.out.setCell (.inr (by simp; try omega)) _).setCell (.inr (by simp; try omega)) _).setCell (.inr (by simp; try omega)) _).setCell (.inr (by simp; try omega)) _
      ·
        have hm := HS.out
        simp only [bne_self_eq_false, Bool.false_and, Bool.and_false, Bool.false_eq_true, if_false, if_true, Nat.add_zero, Bool.and_self] at hm
        have Hm := Lib.hid hm
        have hrb : rest < 9223372036854775808 := by omega
        have Hlc := Lib.hid (Nat.le_refl os.length)
        clear hm HS hrl
        go_wp2_with fail
        have hm := Hm.out
        obtain ⟨⟨r1, r2, r3⟩, rr⟩ := r
        have hm1 : mkN true (Q) = (r1, r2, r3) := (congrArg Prod.fst hm).symm
        have hm2 : rr = _ := congrArg Prod.snd hm
        refine (made_calls (neg := true) Hr.out HoD.out (by have := Hol.out; omega) Hlc.out (A := fun g => w1.heap.size ≤ g) Hlo.out).mono ?_
        rintro e w6 ⟨ra, rc, hlo, rfl, hr, hf⟩
        rw [HoV.out, hm1] at hlo hr
        rw [HoV.out, hm1]
        (try clear c0)
        (try clear c1)
        (try clear c0z)
        (try clear c1z)
        (try clear cl)
        have hc_ := (hf.block _ (lt_of_block Hc.out) (by simp)).trans Hc.out
        clear Hc
        have c0 := heap_eq_cell hc_ 0
        have c0z := heap_eq_frozen hc_ 0
        have c1 := heap_eq_cell hc_ 1
        have c1z := heap_eq_frozen hc_ 1
        have cl := lt_of_block hc_
        have Hc := Lib.hid hc_
        clear hc_
        have Hf := Lib.hid (Hf.out.trans0 hf)
        have Hlo6 := Lib.hid hlo
        have Hr6 := Lib.hid hr
        have Hm2 := Lib.hid hm2
        clear hlo hr hf hm hm1 hm2
        go_wp2
        (try simp only [Exit.inBlock, Exit.then])
        refine bodyPost_ret (big_result3 rfl (b := w.heap.size + 1) (x := .bool r1) (y := .slice ra r2.length rc) rfl ?_ rfl rfl) rfl ⟨_, _, ⟨Hlo6.out.1, fun g hg => (by have := Hlo6.out.2 g hg; have := H21.out; omega)⟩, ?_, ?_, ?_⟩
        · have h := Hc.out
          (repeat (first | rw [if_pos (by omega)] | rw [if_neg (by omega)] | rw [hp_drew] | rw [hp_drewN] | rw [hp_alloc_size] | rw [hp_setCell_size] | rw [hp_alloc] | rw [hp_setCell] | rw [Option.map_some] | rw [upd_cells] | rw [List.set_cons_zero] | rw [List.set_cons_succ] | rfl))
          rw [h]
          (repeat (first | rw [if_pos (by omega)] | rw [if_neg (by omega)] | rw [hp_drew] | rw [hp_drewN] | rw [hp_alloc_size] | rw [hp_setCell_size] | rw [hp_alloc] | rw [hp_setCell] | rw [Option.map_some] | rw [upd_cells] | rw [List.set_cons_zero] | rw [List.set_cons_succ] | rfl))
        · rw [Hm2.out]
          exact ret_neg (by omega)
        · refine Hr6.out.keep fun x hx hl => ?_
          have := Hlo6.out.2 x hx
          have hcl := H21.out
          rw [setCell_else _ _ _ (by simp; omega), setCell_else _ _ _ (by simp; omega), setCell_else _ _ _ (by simp; omega), setCell_else _ _ _ (by simp; omega)]
        · exact (((Hf.out.setCell (.inr (by simp; try omega)) _).setCell (.inr (by simp; try omega)) _).setCell (.inr (by simp; try omega)) _).setCell (.inr (by simp; try omega)) _
      ·
        have hm := HS.out
        simp only [show (true != false) = true from rfl, show (false != true) = true from rfl, Bool.and_self, if_true, if_false, Bool.false_eq_true] at hm
        have Hm := Lib.hid hm
        clear hm HS
        go_wp2_with fail
        refine (plus_calls (Hr.out.fr (by (repeat (first | exact Fr.refl _ _ | assumption | apply Fr.drewN | apply Fr.drew | apply Fr.alloc | refine Fr.setCell ?_ (Or.inr (by simp; try omega)) _)))) (reads_blk (cs := u32s [1]) (by (repeat (first | rw [if_pos (by omega)] | rw [if_neg (by omega)] | rw [hp_drew] | rw [hp_drewN] | rw [hp_alloc_size] | rw [hp_setCell_size] | rw [hp_alloc] | rw [hp_setCell] | rw [Option.map_some] | rw [upd_cells] | rw [List.set_cons_zero] | rw [List.set_cons_succ] | rfl))) rfl) HoD.out (db := [1]) (fun x hx => by simp at hx; omega) (by have := Hol.out; omega) (by simp)).mono ?_
        rintro e w4 ⟨qa, qc, qs, rfl, ho, hqD, hV, hl4, hlc, hf0⟩
        have hf : Fr [] w3 w4 := Fr.trans0 (by (repeat (first | exact Fr.refl _ _ | assumption | apply Fr.drewN | apply Fr.drew | apply Fr.alloc | refine Fr.setCell ?_ (Or.inr (by simp; try omega)) _))) hf0
        rw [HoV.out, show val 4294967296 [1] = 1 by rfl] at hV
        have H34 := Lib.hid hf.size
        (try clear b0)
        (try clear b1)
        (try clear bl)
        have hb_ := (hf.block _ (lt_of_block Hb.out) (by simp)).trans Hb.out
        clear Hb
        have b0 := heap_eq_cell hb_ 0
        have b1 := heap_eq_cell hb_ 1
        have bl := lt_of_block hb_
        have Hb := Lib.hid hb_
        clear hb_
        (try clear c0)
        (try clear c1)
        (try clear c0z)
        (try clear c1z)
        (try clear cl)
        have hc_ := (hf.block _ (lt_of_block Hc.out) (by simp)).trans Hc.out
        clear Hc
        have c0 := heap_eq_cell hc_ 0
        have c0z := heap_eq_frozen hc_ 0
        have c1 := heap_eq_cell hc_ 1
        have c1z := heap_eq_frozen hc_ 1
        have cl := lt_of_block hc_
        have Hc := Lib.hid hc_
        clear hc_
        have Hf := Lib.hid (Hf.out.trans0 hf)
        have hlo : ∀ g, (Value.slice qa qs.length qc).ownBlock = some g → w1.heap.size ≤ g := fun g hg => by have h := owns_ge ho hg; have := H21.out; rw [hp_alloc_size] at h; omega
        have Hlo := Lib.hid hlo
        have Hr := Lib.hid (Reads.of_owns ho)
        have HoD := Lib.hid hqD
        have HoV := Lib.hid hV
        have Hol := Lib.hid (show qs.length ≤ 20000 by have := Hol.out; simp at hl4; omega)
        have Hlc := Lib.hid hlc
        clear hf hf0 ho hqD hV hl4 hlc hlo
        go_wp2_with fail
        refine (Hsz.out _).mono ?_
        rintro e w5 ⟨rfl, rfl⟩
        have hrs : 1 ≤ rest := by
          rcases Nat.eq_zero_or_pos rest with h | h
          · subst h; simp at hrzb
          · exact h
        have Eu : ((u : Int) - (rest : Int)) = ((u - rest : Nat) : Int) := by omega
        have hub : u - rest < 9223372036854775808 := by omega
        generalize u - rest = rest2 at *
        go_wp2_with fail
        have hm := Hm.out
        obtain ⟨⟨r1, r2, r3⟩, rr⟩ := r
        have hm1 : mkN true (Q+1) = (r1, r2, r3) := (congrArg Prod.fst hm).symm
        have hm2 : rr = _ := congrArg Prod.snd hm
        refine (made_calls (neg := true) Hr.out HoD.out (by have := Hol.out; omega) Hlc.out (A := fun g => w1.heap.size ≤ g) Hlo.out).mono ?_
        rintro e w6 ⟨ra, rc, hlo, rfl, hr, hf⟩
        rw [HoV.out, hm1] at hlo hr
        rw [HoV.out, hm1]
        (try clear c0)
        (try clear c1)
        (try clear c0z)
        (try clear c1z)
        (try clear cl)
        have hc_ := (hf.block _ (lt_of_block Hc.out) (by simp)).trans Hc.out
        clear Hc
        have c0 := heap_eq_cell hc_ 0
        have c0z := heap_eq_frozen hc_ 0
        have c1 := heap_eq_cell hc_ 1
        have c1z := heap_eq_frozen hc_ 1
        have cl := lt_of_block hc_
        have Hc := Lib.hid hc_
        clear hc_
        have Hf := Lib.hid (Hf.out.trans0 hf)
        have Hlo6 := Lib.hid hlo
        have Hr6 := Lib.hid hr
        have Hm2 := Lib.hid hm2
        clear hlo hr hf hm hm1 hm2
        go_wp2
        (try simp only [Exit.inBlock, Exit.then])
        refine bodyPost_ret (big_result3 rfl (b := w.heap.size + 1) (x := .bool r1) (y := .slice ra r2.length rc) rfl ?_ rfl rfl) rfl ⟨_, _, ⟨Hlo6.out.1, fun g hg => (by have := Hlo6.out.2 g hg; have := H21.out; omega)⟩, ?_, ?_, ?_⟩
        · have h := Hc.out
          (repeat (first | rw [if_pos (by omega)] | rw [if_neg (by omega)] | rw [hp_drew] | rw [hp_drewN] | rw [hp_alloc_size] | rw [hp_setCell_size] | rw [hp_alloc] | rw [hp_setCell] | rw [Option.map_some] | rw [upd_cells] | rw [List.set_cons_zero] | rw [List.set_cons_succ] | rfl))
          rw [h]
          (repeat (first | rw [if_pos (by omega)] | rw [if_neg (by omega)] | rw [hp_drew] | rw [hp_drewN] | rw [hp_alloc_size] | rw [hp_setCell_size] | rw [hp_alloc] | rw [hp_setCell] | rw [Option.map_some] | rw [upd_cells] | rw [List.set_cons_zero] | rw [List.set_cons_succ] | rfl))
        · rw [Hm2.out]
          exact ret_neg (by omega)
        · refine Hr6.out.keep fun x hx hl => ?_
          have := Hlo6.out.2 x hx
          have hcl := H21.out
          rw [setCell_else _ _ _ (by simp; omega), setCell_else _ _ _ (by simp; omega), setCell_else _ _ _ (by simp; omega), setCell_else _ _ _ (by simp; omega)]
        · exact (((Hf.out.setCell (.inr (by simp; try omega)) _).setCell (.inr (by simp; try omega)) _).setCell (.inr (by simp; try omega)) _).setCell (.inr (by simp; try omega)) _
      ·
        have hm := HS.out
        simp only [bne_self_eq_false, Bool.false_and, Bool.and_false, Bool.false_eq_true, if_false, if_true, Nat.add_zero, Bool.and_self] at hm
        have Hm := Lib.hid hm
        have hrb : rest < 9223372036854775808 := by omega
        have Hlc := Lib.hid (Nat.le_refl os.length)
        clear hm HS hrl
        go_wp2_with fail
        have hm := Hm.out
        obtain ⟨⟨r1, r2, r3⟩, rr⟩ := r
        have hm1 : mkN true (Q) = (r1, r2, r3) := (congrArg Prod.fst hm).symm
        have hm2 : rr = _ := congrArg Prod.snd hm
        refine (made_calls (neg := true) Hr.out HoD.out (by have := Hol.out; omega) Hlc.out (A := fun g => w1.heap.size ≤ g) Hlo.out).mono ?_
        rintro e w6 ⟨ra, rc, hlo, rfl, hr, hf⟩
        rw [HoV.out, hm1] at hlo hr
        rw [HoV.out, hm1]
        (try clear c0)
        (try clear c1)
        (try clear c0z)
        (try clear c1z)
        (try clear cl)
        have hc_ := (hf.block _ (lt_of_block Hc.out) (by simp)).trans Hc.out
        clear Hc
        have c0 := heap_eq_cell hc_ 0
        have c0z := heap_eq_frozen hc_ 0
        have c1 := heap_eq_cell hc_ 1
        have c1z := heap_eq_frozen hc_ 1
        have cl := lt_of_block hc_
        have Hc := Lib.hid hc_
        clear hc_
        have Hf := Lib.hid (Hf.out.trans0 hf)
        have Hlo6 := Lib.hid hlo
        have Hr6 := Lib.hid hr
        have Hm2 := Lib.hid hm2
        clear hlo hr hf hm hm1 hm2
        go_wp2
        (try simp only [Exit.inBlock, Exit.then])
        refine bodyPost_ret (big_result3 rfl (b := w.heap.size + 1) (x := .bool r1) (y := .slice ra r2.length rc) rfl ?_ rfl rfl) rfl ⟨_, _, ⟨Hlo6.out.1, fun g hg => (by have := Hlo6.out.2 g hg; have := H21.out; omega)⟩, ?_, ?_, ?_⟩
        · have h := Hc.out
          (repeat (first | rw [if_pos (by omega)] | rw [if_neg (by omega)] | rw [hp_drew] | rw [hp_drewN] | rw [hp_alloc_size] | rw [hp_setCell_size] | rw [hp_alloc] | rw [hp_setCell] | rw [Option.map_some] | rw [upd_cells] | rw [List.set_cons_zero] | rw [List.set_cons_succ] | rfl))
          rw [h]
          (repeat (first | rw [if_pos (by omega)] | rw [if_neg (by omega)] | rw [hp_drew] | rw [hp_drewN] | rw [hp_alloc_size] | rw [hp_setCell_size] | rw [hp_alloc] | rw [hp_setCell] | rw [Option.map_some] | rw [upd_cells] | rw [List.set_cons_zero] | rw [List.set_cons_succ] | rfl))
        · rw [Hm2.out]
          rfl
        · refine Hr6.out.keep fun x hx hl => ?_
          have := Hlo6.out.2 x hx
          have hcl := H21.out
          rw [setCell_else _ _ _ (by simp; omega), setCell_else _ _ _ (by simp; omega), setCell_else _ _ _ (by simp; omega), setCell_else _ _ _ (by simp; omega)]
        · exact (((Hf.out.setCell (.inr (by simp; try omega)) _).setCell (.inr (by simp; try omega)) _).setCell (.inr (by simp; try omega)) _).setCell (.inr (by simp; try omega)) _
      ·
        have hm := HS.out
        simp only [show (true != false) = true from rfl, show (false != true) = true from rfl, Bool.and_self, if_true, if_false, Bool.false_eq_true] at hm
        have Hm := Lib.hid hm
        clear hm HS
        go_wp2_with fail
        refine (plus_calls (Hr.out.fr (by (repeat (first | exact Fr.refl _ _ | assumption | apply Fr.drewN | apply Fr.drew | apply Fr.alloc | refine Fr.setCell ?_ (Or.inr (by simp; try omega)) _)))) (reads_blk (cs := u32s [1]) (by (repeat (first | rw [if_pos (by omega)] | rw [if_neg (by omega)] | rw [hp_drew] | rw [hp_drewN] | rw [hp_alloc_size] | rw [hp_setCell_size] | rw [hp_alloc] | rw [hp_setCell] | rw [Option.map_some] | rw [upd_cells] | rw [List.set_cons_zero] | rw [List.set_cons_succ] | rfl))) rfl) HoD.out (db := [1]) (fun x hx => by simp at hx; omega) (by have := Hol.out; omega) (by simp)).mono ?_
        rintro e w4 ⟨qa, qc, qs, rfl, ho, hqD, hV, hl4, hlc, hf0⟩
        have hf : Fr [] w3 w4 := Fr.trans0 (by (repeat (first | exact Fr.refl _ _ | assumption | apply Fr.drewN | apply Fr.drew | apply Fr.alloc | refine Fr.setCell ?_ (Or.inr (by simp; try omega)) _))) hf0
        rw [HoV.out, show val 4294967296 [1] = 1 by rfl] at hV
        have H34 := Lib.hid hf.size
        (try clear b0)
        (try clear b1)
        (try clear bl)
        have hb_ := (hf.block _ (lt_of_block Hb.out) (by simp)).trans Hb.out
        clear Hb
        have b0 := heap_eq_cell hb_ 0
        have b1 := heap_eq_cell hb_ 1
        have bl := lt_of_block hb_
        have Hb := Lib.hid hb_
        clear hb_
        (try clear c0)
        (try clear c1)
        (try clear c0z)
        (try clear c1z)
        (try clear cl)
        have hc_ := (hf.block _ (lt_of_block Hc.out) (by simp)).trans Hc.out
        clear Hc
        have c0 := heap_eq_cell hc_ 0
        have c0z := heap_eq_frozen hc_ 0
        have c1 := heap_eq_cell hc_ 1
        have c1z := heap_eq_frozen hc_ 1
        have cl := lt_of_block hc_
        have Hc := Lib.hid hc_
        clear hc_
        have Hf := Lib.hid (Hf.out.trans0 hf)
        have hlo : ∀ g, (Value.slice qa qs.length qc).ownBlock = some g → w1.heap.size ≤ g := fun g hg => by have h := owns_ge ho hg; have := H21.out; rw [hp_alloc_size] at h; omega
        have Hlo := Lib.hid hlo
        have Hr := Lib.hid (Reads.of_owns ho)
        have HoD := Lib.hid hqD
        have HoV := Lib.hid hV
        have Hol := Lib.hid (show qs.length ≤ 20000 by have := Hol.out; simp at hl4; omega)
        have Hlc := Lib.hid hlc
        clear hf hf0 ho hqD hV hl4 hlc hlo
        go_wp2_with fail
        refine (Hsz.out _).mono ?_
        rintro e w5 ⟨rfl, rfl⟩
        have hrs : 1 ≤ rest := by
          rcases Nat.eq_zero_or_pos rest with h | h
          · subst h; simp at hrzb
          · exact h
        have Eu : ((u : Int) - (rest : Int)) = ((u - rest : Nat) : Int) := by omega
        have hub : u - rest < 9223372036854775808 := by omega
        generalize u - rest = rest2 at *
        go_wp2_with fail
        have hm := Hm.out
        obtain ⟨⟨r1, r2, r3⟩, rr⟩ := r
        have hm1 : mkN true (Q+1) = (r1, r2, r3) := (congrArg Prod.fst hm).symm
        have hm2 : rr = _ := congrArg Prod.snd hm
        refine (made_calls (neg := true) Hr.out HoD.out (by have := Hol.out; omega) Hlc.out (A := fun g => w1.heap.size ≤ g) Hlo.out).mono ?_
        rintro e w6 ⟨ra, rc, hlo, rfl, hr, hf⟩
        rw [HoV.out, hm1] at hlo hr
        rw [HoV.out, hm1]
        (try clear c0)
        (try clear c1)
        (try clear c0z)
        (try clear c1z)
        (try clear cl)
        have hc_ := (hf.block _ (lt_of_block Hc.out) (by simp)).trans Hc.out
        clear Hc
        have c0 := heap_eq_cell hc_ 0
        have c0z := heap_eq_frozen hc_ 0
        have c1 := heap_eq_cell hc_ 1
        have c1z := heap_eq_frozen hc_ 1
        have cl := lt_of_block hc_
        have Hc := Lib.hid hc_
        clear hc_
        have Hf := Lib.hid (Hf.out.trans0 hf)
        have Hlo6 := Lib.hid hlo
        have Hr6 := Lib.hid hr
        have Hm2 := Lib.hid hm2
        clear hlo hr hf hm hm1 hm2
        go_wp2
        (try simp only [Exit.inBlock, Exit.then])
        refine bodyPost_ret (big_result3 rfl (b := w.heap.size + 1) (x := .bool r1) (y := .slice ra r2.length rc) rfl ?_ rfl rfl) rfl ⟨_, _, ⟨Hlo6.out.1, fun g hg => (by have := Hlo6.out.2 g hg; have := H21.out; omega)⟩, ?_, ?_, ?_⟩
        · have h := Hc.out
          (repeat (first | rw [if_pos (by omega)] | rw [if_neg (by omega)] | rw [hp_drew] | rw [hp_drewN] | rw [hp_alloc_size] | rw [hp_setCell_size] | rw [hp_alloc] | rw [hp_setCell] | rw [Option.map_some] | rw [upd_cells] | rw [List.set_cons_zero] | rw [List.set_cons_succ] | rfl))
          rw [h]
          (repeat (first | rw [if_pos (by omega)] | rw [if_neg (by omega)] | rw [hp_drew] | rw [hp_drewN] | rw [hp_alloc_size] | rw [hp_setCell_size] | rw [hp_alloc] | rw [hp_setCell] | rw [Option.map_some] | rw [upd_cells] | rw [List.set_cons_zero] | rw [List.set_cons_succ] | rfl))
        · rw [Hm2.out]
          rfl
        · refine Hr6.out.keep fun x hx hl => ?_
          have := Hlo6.out.2 x hx
          have hcl := H21.out
          rw [setCell_else _ _ _ (by simp; omega), setCell_else _ _ _ (by simp; omega), setCell_else _ _ _ (by simp; omega), setCell_else _ _ _ (by simp; omega)]
        · exact (((Hf.out.setCell (.inr (by simp; try omega)) _).setCell (.inr (by simp; try omega)) _).setCell (.inr (by simp; try omega)) _).setCell (.inr (by simp; try omega)) _
      ·
        have hm := HS.out
        simp only [bne_self_eq_false, Bool.false_and, Bool.and_false, Bool.false_eq_true, if_false, if_true, Nat.add_zero, Bool.and_self] at hm
        have Hm := Lib.hid hm
        have hrb : rest < 9223372036854775808 := by omega
        have Hlc := Lib.hid (Nat.le_refl os.length)
        clear hm HS hrl
        go_wp2_with fail
        have hm := Hm.out
        obtain ⟨⟨r1, r2, r3⟩, rr⟩ := r
        have hm1 : mkN false (Q) = (r1, r2, r3) := (congrArg Prod.fst hm).symm
        have hm2 : rr = _ := congrArg Prod.snd hm
        refine (made_calls (neg := false) Hr.out HoD.out (by have := Hol.out; omega) Hlc.out (A := fun g => w1.heap.size ≤ g) Hlo.out).mono ?_
        rintro e w6 ⟨ra, rc, hlo, rfl, hr, hf⟩
        rw [HoV.out, hm1] at hlo hr
        rw [HoV.out, hm1]
        (try clear c0)
        (try clear c1)
        (try clear c0z)
        (try clear c1z)
        (try clear cl)
        have hc_ := (hf.block _ (lt_of_block Hc.out) (by simp)).trans Hc.out
        clear Hc
        have c0 := heap_eq_cell hc_ 0
        have c0z := heap_eq_frozen hc_ 0
        have c1 := heap_eq_cell hc_ 1
        have c1z := heap_eq_frozen hc_ 1
        have cl := lt_of_block hc_
        have Hc := Lib.hid hc_
        clear hc_
        have Hf := Lib.hid (Hf.out.trans0 hf)
        have Hlo6 := Lib.hid hlo
        have Hr6 := Lib.hid hr
        have Hm2 := Lib.hid hm2
        clear hlo hr hf hm hm1 hm2
        go_wp2
        (try simp only [Exit.inBlock, Exit.then])
        refine bodyPost_ret (big_result3 rfl (b := w.heap.size + 1) (x := .bool r1) (y := .slice ra r2.length rc) rfl ?_ rfl rfl) rfl ⟨_, _, ⟨Hlo6.out.1, fun g hg => (by have := Hlo6.out.2 g hg; have := H21.out; omega)⟩, ?_, ?_, ?_⟩
        · have h := Hc.out
          (repeat (first | rw [if_pos (by omega)] | rw [if_neg (by omega)] | rw [hp_drew] | rw [hp_drewN] | rw [hp_alloc_size] | rw [hp_setCell_size] | rw [hp_alloc] | rw [hp_setCell] | rw [Option.map_some] | rw [upd_cells] | rw [List.set_cons_zero] | rw [List.set_cons_succ] | rfl))
          rw [h]
          (repeat (first | rw [if_pos (by omega)] | rw [if_neg (by omega)] | rw [hp_drew] | rw [hp_drewN] | rw [hp_alloc_size] | rw [hp_setCell_size] | rw [hp_alloc] | rw [hp_setCell] | rw [Option.map_some] | rw [upd_cells] | rw [List.set_cons_zero] | rw [List.set_cons_succ] | rfl))
        · rw [Hm2.out]
          exact ret_neg (by omega)
        · refine Hr6.out.keep fun x hx hl => ?_
          have := Hlo6.out.2 x hx
          have hcl := H21.out
          rw [setCell_else _ _ _ (by simp; omega), setCell_else _ _ _ (by simp; omega), setCell_else _ _ _ (by simp; omega), setCell_else _ _ _ (by simp; omega)]
        · exact (((Hf.out.setCell (.inr (by simp; try omega)) _).setCell (.inr (by simp; try omega)) _).setCell (.inr (by simp; try omega)) _).setCell (.inr (by simp; try omega)) _
      ·
        have hm := HS.out
        simp only [bne_self_eq_false, Bool.false_and, Bool.and_false, Bool.false_eq_true, if_false, if_true, Nat.add_zero, Bool.and_self] at hm
        have Hm := Lib.hid hm
        have hrb : rest < 9223372036854775808 := by omega
        have Hlc := Lib.hid (Nat.le_refl os.length)
        clear hm HS hrl
        go_wp2_with fail
        have hm := Hm.out
        obtain ⟨⟨r1, r2, r3⟩, rr⟩ := r
        have hm1 : mkN false (Q) = (r1, r2, r3) := (congrArg Prod.fst hm).symm
        have hm2 : rr = _ := congrArg Prod.snd hm
        refine (made_calls (neg := false) Hr.out HoD.out (by have := Hol.out; omega) Hlc.out (A := fun g => w1.heap.size ≤ g) Hlo.out).mono ?_
        rintro e w6 ⟨ra, rc, hlo, rfl, hr, hf⟩
        rw [HoV.out, hm1] at hlo hr
        rw [HoV.out, hm1]
        (try clear c0)
        (try clear c1)
        (try clear c0z)
        (try clear c1z)
        (try clear cl)
        have hc_ := (hf.block _ (lt_of_block Hc.out) (by simp)).trans Hc.out
        clear Hc
        have c0 := heap_eq_cell hc_ 0
        have c0z := heap_eq_frozen hc_ 0
        have c1 := heap_eq_cell hc_ 1
        have c1z := heap_eq_frozen hc_ 1
        have cl := lt_of_block hc_
        have Hc := Lib.hid hc_
        clear hc_
        have Hf := Lib.hid (Hf.out.trans0 hf)
        have Hlo6 := Lib.hid hlo
        have Hr6 := Lib.hid hr
        have Hm2 := Lib.hid hm2
        clear hlo hr hf hm hm1 hm2
        go_wp2
        (try simp only [Exit.inBlock, Exit.then])
        refine bodyPost_ret (big_result3 rfl (b := w.heap.size + 1) (x := .bool r1) (y := .slice ra r2.length rc) rfl ?_ rfl rfl) rfl ⟨_, _, ⟨Hlo6.out.1, fun g hg => (by have := Hlo6.out.2 g hg; have := H21.out; omega)⟩, ?_, ?_, ?_⟩
        · have h := Hc.out
          (repeat (first | rw [if_pos (by omega)] | rw [if_neg (by omega)] | rw [hp_drew] | rw [hp_drewN] | rw [hp_alloc_size] | rw [hp_setCell_size] | rw [hp_alloc] | rw [hp_setCell] | rw [Option.map_some] | rw [upd_cells] | rw [List.set_cons_zero] | rw [List.set_cons_succ] | rfl))
          rw [h]
          (repeat (first | rw [if_pos (by omega)] | rw [if_neg (by omega)] | rw [hp_drew] | rw [hp_drewN] | rw [hp_alloc_size] | rw [hp_setCell_size] | rw [hp_alloc] | rw [hp_setCell] | rw [Option.map_some] | rw [upd_cells] | rw [List.set_cons_zero] | rw [List.set_cons_succ] | rfl))
        · rw [Hm2.out]
          exact ret_neg (by omega)
        · refine Hr6.out.keep fun x hx hl => ?_
          have := Hlo6.out.2 x hx
          have hcl := H21.out
          rw [setCell_else _ _ _ (by simp; omega), setCell_else _ _ _ (by simp; omega), setCell_else _ _ _ (by simp; omega), setCell_else _ _ _ (by simp; omega)]
        · exact (((Hf.out.setCell (.inr (by simp; try omega)) _).setCell (.inr (by simp; try omega)) _).setCell (.inr (by simp; try omega)) _).setCell (.inr (by simp; try omega)) _
end Go.Proofs.YtbacamboknmppaaDoor
