/- The reference of big integers: Div. -/
import Derived.Test.YtbacamboknmppaaDoorKn
import Derived.Test.YtbacamboknmppaaDoorKf
namespace Go.Proofs.YtbacamboknmppaaDoor
open Go Go.RowKit Go.Proofs.Rg Go.Proofs.Hp Go.Proofs.Bn
set_option linter.unusedVariables false
set_option linter.unusedSimpArgs false
theorem ret_int {x y : Int} {A B : Value} (h : x = y) : Ending.returned (.tuple #[A, .int .i64 x, B]) = .returned (.tuple #[A, .int .i64 y, B]) := by rw [h]
set_option maxHeartbeats 8000000 in
set_option maxRecDepth 100000 in
theorem RDiv_calls {w : World} {neg : Bool} {ds : List Nat} {n : Int} {a : Option Addr} {c : Nat} (hv : Reads w (.slice a ds.length c) ds.length 1 (u32s ds)) (hD : Dig 4294967296 ds) (hl : ds.length ≤ 10000) (hk1 : -9223372036854775808 ≤ n) (hk2 : n < 9223372036854775808) :
    Calls Tryd.prog 24 #[.agg #[.bool neg, .slice a ds.length c], .int .i64 n] w (DivPost w (divS neg ds n)) := by
  have hra := fun w1 (hf : Fr [] w w1) => RRight_calls (neg := neg) (hv.fr hf) (by omega)
  have hby := fun w1 (hf : Fr [] w w1) => bytes_calls (neg := neg) (hv.fr hf) hD (by omega)
  obtain ⟨r, hS⟩ : ∃ r, r = divS neg ds n := ⟨_, rfl⟩
  rw [← hS]
  unfold divS at hS
  cases hR1 : RightB neg ds with
  | false =>
    rw [hR1] at hS hra
    simp only [if_true] at hS
    subst hS
    have Hra := Lib.hid hra
    clear hra hR1 hby hv
    go_enter Tryd.func24, Tryd.ntmps24
    go_wp2_with fail
    refine (Hra.out _ (by (repeat (first | exact Fr.refl _ _ | assumption | apply Fr.drewN | apply Fr.drew | apply Fr.alloc | refine Fr.setCell ?_ (Or.inr (by simp; try omega)) _)))).mono ?_
    rintro e w1 ⟨rfl, hf⟩
    have ha_ := (hf.block (w.heap.size) (by first | (simp; done) | (simp; omega)) (by simp)).trans (show _ = some (.cells #[.bool neg, .slice a ds.length c] 24 (0, 0)) by (repeat (first | rw [if_pos (by omega)] | rw [if_neg (by omega)] | rw [hp_drew] | rw [hp_drewN] | rw [hp_alloc_size] | rw [hp_setCell_size] | rw [hp_alloc] | rw [hp_setCell] | rw [Option.map_some] | rw [upd_cells] | rw [List.set_cons_zero] | rw [List.set_cons_succ] | rfl)))
    have a0 := heap_eq_cell ha_ 0
    have a1 := heap_eq_cell ha_ 1
    have al := lt_of_block ha_
    have Ha := Lib.hid ha_
    clear ha_
    have hc_ := (hf.block (w.heap.size + 1) (by first | (simp; done) | (simp; omega)) (by simp)).trans (show _ = some (.cells #[.bool false, .slice none 0 0] 24 (0, 0)) by (repeat (first | rw [if_pos (by omega)] | rw [if_neg (by omega)] | rw [hp_drew] | rw [hp_drewN] | rw [hp_alloc_size] | rw [hp_setCell_size] | rw [hp_alloc] | rw [hp_setCell] | rw [Option.map_some] | rw [upd_cells] | rw [List.set_cons_zero] | rw [List.set_cons_succ] | rfl)))
    have c0 := heap_eq_cell hc_ 0
    have c0z := heap_eq_frozen hc_ 0
    have c1 := heap_eq_cell hc_ 1
    have c1z := heap_eq_frozen hc_ 1
    have cl := lt_of_block hc_
    have Hc := Lib.hid hc_
    clear hc_
    have Hf := Lib.hid (Fr.trans0 (by (repeat (first | exact Fr.refl _ _ | assumption | apply Fr.drewN | apply Fr.drew | apply Fr.alloc | refine Fr.setCell ?_ (Or.inr (by simp; try omega)) _)) : Fr [] w _) hf)
    clear hf
    go_wp2
    (try simp only [Exit.inBlock, Exit.then])
    refine bodyPost_ret (big_result3 rfl (b := w.heap.size + 1) (x := .bool false) (y := .slice none 0 0) rfl ?_ rfl rfl) rfl ⟨_, _, ⟨Nat.le_refl _, fun g hg => (by cases hg)⟩, rfl, reads_nil _, ?_⟩
    · have h := Hc.out
      (repeat (first | rw [if_pos (by omega)] | rw [if_neg (by omega)] | rw [hp_drew] | rw [hp_drewN] | rw [hp_alloc_size] | rw [hp_setCell_size] | rw [hp_alloc] | rw [hp_setCell] | rw [Option.map_some] | rw [upd_cells] | rw [List.set_cons_zero] | rw [List.set_cons_succ] | rfl))
      rw [h]
      (repeat (first | rw [if_pos (by omega)] | rw [if_neg (by omega)] | rw [hp_drew] | rw [hp_drewN] | rw [hp_alloc_size] | rw [hp_setCell_size] | rw [hp_alloc] | rw [hp_setCell] | rw [Option.map_some] | rw [upd_cells] | rw [List.set_cons_zero] | rw [List.set_cons_succ] | rfl))
    · exact (Hf.out.setCell (.inr (by simp; try omega)) _).setCell (.inr (by simp; try omega)) _
  | true =>
    obtain ⟨cA, lA, nA⟩ := right_canon hR1
    rw [hR1] at hS hra
    simp only [Bool.true_eq_false, if_false] at hS
    have Hra := Lib.hid hra
    clear hra hR1 nA cA
    by_cases hn0 : n = 0
    · rw [if_pos hn0] at hS
      subst hS
      subst hn0
      clear hby hv
      go_enter Tryd.func24, Tryd.ntmps24
      go_wp2_with fail
      refine (Hra.out _ (by (repeat (first | exact Fr.refl _ _ | assumption | apply Fr.drewN | apply Fr.drew | apply Fr.alloc | refine Fr.setCell ?_ (Or.inr (by simp; try omega)) _)))).mono ?_
      rintro e w1 ⟨rfl, hf⟩
      have ha_ := (hf.block (w.heap.size) (by first | (simp; done) | (simp; omega)) (by simp)).trans (show _ = some (.cells #[.bool neg, .slice a ds.length c] 24 (0, 0)) by (repeat (first | rw [if_pos (by omega)] | rw [if_neg (by omega)] | rw [hp_drew] | rw [hp_drewN] | rw [hp_alloc_size] | rw [hp_setCell_size] | rw [hp_alloc] | rw [hp_setCell] | rw [Option.map_some] | rw [upd_cells] | rw [List.set_cons_zero] | rw [List.set_cons_succ] | rfl)))
      have a0 := heap_eq_cell ha_ 0
      have a1 := heap_eq_cell ha_ 1
      have al := lt_of_block ha_
      have Ha := Lib.hid ha_
      clear ha_
      have hc_ := (hf.block (w.heap.size + 1) (by first | (simp; done) | (simp; omega)) (by simp)).trans (show _ = some (.cells #[.bool false, .slice none 0 0] 24 (0, 0)) by (repeat (first | rw [if_pos (by omega)] | rw [if_neg (by omega)] | rw [hp_drew] | rw [hp_drewN] | rw [hp_alloc_size] | rw [hp_setCell_size] | rw [hp_alloc] | rw [hp_setCell] | rw [Option.map_some] | rw [upd_cells] | rw [List.set_cons_zero] | rw [List.set_cons_succ] | rfl)))
      have c0 := heap_eq_cell hc_ 0
      have c0z := heap_eq_frozen hc_ 0
      have c1 := heap_eq_cell hc_ 1
      have c1z := heap_eq_frozen hc_ 1
      have cl := lt_of_block hc_
      have Hc := Lib.hid hc_
      clear hc_
      have Hf := Lib.hid (Fr.trans0 (by (repeat (first | exact Fr.refl _ _ | assumption | apply Fr.drewN | apply Fr.drew | apply Fr.alloc | refine Fr.setCell ?_ (Or.inr (by simp; try omega)) _)) : Fr [] w _) hf)
      clear hf
      go_wp2
      (try simp only [Exit.inBlock, Exit.then])
      refine bodyPost_ret (big_result3 rfl (b := w.heap.size + 1) (x := .bool false) (y := .slice none 0 0) rfl ?_ rfl rfl) rfl ⟨_, _, ⟨Nat.le_refl _, fun g hg => (by cases hg)⟩, rfl, reads_nil _, ?_⟩
      · have h := Hc.out
        (repeat (first | rw [if_pos (by omega)] | rw [if_neg (by omega)] | rw [hp_drew] | rw [hp_drewN] | rw [hp_alloc_size] | rw [hp_setCell_size] | rw [hp_alloc] | rw [hp_setCell] | rw [Option.map_some] | rw [upd_cells] | rw [List.set_cons_zero] | rw [List.set_cons_succ] | rfl))
        rw [h]
        (repeat (first | rw [if_pos (by omega)] | rw [if_neg (by omega)] | rw [hp_drew] | rw [hp_drewN] | rw [hp_alloc_size] | rw [hp_setCell_size] | rw [hp_alloc] | rw [hp_setCell] | rw [Option.map_some] | rw [upd_cells] | rw [List.set_cons_zero] | rw [List.set_cons_succ] | rfl))
      · exact (Hf.out.setCell (.inr (by simp; try omega)) _).setCell (.inr (by simp; try omega)) _
    · rw [if_neg hn0] at hS
      obtain ⟨u, hu⟩ : ∃ u, u = n.natAbs := ⟨_, rfl⟩
      have hup : 1 ≤ u := by omega
      have hu63 : u ≤ 9223372036854775808 := by omega
      obtain ⟨V, hV⟩ : ∃ V, val 4294967296 ds = V := ⟨_, rfl⟩
      have hVN : V < 256 ^ 256 := by
        rw [← hV, show 256 ^ 256 = 4294967296 ^ 64 from pow256 64]
        exact Nat.lt_of_lt_of_le (val_lt hD) (Nat.pow_le_pow_right (by omega) lA)
      obtain ⟨X, hX⟩ : ∃ X, dg 256 V = X := ⟨_, rfl⟩
      have hXV : val 256 X = V := by rw [← hX]; exact val_dg (by omega) V
      have hXD : Dig 256 X := by rw [← hX]; exact dg_dig (by omega) V
      have hXl : X.length ≤ 256 := by rw [← hX, dg_length_le (by omega)]; exact hVN
      rw [hV] at hS hby
      rw [hX] at hby
      simp only [← hu] at hS
      obtain ⟨rest, hrest⟩ : ∃ rest, rest = V % u := ⟨_, rfl⟩
      obtain ⟨Q, hQ⟩ : ∃ Q, Q = V / u := ⟨_, rfl⟩
      have hup0 : divUp neg V n = ((neg != decide (n < 0)) && decide (rest ≠ 0)) := by unfold divUp; rw [← hu, ← hrest]
      simp only [← hrest, ← hQ, hup0] at hS
      have hTl : (dg 256 Q).length ≤ 256 := by
        rw [dg_length_le (by omega), hQ]
        exact Nat.lt_of_le_of_lt (Nat.div_le_self _ _) hVN
      obtain ⟨dif, hdif⟩ : ∃ dif, (neg != decide (n < 0)) = dif := ⟨_, rfl⟩
      obtain ⟨rz, hrz⟩ : ∃ rz, decide (rest ≠ 0) = rz := ⟨_, rfl⟩
      obtain ⟨ng, hng⟩ : ∃ ng, decide (n < 0) = ng := ⟨_, rfl⟩
      have hS2 : r = (mkN dif (Q + if dif && rz then 1 else 0), if ng then -(((if dif && rz then u - rest else rest) : Nat) : Int) else ((if dif && rz then u - rest else rest) : Nat)) := by
        rw [hS, hdif, hrz]
        cases ng
        · have h : ¬ n < 0 := by simpa using hng
          simp only [h, if_false, Bool.false_eq_true]
        · have h : n < 0 := by simpa using hng
          simp only [h, if_true]
      rw [hng] at hdif
      have hrl : rest < u := by rw [hrest]; exact Nat.mod_lt _ (by omega)
      have hn0b : ((n : Int) == 0) = false := by rw [beq_eq_false_iff_ne]; exact hn0
      have hrzb : ((rest : Int) == 0) = !rz := by
        rw [← hrz]
        by_cases h : rest = 0
        · subst h; rfl
        · rw [decide_eq_true h, beq_eq_false_iff_ne.2 (by omega)]; rfl
      have hpt := fun (w1 w3 : World) (xa : Option Addr) (xc : Nat) (hr : Reads w1 (.slice xa X.length xc) X.length 1 (i64s X)) => hXV ▸ parts_calls hr hXD (by omega) hup hu63
      unfold PartsPost at hpt
      simp only [← hQ, ← hrest] at hpt
      have HS := Lib.hid hS2
      have Hby := Lib.hid hby
      have Hpt := Lib.hid (fun (w1 : World) (xa : Option Addr) (xc : Nat) hr => hpt w1 w1 xa xc hr)
      have Hu := Lib.hid hu
      have Hhrz := Lib.hid hrz
      clear hu hS hS2 hby hup0 hrz hrest hQ hn0 hpt hXV hXD hX hV hv hD hVN
      cases neg <;> cases ng <;> cases rz <;> subst hdif
      ·
        have hnn := hng
        simp only [decide_eq_true_eq, decide_eq_false_iff_not] at hnn
        have Eu : IntKind.u64.wrap n = (u : Nat) := by have := Hu.out; rw [wrap_u64]; omega
        have hnu : n = (u : Int) := by have := Hu.out; omega
        have Hnu := Lib.hid hnu
        clear hnu hnn
        have hz := Hhrz.out
        simp only [ne_eq, decide_eq_true_eq, decide_eq_false_iff_not, Decidable.not_not] at hz
        go_enter Tryd.func24, Tryd.ntmps24
        go_wp2_with fail
        refine (Hra.out _ (by (repeat (first | exact Fr.refl _ _ | assumption | apply Fr.drewN | apply Fr.drew | apply Fr.alloc | refine Fr.setCell ?_ (Or.inr (by simp; try omega)) _)))).mono ?_
        rintro e w1 ⟨rfl, hf⟩
        have ha_ := (hf.block (w.heap.size) (by first | (simp; done) | (simp; omega)) (by simp)).trans (show _ = some (.cells #[.bool false, .slice a ds.length c] 24 (0, 0)) by (repeat (first | rw [if_pos (by omega)] | rw [if_neg (by omega)] | rw [hp_drew] | rw [hp_drewN] | rw [hp_alloc_size] | rw [hp_setCell_size] | rw [hp_alloc] | rw [hp_setCell] | rw [Option.map_some] | rw [upd_cells] | rw [List.set_cons_zero] | rw [List.set_cons_succ] | rfl)))
        have a0 := heap_eq_cell ha_ 0
        have a1 := heap_eq_cell ha_ 1
        have al := lt_of_block ha_
        have Ha := Lib.hid ha_
        clear ha_
        have hc_ := (hf.block (w.heap.size + 1) (by first | (simp; done) | (simp; omega)) (by simp)).trans (show _ = some (.cells #[.bool false, .slice none 0 0] 24 (0, 0)) by (repeat (first | rw [if_pos (by omega)] | rw [if_neg (by omega)] | rw [hp_drew] | rw [hp_drewN] | rw [hp_alloc_size] | rw [hp_setCell_size] | rw [hp_alloc] | rw [hp_setCell] | rw [Option.map_some] | rw [upd_cells] | rw [List.set_cons_zero] | rw [List.set_cons_succ] | rfl)))
        have c0 := heap_eq_cell hc_ 0
        have c0z := heap_eq_frozen hc_ 0
        have c1 := heap_eq_cell hc_ 1
        have c1z := heap_eq_frozen hc_ 1
        have cl := lt_of_block hc_
        have Hc := Lib.hid hc_
        clear hc_
        have Hf := Lib.hid (Fr.trans0 (by (repeat (first | exact Fr.refl _ _ | assumption | apply Fr.drewN | apply Fr.drew | apply Fr.alloc | refine Fr.setCell ?_ (Or.inr (by simp; try omega)) _)) : Fr [] w _) hf)
        clear hf
        go_wp2_with fail
        refine (Hby.out _ Hf.out).mono ?_
        rintro e w3 ⟨xa, xc, hlo, rfl, hr, hf⟩
        (try clear a0)
        (try clear a1)
        (try clear al)
        have ha_ := (hf.block _ (lt_of_block Ha.out) (by simp)).trans Ha.out
        clear Ha
        have a0 := heap_eq_cell ha_ 0
        have a1 := heap_eq_cell ha_ 1
        have al := lt_of_block ha_
        have Ha := Lib.hid ha_
        clear ha_
        (try clear c0)
        (try clear c1)
        (try clear c0z)
        (try clear c1z)
        (try clear cl)
        have hc_ := (hf.block _ (lt_of_block Hc.out) (by simp)).trans Hc.out
        clear Hc
        have c0 := heap_eq_cell hc_ 0
        have c0z := heap_eq_frozen hc_ 0
        have c1 := heap_eq_cell hc_ 1
        have c1z := heap_eq_frozen hc_ 1
        have cl := lt_of_block hc_
        have Hc := Lib.hid hc_
        clear hc_
        have Hf := Lib.hid (Hf.out.trans0 hf)
        have Hp := Lib.hid (Hpt.out w3 xa xc hr)
        clear hf hlo hr
        go_wp2_with fail
        refine Hp.out.mono ?_
        rintro e w4 ⟨T, ta, tc, hT, hlo, rfl, hr, hf⟩
        (try clear a0)
        (try clear a1)
        (try clear al)
        have ha_ := (hf.block _ (lt_of_block Ha.out) (by simp)).trans Ha.out
        clear Ha
        have a0 := heap_eq_cell ha_ 0
        have a1 := heap_eq_cell ha_ 1
        have al := lt_of_block ha_
        have Ha := Lib.hid ha_
        clear ha_
        (try clear c0)
        (try clear c1)
        (try clear c0z)
        (try clear c1z)
        (try clear cl)
        have hc_ := (hf.block _ (lt_of_block Hc.out) (by simp)).trans Hc.out
        clear Hc
        have c0 := heap_eq_cell hc_ 0
        have c0z := heap_eq_frozen hc_ 0
        have c1 := heap_eq_cell hc_ 1
        have c1z := heap_eq_frozen hc_ 1
        have cl := lt_of_block hc_
        have Hc := Lib.hid hc_
        clear hc_
        have Hf := Lib.hid (Hf.out.trans0 hf)
        have Hr := Lib.hid hr
        have Hrc := Lib.hid hlo.1
        have hTl2 : T.length ≤ 256 := by rw [hT]; exact hTl
        have HTV : Hid (val 256 T = Q) := Lib.hid (by rw [hT]; exact val_dg (by omega) Q)
        have HTD : Hid (Dig 256 T) := Lib.hid (by rw [hT]; exact dg_dig (by omega) Q)
        have Hw4 : Hid (w.heap.size + 1 < w4.heap.size) := Lib.hid cl
        clear hf hlo hr hT hTl
        have hm := HS.out
        simp only [bne_self_eq_false, Bool.false_and, Bool.and_false, Bool.false_eq_true, if_false, if_true, Nat.add_zero, Bool.and_self] at hm
        have Hm := Lib.hid hm
        have hbg := big_calls (neg := false) Hr.out HTD.out (by omega) Hrc.out
        rw [HTV.out] at hbg
        have Hbg := Lib.hid hbg
        have Hw5 := Hw4
        clear hm HS hbg
        go_wp2_with fail
        have hm := Hm.out
        obtain ⟨⟨r1, r2, r3⟩, rr⟩ := r
        have hm1 : mkN false (Q) = (r1, r2, r3) := (congrArg Prod.fst hm).symm
        have hm2 : rr = _ := congrArg Prod.snd hm
        refine Hbg.out.mono ?_
        rintro e w6 ⟨ra, rc, hlo, rfl, hr, hf⟩
        rw [hm1] at hlo hr
        rw [hm1]
        (try clear a0)
        (try clear a1)
        (try clear al)
        have ha_ := (hf.block _ (lt_of_block Ha.out) (by simp)).trans Ha.out
        clear Ha
        have a0 := heap_eq_cell ha_ 0
        have a1 := heap_eq_cell ha_ 1
        have al := lt_of_block ha_
        have Ha := Lib.hid ha_
        clear ha_
        (try clear c0)
        (try clear c1)
        (try clear c0z)
        (try clear c1z)
        (try clear cl)
        have hc_ := (hf.block _ (lt_of_block Hc.out) (by simp)).trans Hc.out
        clear Hc
        have c0 := heap_eq_cell hc_ 0
        have c0z := heap_eq_frozen hc_ 0
        have c1 := heap_eq_cell hc_ 1
        have c1z := heap_eq_frozen hc_ 1
        have cl := lt_of_block hc_
        have Hc := Lib.hid hc_
        clear hc_
        have Hf := Lib.hid (Hf.out.trans0 hf)
        have Hlo6 := Lib.hid hlo
        have Hr6 := Lib.hid hr
        have Hm2 := Lib.hid hm2
        clear hlo hr hf hm hm1 hm2
        go_wp2
        (try simp only [Exit.inBlock, Exit.then])
        refine bodyPost_ret (big_result3 rfl (b := w.heap.size + 1) (x := .bool r1) (y := .slice ra r2.length rc) rfl ?_ rfl rfl) rfl ⟨_, _, ⟨Hlo6.out.1, fun g hg => (by have := Hlo6.out.2 g hg; have := Hw5.out; omega)⟩, ?_, ?_, ?_⟩
        · have h := Hc.out
          (repeat (first | rw [if_pos (by omega)] | rw [if_neg (by omega)] | rw [hp_drew] | rw [hp_drewN] | rw [hp_alloc_size] | rw [hp_setCell_size] | rw [hp_alloc] | rw [hp_setCell] | rw [Option.map_some] | rw [upd_cells] | rw [List.set_cons_zero] | rw [List.set_cons_succ] | rfl))
          first | done | (rw [h]; (repeat (first | rw [if_pos (by omega)] | rw [if_neg (by omega)] | rw [hp_drew] | rw [hp_drewN] | rw [hp_alloc_size] | rw [hp_setCell_size] | rw [hp_alloc] | rw [hp_setCell] | rw [Option.map_some] | rw [upd_cells] | rw [List.set_cons_zero] | rw [List.set_cons_succ] | rfl)))
        · rw [Hm2.out]
          exact ret_int (by have := Hnu.out; first | omega | (simp only [wrap64]; omega) | (simp; done) | (simp; omega))
        · refine Hr6.out.keep fun x hx hl => ?_
          have h1 := Hlo6.out.2 x hx
          have hcl := Hw5.out
          repeat (first | rw [setCell_else _ _ _ (by simp; omega)] | rw [heap_alloc_else _ _ _ (by simp; omega)])
        · repeat (first | exact Hf.out | refine Fr.alloc ?_ _ | refine Fr.setCell ?_ (.inr (by first | (simp; done) | (simp; omega))) _)
      ·
        have hnn := hng
        simp only [decide_eq_true_eq, decide_eq_false_iff_not] at hnn
        have Eu : IntKind.u64.wrap n = (u : Nat) := by have := Hu.out; rw [wrap_u64]; omega
        have hnu : n = (u : Int) := by have := Hu.out; omega
        have Hnu := Lib.hid hnu
        clear hnu hnn
        have hz := Hhrz.out
        simp only [ne_eq, decide_eq_true_eq, decide_eq_false_iff_not, Decidable.not_not] at hz
        go_enter Tryd.func24, Tryd.ntmps24
        go_wp2_with fail
        refine (Hra.out _ (by (repeat (first | exact Fr.refl _ _ | assumption | apply Fr.drewN | apply Fr.drew | apply Fr.alloc | refine Fr.setCell ?_ (Or.inr (by simp; try omega)) _)))).mono ?_
        rintro e w1 ⟨rfl, hf⟩
        have ha_ := (hf.block (w.heap.size) (by first | (simp; done) | (simp; omega)) (by simp)).trans (show _ = some (.cells #[.bool false, .slice a ds.length c] 24 (0, 0)) by (repeat (first | rw [if_pos (by omega)] | rw [if_neg (by omega)] | rw [hp_drew] | rw [hp_drewN] | rw [hp_alloc_size] | rw [hp_setCell_size] | rw [hp_alloc] | rw [hp_setCell] | rw [Option.map_some] | rw [upd_cells] | rw [List.set_cons_zero] | rw [List.set_cons_succ] | rfl)))
        have a0 := heap_eq_cell ha_ 0
        have a1 := heap_eq_cell ha_ 1
        have al := lt_of_block ha_
        have Ha := Lib.hid ha_
        clear ha_
        have hc_ := (hf.block (w.heap.size + 1) (by first | (simp; done) | (simp; omega)) (by simp)).trans (show _ = some (.cells #[.bool false, .slice none 0 0] 24 (0, 0)) by (repeat (first | rw [if_pos (by omega)] | rw [if_neg (by omega)] | rw [hp_drew] | rw [hp_drewN] | rw [hp_alloc_size] | rw [hp_setCell_size] | rw [hp_alloc] | rw [hp_setCell] | rw [Option.map_some] | rw [upd_cells] | rw [List.set_cons_zero] | rw [List.set_cons_succ] | rfl)))
        have c0 := heap_eq_cell hc_ 0
        have c0z := heap_eq_frozen hc_ 0
        have c1 := heap_eq_cell hc_ 1
        have c1z := heap_eq_frozen hc_ 1
        have cl := lt_of_block hc_
        have Hc := Lib.hid hc_
        clear hc_
        have Hf := Lib.hid (Fr.trans0 (by (repeat (first | exact Fr.refl _ _ | assumption | apply Fr.drewN | apply Fr.drew | apply Fr.alloc | refine Fr.setCell ?_ (Or.inr (by simp; try omega)) _)) : Fr [] w _) hf)
        clear hf
        go_wp2_with fail
        refine (Hby.out _ Hf.out).mono ?_
        rintro e w3 ⟨xa, xc, hlo, rfl, hr, hf⟩
        (try clear a0)
        (try clear a1)
        (try clear al)
        have ha_ := (hf.block _ (lt_of_block Ha.out) (by simp)).trans Ha.out
        clear Ha
        have a0 := heap_eq_cell ha_ 0
        have a1 := heap_eq_cell ha_ 1
        have al := lt_of_block ha_
        have Ha := Lib.hid ha_
        clear ha_
        (try clear c0)
        (try clear c1)
        (try clear c0z)
        (try clear c1z)
        (try clear cl)
        have hc_ := (hf.block _ (lt_of_block Hc.out) (by simp)).trans Hc.out
        clear Hc
        have c0 := heap_eq_cell hc_ 0
        have c0z := heap_eq_frozen hc_ 0
        have c1 := heap_eq_cell hc_ 1
        have c1z := heap_eq_frozen hc_ 1
        have cl := lt_of_block hc_
        have Hc := Lib.hid hc_
        clear hc_
        have Hf := Lib.hid (Hf.out.trans0 hf)
        have Hp := Lib.hid (Hpt.out w3 xa xc hr)
        clear hf hlo hr
        go_wp2_with fail
        refine Hp.out.mono ?_
        rintro e w4 ⟨T, ta, tc, hT, hlo, rfl, hr, hf⟩
        (try clear a0)
        (try clear a1)
        (try clear al)
        have ha_ := (hf.block _ (lt_of_block Ha.out) (by simp)).trans Ha.out
        clear Ha
        have a0 := heap_eq_cell ha_ 0
        have a1 := heap_eq_cell ha_ 1
        have al := lt_of_block ha_
        have Ha := Lib.hid ha_
        clear ha_
        (try clear c0)
        (try clear c1)
        (try clear c0z)
        (try clear c1z)
        (try clear cl)
        have hc_ := (hf.block _ (lt_of_block Hc.out) (by simp)).trans Hc.out
        clear Hc
        have c0 := heap_eq_cell hc_ 0
        have c0z := heap_eq_frozen hc_ 0
        have c1 := heap_eq_cell hc_ 1
        have c1z := heap_eq_frozen hc_ 1
        have cl := lt_of_block hc_
        have Hc := Lib.hid hc_
        clear hc_
        have Hf := Lib.hid (Hf.out.trans0 hf)
        have Hr := Lib.hid hr
        have Hrc := Lib.hid hlo.1
        have hTl2 : T.length ≤ 256 := by rw [hT]; exact hTl
        have HTV : Hid (val 256 T = Q) := Lib.hid (by rw [hT]; exact val_dg (by omega) Q)
        have HTD : Hid (Dig 256 T) := Lib.hid (by rw [hT]; exact dg_dig (by omega) Q)
        have Hw4 : Hid (w.heap.size + 1 < w4.heap.size) := Lib.hid cl
        clear hf hlo hr hT hTl
        have hm := HS.out
        simp only [bne_self_eq_false, Bool.false_and, Bool.and_false, Bool.false_eq_true, if_false, if_true, Nat.add_zero, Bool.and_self] at hm
        have Hm := Lib.hid hm
        have hbg := big_calls (neg := false) Hr.out HTD.out (by omega) Hrc.out
        rw [HTV.out] at hbg
        have Hbg := Lib.hid hbg
        have Hw5 := Hw4
        clear hm HS hbg
        go_wp2_with fail
        have hm := Hm.out
        obtain ⟨⟨r1, r2, r3⟩, rr⟩ := r
        have hm1 : mkN false (Q) = (r1, r2, r3) := (congrArg Prod.fst hm).symm
        have hm2 : rr = _ := congrArg Prod.snd hm
        refine Hbg.out.mono ?_
        rintro e w6 ⟨ra, rc, hlo, rfl, hr, hf⟩
        rw [hm1] at hlo hr
        rw [hm1]
        (try clear a0)
        (try clear a1)
        (try clear al)
        have ha_ := (hf.block _ (lt_of_block Ha.out) (by simp)).trans Ha.out
        clear Ha
        have a0 := heap_eq_cell ha_ 0
        have a1 := heap_eq_cell ha_ 1
        have al := lt_of_block ha_
        have Ha := Lib.hid ha_
        clear ha_
        (try clear c0)
        (try clear c1)
        (try clear c0z)
        (try clear c1z)
        (try clear cl)
        have hc_ := (hf.block _ (lt_of_block Hc.out) (by simp)).trans Hc.out
        clear Hc
        have c0 := heap_eq_cell hc_ 0
        have c0z := heap_eq_frozen hc_ 0
        have c1 := heap_eq_cell hc_ 1
        have c1z := heap_eq_frozen hc_ 1
        have cl := lt_of_block hc_
        have Hc := Lib.hid hc_
        clear hc_
        have Hf := Lib.hid (Hf.out.trans0 hf)
        have Hlo6 := Lib.hid hlo
        have Hr6 := Lib.hid hr
        have Hm2 := Lib.hid hm2
        clear hlo hr hf hm hm1 hm2
        go_wp2
        (try simp only [Exit.inBlock, Exit.then])
        refine bodyPost_ret (big_result3 rfl (b := w.heap.size + 1) (x := .bool r1) (y := .slice ra r2.length rc) rfl ?_ rfl rfl) rfl ⟨_, _, ⟨Hlo6.out.1, fun g hg => (by have := Hlo6.out.2 g hg; have := Hw5.out; omega)⟩, ?_, ?_, ?_⟩
        · have h := Hc.out
          (repeat (first | rw [if_pos (by omega)] | rw [if_neg (by omega)] | rw [hp_drew] | rw [hp_drewN] | rw [hp_alloc_size] | rw [hp_setCell_size] | rw [hp_alloc] | rw [hp_setCell] | rw [Option.map_some] | rw [upd_cells] | rw [List.set_cons_zero] | rw [List.set_cons_succ] | rfl))
          first | done | (rw [h]; (repeat (first | rw [if_pos (by omega)] | rw [if_neg (by omega)] | rw [hp_drew] | rw [hp_drewN] | rw [hp_alloc_size] | rw [hp_setCell_size] | rw [hp_alloc] | rw [hp_setCell] | rw [Option.map_some] | rw [upd_cells] | rw [List.set_cons_zero] | rw [List.set_cons_succ] | rfl)))
        · rw [Hm2.out]
          exact ret_int (by have := Hnu.out; first | omega | (simp only [wrap64]; omega) | (simp; done) | (simp; omega))
        · refine Hr6.out.keep fun x hx hl => ?_
          have h1 := Hlo6.out.2 x hx
          have hcl := Hw5.out
          repeat (first | rw [setCell_else _ _ _ (by simp; omega)] | rw [heap_alloc_else _ _ _ (by simp; omega)])
        · repeat (first | exact Hf.out | refine Fr.alloc ?_ _ | refine Fr.setCell ?_ (.inr (by first | (simp; done) | (simp; omega))) _)
      ·
        have hnn := hng
        simp only [decide_eq_true_eq, decide_eq_false_iff_not] at hnn
        have Eu : IntKind.u64.wrap (-IntKind.u64.wrap n) = (u : Nat) := by have := Hu.out; rw [wrap_u64, wrap_u64]; omega
        have hnu : n = -(u : Int) := by have := Hu.out; omega
        have Hnu := Lib.hid hnu
        clear hnu hnn
        have hz := Hhrz.out
        simp only [ne_eq, decide_eq_true_eq, decide_eq_false_iff_not, Decidable.not_not] at hz
        go_enter Tryd.func24, Tryd.ntmps24
        go_wp2_with fail
        refine (Hra.out _ (by (repeat (first | exact Fr.refl _ _ | assumption | apply Fr.drewN | apply Fr.drew | apply Fr.alloc | refine Fr.setCell ?_ (Or.inr (by simp; try omega)) _)))).mono ?_
        rintro e w1 ⟨rfl, hf⟩
        have ha_ := (hf.block (w.heap.size) (by first | (simp; done) | (simp; omega)) (by simp)).trans (show _ = some (.cells #[.bool false, .slice a ds.length c] 24 (0, 0)) by (repeat (first | rw [if_pos (by omega)] | rw [if_neg (by omega)] | rw [hp_drew] | rw [hp_drewN] | rw [hp_alloc_size] | rw [hp_setCell_size] | rw [hp_alloc] | rw [hp_setCell] | rw [Option.map_some] | rw [upd_cells] | rw [List.set_cons_zero] | rw [List.set_cons_succ] | rfl)))
        have a0 := heap_eq_cell ha_ 0
        have a1 := heap_eq_cell ha_ 1
        have al := lt_of_block ha_
        have Ha := Lib.hid ha_
        clear ha_
        have hc_ := (hf.block (w.heap.size + 1) (by first | (simp; done) | (simp; omega)) (by simp)).trans (show _ = some (.cells #[.bool false, .slice none 0 0] 24 (0, 0)) by (repeat (first | rw [if_pos (by omega)] | rw [if_neg (by omega)] | rw [hp_drew] | rw [hp_drewN] | rw [hp_alloc_size] | rw [hp_setCell_size] | rw [hp_alloc] | rw [hp_setCell] | rw [Option.map_some] | rw [upd_cells] | rw [List.set_cons_zero] | rw [List.set_cons_succ] | rfl)))
        have c0 := heap_eq_cell hc_ 0
        have c0z := heap_eq_frozen hc_ 0
        have c1 := heap_eq_cell hc_ 1
        have c1z := heap_eq_frozen hc_ 1
        have cl := lt_of_block hc_
        have Hc := Lib.hid hc_
        clear hc_
        have Hf := Lib.hid (Fr.trans0 (by (repeat (first | exact Fr.refl _ _ | assumption | apply Fr.drewN | apply Fr.drew | apply Fr.alloc | refine Fr.setCell ?_ (Or.inr (by simp; try omega)) _)) : Fr [] w _) hf)
        clear hf
        go_wp2_with fail
        refine (Hby.out _ Hf.out).mono ?_
        rintro e w3 ⟨xa, xc, hlo, rfl, hr, hf⟩
        (try clear a0)
        (try clear a1)
        (try clear al)
        have ha_ := (hf.block _ (lt_of_block Ha.out) (by simp)).trans Ha.out
        clear Ha
        have a0 := heap_eq_cell ha_ 0
        have a1 := heap_eq_cell ha_ 1
        have al := lt_of_block ha_
        have Ha := Lib.hid ha_
        clear ha_
        (try clear c0)
        (try clear c1)
        (try clear c0z)
        (try clear c1z)
        (try clear cl)
        have hc_ := (hf.block _ (lt_of_block Hc.out) (by simp)).trans Hc.out
        clear Hc
        have c0 := heap_eq_cell hc_ 0
        have c0z := heap_eq_frozen hc_ 0
        have c1 := heap_eq_cell hc_ 1
        have c1z := heap_eq_frozen hc_ 1
        have cl := lt_of_block hc_
        have Hc := Lib.hid hc_
        clear hc_
        have Hf := Lib.hid (Hf.out.trans0 hf)
        have Hp := Lib.hid (Hpt.out w3 xa xc hr)
        clear hf hlo hr
        go_wp2_with fail
        refine Hp.out.mono ?_
        rintro e w4 ⟨T, ta, tc, hT, hlo, rfl, hr, hf⟩
        (try clear a0)
        (try clear a1)
        (try clear al)
        have ha_ := (hf.block _ (lt_of_block Ha.out) (by simp)).trans Ha.out
        clear Ha
        have a0 := heap_eq_cell ha_ 0
        have a1 := heap_eq_cell ha_ 1
        have al := lt_of_block ha_
        have Ha := Lib.hid ha_
        clear ha_
        (try clear c0)
        (try clear c1)
        (try clear c0z)
        (try clear c1z)
        (try clear cl)
        have hc_ := (hf.block _ (lt_of_block Hc.out) (by simp)).trans Hc.out
        clear Hc
        have c0 := heap_eq_cell hc_ 0
        have c0z := heap_eq_frozen hc_ 0
        have c1 := heap_eq_cell hc_ 1
        have c1z := heap_eq_frozen hc_ 1
        have cl := lt_of_block hc_
        have Hc := Lib.hid hc_
        clear hc_
        have Hf := Lib.hid (Hf.out.trans0 hf)
        have Hr := Lib.hid hr
        have Hrc := Lib.hid hlo.1
        have hTl2 : T.length ≤ 256 := by rw [hT]; exact hTl
        have HTV : Hid (val 256 T = Q) := Lib.hid (by rw [hT]; exact val_dg (by omega) Q)
        have HTD : Hid (Dig 256 T) := Lib.hid (by rw [hT]; exact dg_dig (by omega) Q)
        have Hw4 : Hid (w.heap.size + 1 < w4.heap.size) := Lib.hid cl
        clear hf hlo hr hT hTl
        have hm := HS.out
        simp only [bne_self_eq_false, Bool.false_and, Bool.and_false, Bool.false_eq_true, if_false, if_true, Nat.add_zero, Bool.and_self] at hm
        have Hm := Lib.hid hm
        have hbg := big_calls (neg := true) Hr.out HTD.out (by omega) Hrc.out
        rw [HTV.out] at hbg
        have Hbg := Lib.hid hbg
        have Hw5 := Hw4
        clear hm HS hbg
        go_wp2_with fail
        have hm := Hm.out
        obtain ⟨⟨r1, r2, r3⟩, rr⟩ := r
        have hm1 : mkN true (Q) = (r1, r2, r3) := (congrArg Prod.fst hm).symm
        have hm2 : rr = _ := congrArg Prod.snd hm
        refine Hbg.out.mono ?_
        rintro e w6 ⟨ra, rc, hlo, rfl, hr, hf⟩
        rw [hm1] at hlo hr
        rw [hm1]
        (try clear a0)
        (try clear a1)
        (try clear al)
        have ha_ := (hf.block _ (lt_of_block Ha.out) (by simp)).trans Ha.out
        clear Ha
        have a0 := heap_eq_cell ha_ 0
        have a1 := heap_eq_cell ha_ 1
        have al := lt_of_block ha_
        have Ha := Lib.hid ha_
        clear ha_
        (try clear c0)
        (try clear c1)
        (try clear c0z)
        (try clear c1z)
        (try clear cl)
        have hc_ := (hf.block _ (lt_of_block Hc.out) (by simp)).trans Hc.out
        clear Hc
        have c0 := heap_eq_cell hc_ 0
        have c0z := heap_eq_frozen hc_ 0
        have c1 := heap_eq_cell hc_ 1
        have c1z := heap_eq_frozen hc_ 1
        have cl := lt_of_block hc_
        have Hc := Lib.hid hc_
        clear hc_
        have Hf := Lib.hid (Hf.out.trans0 hf)
        have Hlo6 := Lib.hid hlo
        have Hr6 := Lib.hid hr
        have Hm2 := Lib.hid hm2
        clear hlo hr hf hm hm1 hm2
        go_wp2
        (try simp only [Exit.inBlock, Exit.then])
        refine bodyPost_ret (big_result3 rfl (b := w.heap.size + 1) (x := .bool r1) (y := .slice ra r2.length rc) rfl ?_ rfl rfl) rfl ⟨_, _, ⟨Hlo6.out.1, fun g hg => (by have := Hlo6.out.2 g hg; have := Hw5.out; omega)⟩, ?_, ?_, ?_⟩
        · have h := Hc.out
          (repeat (first | rw [if_pos (by omega)] | rw [if_neg (by omega)] | rw [hp_drew] | rw [hp_drewN] | rw [hp_alloc_size] | rw [hp_setCell_size] | rw [hp_alloc] | rw [hp_setCell] | rw [Option.map_some] | rw [upd_cells] | rw [List.set_cons_zero] | rw [List.set_cons_succ] | rfl))
          first | done | (rw [h]; (repeat (first | rw [if_pos (by omega)] | rw [if_neg (by omega)] | rw [hp_drew] | rw [hp_drewN] | rw [hp_alloc_size] | rw [hp_setCell_size] | rw [hp_alloc] | rw [hp_setCell] | rw [Option.map_some] | rw [upd_cells] | rw [List.set_cons_zero] | rw [List.set_cons_succ] | rfl)))
        · rw [Hm2.out]
          exact ret_int (by have := Hnu.out; first | omega | (simp only [wrap64]; omega) | (simp; done) | (simp; omega))
        · refine Hr6.out.keep fun x hx hl => ?_
          have h1 := Hlo6.out.2 x hx
          have hcl := Hw5.out
          repeat (first | rw [setCell_else _ _ _ (by simp; omega)] | rw [heap_alloc_else _ _ _ (by simp; omega)])
        · repeat (first | exact Hf.out | refine Fr.alloc ?_ _ | refine Fr.setCell ?_ (.inr (by first | (simp; done) | (simp; omega))) _)
      ·
        have hnn := hng
        simp only [decide_eq_true_eq, decide_eq_false_iff_not] at hnn
        have Eu : IntKind.u64.wrap (-IntKind.u64.wrap n) = (u : Nat) := by have := Hu.out; rw [wrap_u64, wrap_u64]; omega
        have hnu : n = -(u : Int) := by have := Hu.out; omega
        have Hnu := Lib.hid hnu
        clear hnu hnn
        have hz := Hhrz.out
        simp only [ne_eq, decide_eq_true_eq, decide_eq_false_iff_not, Decidable.not_not] at hz
        go_enter Tryd.func24, Tryd.ntmps24
        go_wp2_with fail
        refine (Hra.out _ (by (repeat (first | exact Fr.refl _ _ | assumption | apply Fr.drewN | apply Fr.drew | apply Fr.alloc | refine Fr.setCell ?_ (Or.inr (by simp; try omega)) _)))).mono ?_
        rintro e w1 ⟨rfl, hf⟩
        have ha_ := (hf.block (w.heap.size) (by first | (simp; done) | (simp; omega)) (by simp)).trans (show _ = some (.cells #[.bool false, .slice a ds.length c] 24 (0, 0)) by (repeat (first | rw [if_pos (by omega)] | rw [if_neg (by omega)] | rw [hp_drew] | rw [hp_drewN] | rw [hp_alloc_size] | rw [hp_setCell_size] | rw [hp_alloc] | rw [hp_setCell] | rw [Option.map_some] | rw [upd_cells] | rw [List.set_cons_zero] | rw [List.set_cons_succ] | rfl)))
        have a0 := heap_eq_cell ha_ 0
        have a1 := heap_eq_cell ha_ 1
        have al := lt_of_block ha_
        have Ha := Lib.hid ha_
        clear ha_
        have hc_ := (hf.block (w.heap.size + 1) (by first | (simp; done) | (simp; omega)) (by simp)).trans (show _ = some (.cells #[.bool false, .slice none 0 0] 24 (0, 0)) by (repeat (first | rw [if_pos (by omega)] | rw [if_neg (by omega)] | rw [hp_drew] | rw [hp_drewN] | rw [hp_alloc_size] | rw [hp_setCell_size] | rw [hp_alloc] | rw [hp_setCell] | rw [Option.map_some] | rw [upd_cells] | rw [List.set_cons_zero] | rw [List.set_cons_succ] | rfl)))
        have c0 := heap_eq_cell hc_ 0
        have c0z := heap_eq_frozen hc_ 0
        have c1 := heap_eq_cell hc_ 1
        have c1z := heap_eq_frozen hc_ 1
        have cl := lt_of_block hc_
        have Hc := Lib.hid hc_
        clear hc_
        have Hf := Lib.hid (Fr.trans0 (by (repeat (first | exact Fr.refl _ _ | assumption | apply Fr.drewN | apply Fr.drew | apply Fr.alloc | refine Fr.setCell ?_ (Or.inr (by simp; try omega)) _)) : Fr [] w _) hf)
        clear hf
        go_wp2_with fail
        refine (Hby.out _ Hf.out).mono ?_
        rintro e w3 ⟨xa, xc, hlo, rfl, hr, hf⟩
        (try clear a0)
        (try clear a1)
        (try clear al)
        have ha_ := (hf.block _ (lt_of_block Ha.out) (by simp)).trans Ha.out
        clear Ha
        have a0 := heap_eq_cell ha_ 0
        have a1 := heap_eq_cell ha_ 1
        have al := lt_of_block ha_
        have Ha := Lib.hid ha_
        clear ha_
        (try clear c0)
        (try clear c1)
        (try clear c0z)
        (try clear c1z)
        (try clear cl)
        have hc_ := (hf.block _ (lt_of_block Hc.out) (by simp)).trans Hc.out
        clear Hc
        have c0 := heap_eq_cell hc_ 0
        have c0z := heap_eq_frozen hc_ 0
        have c1 := heap_eq_cell hc_ 1
        have c1z := heap_eq_frozen hc_ 1
        have cl := lt_of_block hc_
        have Hc := Lib.hid hc_
        clear hc_
        have Hf := Lib.hid (Hf.out.trans0 hf)
        have Hp := Lib.hid (Hpt.out w3 xa xc hr)
        clear hf hlo hr
        go_wp2_with fail
        refine Hp.out.mono ?_
        rintro e w4 ⟨T, ta, tc, hT, hlo, rfl, hr, hf⟩
        (try clear a0)
        (try clear a1)
        (try clear al)
        have ha_ := (hf.block _ (lt_of_block Ha.out) (by simp)).trans Ha.out
        clear Ha
        have a0 := heap_eq_cell ha_ 0
        have a1 := heap_eq_cell ha_ 1
        have al := lt_of_block ha_
        have Ha := Lib.hid ha_
        clear ha_
        (try clear c0)
        (try clear c1)
        (try clear c0z)
        (try clear c1z)
        (try clear cl)
        have hc_ := (hf.block _ (lt_of_block Hc.out) (by simp)).trans Hc.out
        clear Hc
        have c0 := heap_eq_cell hc_ 0
        have c0z := heap_eq_frozen hc_ 0
        have c1 := heap_eq_cell hc_ 1
        have c1z := heap_eq_frozen hc_ 1
        have cl := lt_of_block hc_
        have Hc := Lib.hid hc_
        clear hc_
        have Hf := Lib.hid (Hf.out.trans0 hf)
        have Hr := Lib.hid hr
        have Hrc := Lib.hid hlo.1
        have hTl2 : T.length ≤ 256 := by rw [hT]; exact hTl
        have HTV : Hid (val 256 T = Q) := Lib.hid (by rw [hT]; exact val_dg (by omega) Q)
        have HTD : Hid (Dig 256 T) := Lib.hid (by rw [hT]; exact dg_dig (by omega) Q)
        have Hw4 : Hid (w.heap.size + 1 < w4.heap.size) := Lib.hid cl
        clear hf hlo hr hT hTl
        have hm := HS.out
        simp only [show (true != false) = true from rfl, show (false != true) = true from rfl, Bool.and_self, if_true, if_false, Bool.false_eq_true] at hm
        have Hm := Lib.hid hm
        clear hm HS
        go_wp2_with fail
        refine (rplus_calls (Hr.out.fr (by (repeat (first | exact Fr.refl _ _ | assumption | apply Fr.drewN | apply Fr.drew | apply Fr.alloc | refine Fr.setCell ?_ (Or.inr (by simp; try omega)) _)))) (reads_blk (cs := i64s [1]) (by (repeat (first | rw [if_pos (by omega)] | rw [if_neg (by omega)] | rw [hp_drew] | rw [hp_drewN] | rw [hp_alloc_size] | rw [hp_setCell_size] | rw [hp_alloc] | rw [hp_setCell] | rw [Option.map_some] | rw [upd_cells] | rw [List.set_cons_zero] | rw [List.set_cons_succ] | rfl))) rfl) HTD.out (db := [1]) (fun x hx => by simp at hx; omega) (by omega) (by simp)).mono ?_
        rintro e w5 ⟨L, hLD, hLV, hLl, la, lc, hlo, rfl, hr, hf0⟩
        have hf : Fr [] w4 w5 := Fr.trans0 (by (repeat (first | exact Fr.refl _ _ | assumption | apply Fr.drewN | apply Fr.drew | apply Fr.alloc | refine Fr.setCell ?_ (Or.inr (by simp; try omega)) _))) hf0
        (try clear a0)
        (try clear a1)
        (try clear al)
        have ha_ := (hf.block _ (lt_of_block Ha.out) (by simp)).trans Ha.out
        clear Ha
        have a0 := heap_eq_cell ha_ 0
        have a1 := heap_eq_cell ha_ 1
        have al := lt_of_block ha_
        have Ha := Lib.hid ha_
        clear ha_
        (try clear c0)
        (try clear c1)
        (try clear c0z)
        (try clear c1z)
        (try clear cl)
        have hc_ := (hf.block _ (lt_of_block Hc.out) (by simp)).trans Hc.out
        clear Hc
        have c0 := heap_eq_cell hc_ 0
        have c0z := heap_eq_frozen hc_ 0
        have c1 := heap_eq_cell hc_ 1
        have c1z := heap_eq_frozen hc_ 1
        have cl := lt_of_block hc_
        have Hc := Lib.hid hc_
        clear hc_
        have Hf := Lib.hid (Hf.out.trans0 hf)
        rw [HTV.out, show val 256 [1] = 1 by rfl] at hLV
        have hbg := big_calls (neg := true) hr hLD (by simp at hLl; omega) hlo.1
        rw [hLV] at hbg
        have Hbg := Lib.hid hbg
        have Hw5 := Lib.hid (show w.heap.size + 1 < w5.heap.size by have := Hw4.out; have := hf.size; omega)
        clear hf hf0 hr hlo hLD hLV hLl hbg
        go_wp2_with fail
        have hm := Hm.out
        obtain ⟨⟨r1, r2, r3⟩, rr⟩ := r
        have hm1 : mkN true (Q+1) = (r1, r2, r3) := (congrArg Prod.fst hm).symm
        have hm2 : rr = _ := congrArg Prod.snd hm
        refine Hbg.out.mono ?_
        rintro e w6 ⟨ra, rc, hlo, rfl, hr, hf⟩
        rw [hm1] at hlo hr
        rw [hm1]
        (try clear a0)
        (try clear a1)
        (try clear al)
        have ha_ := (hf.block _ (lt_of_block Ha.out) (by simp)).trans Ha.out
        clear Ha
        have a0 := heap_eq_cell ha_ 0
        have a1 := heap_eq_cell ha_ 1
        have al := lt_of_block ha_
        have Ha := Lib.hid ha_
        clear ha_
        (try clear c0)
        (try clear c1)
        (try clear c0z)
        (try clear c1z)
        (try clear cl)
        have hc_ := (hf.block _ (lt_of_block Hc.out) (by simp)).trans Hc.out
        clear Hc
        have c0 := heap_eq_cell hc_ 0
        have c0z := heap_eq_frozen hc_ 0
        have c1 := heap_eq_cell hc_ 1
        have c1z := heap_eq_frozen hc_ 1
        have cl := lt_of_block hc_
        have Hc := Lib.hid hc_
        clear hc_
        have Hf := Lib.hid (Hf.out.trans0 hf)
        have Hlo6 := Lib.hid hlo
        have Hr6 := Lib.hid hr
        have Hm2 := Lib.hid hm2
        clear hlo hr hf hm hm1 hm2
        go_wp2
        (try simp only [Exit.inBlock, Exit.then])
        refine bodyPost_ret (big_result3 rfl (b := w.heap.size + 1) (x := .bool r1) (y := .slice ra r2.length rc) rfl ?_ rfl rfl) rfl ⟨_, _, ⟨Hlo6.out.1, fun g hg => (by have := Hlo6.out.2 g hg; have := Hw5.out; omega)⟩, ?_, ?_, ?_⟩
        · have h := Hc.out
          (repeat (first | rw [if_pos (by omega)] | rw [if_neg (by omega)] | rw [hp_drew] | rw [hp_drewN] | rw [hp_alloc_size] | rw [hp_setCell_size] | rw [hp_alloc] | rw [hp_setCell] | rw [Option.map_some] | rw [upd_cells] | rw [List.set_cons_zero] | rw [List.set_cons_succ] | rfl))
          first | done | (rw [h]; (repeat (first | rw [if_pos (by omega)] | rw [if_neg (by omega)] | rw [hp_drew] | rw [hp_drewN] | rw [hp_alloc_size] | rw [hp_setCell_size] | rw [hp_alloc] | rw [hp_setCell] | rw [Option.map_some] | rw [upd_cells] | rw [List.set_cons_zero] | rw [List.set_cons_succ] | rfl)))
        · rw [Hm2.out]
          exact ret_int (by have := Hnu.out; first | omega | (simp only [wrap64]; omega) | (simp; done) | (simp; omega))
        · refine Hr6.out.keep fun x hx hl => ?_
          have h1 := Hlo6.out.2 x hx
          have hcl := Hw5.out
          repeat (first | rw [setCell_else _ _ _ (by simp; omega)] | rw [heap_alloc_else _ _ _ (by simp; omega)])
        · repeat (first | exact Hf.out | refine Fr.alloc ?_ _ | refine Fr.setCell ?_ (.inr (by first | (simp; done) | (simp; omega))) _)
      ·
        have hnn := hng
        simp only [decide_eq_true_eq, decide_eq_false_iff_not] at hnn
        have Eu : IntKind.u64.wrap n = (u : Nat) := by have := Hu.out; rw [wrap_u64]; omega
        have hnu : n = (u : Int) := by have := Hu.out; omega
        have Hnu := Lib.hid hnu
        clear hnu hnn
        have hz := Hhrz.out
        simp only [ne_eq, decide_eq_true_eq, decide_eq_false_iff_not, Decidable.not_not] at hz
        go_enter Tryd.func24, Tryd.ntmps24
        go_wp2_with fail
        refine (Hra.out _ (by (repeat (first | exact Fr.refl _ _ | assumption | apply Fr.drewN | apply Fr.drew | apply Fr.alloc | refine Fr.setCell ?_ (Or.inr (by simp; try omega)) _)))).mono ?_
        rintro e w1 ⟨rfl, hf⟩
        have ha_ := (hf.block (w.heap.size) (by first | (simp; done) | (simp; omega)) (by simp)).trans (show _ = some (.cells #[.bool true, .slice a ds.length c] 24 (0, 0)) by (repeat (first | rw [if_pos (by omega)] | rw [if_neg (by omega)] | rw [hp_drew] | rw [hp_drewN] | rw [hp_alloc_size] | rw [hp_setCell_size] | rw [hp_alloc] | rw [hp_setCell] | rw [Option.map_some] | rw [upd_cells] | rw [List.set_cons_zero] | rw [List.set_cons_succ] | rfl)))
        have a0 := heap_eq_cell ha_ 0
        have a1 := heap_eq_cell ha_ 1
        have al := lt_of_block ha_
        have Ha := Lib.hid ha_
        clear ha_
        have hc_ := (hf.block (w.heap.size + 1) (by first | (simp; done) | (simp; omega)) (by simp)).trans (show _ = some (.cells #[.bool false, .slice none 0 0] 24 (0, 0)) by (repeat (first | rw [if_pos (by omega)] | rw [if_neg (by omega)] | rw [hp_drew] | rw [hp_drewN] | rw [hp_alloc_size] | rw [hp_setCell_size] | rw [hp_alloc] | rw [hp_setCell] | rw [Option.map_some] | rw [upd_cells] | rw [List.set_cons_zero] | rw [List.set_cons_succ] | rfl)))
        have c0 := heap_eq_cell hc_ 0
        have c0z := heap_eq_frozen hc_ 0
        have c1 := heap_eq_cell hc_ 1
        have c1z := heap_eq_frozen hc_ 1
        have cl := lt_of_block hc_
        have Hc := Lib.hid hc_
        clear hc_
        have Hf := Lib.hid (Fr.trans0 (by (repeat (first | exact Fr.refl _ _ | assumption | apply Fr.drewN | apply Fr.drew | apply Fr.alloc | refine Fr.setCell ?_ (Or.inr (by simp; try omega)) _)) : Fr [] w _) hf)
        clear hf
        go_wp2_with fail
        refine (Hby.out _ Hf.out).mono ?_
        rintro e w3 ⟨xa, xc, hlo, rfl, hr, hf⟩
        (try clear a0)
        (try clear a1)
        (try clear al)
        have ha_ := (hf.block _ (lt_of_block Ha.out) (by simp)).trans Ha.out
        clear Ha
        have a0 := heap_eq_cell ha_ 0
        have a1 := heap_eq_cell ha_ 1
        have al := lt_of_block ha_
        have Ha := Lib.hid ha_
        clear ha_
        (try clear c0)
        (try clear c1)
        (try clear c0z)
        (try clear c1z)
        (try clear cl)
        have hc_ := (hf.block _ (lt_of_block Hc.out) (by simp)).trans Hc.out
        clear Hc
        have c0 := heap_eq_cell hc_ 0
        have c0z := heap_eq_frozen hc_ 0
        have c1 := heap_eq_cell hc_ 1
        have c1z := heap_eq_frozen hc_ 1
        have cl := lt_of_block hc_
        have Hc := Lib.hid hc_
        clear hc_
        have Hf := Lib.hid (Hf.out.trans0 hf)
        have Hp := Lib.hid (Hpt.out w3 xa xc hr)
        clear hf hlo hr
        go_wp2_with fail
        refine Hp.out.mono ?_
        rintro e w4 ⟨T, ta, tc, hT, hlo, rfl, hr, hf⟩
        (try clear a0)
        (try clear a1)
        (try clear al)
        have ha_ := (hf.block _ (lt_of_block Ha.out) (by simp)).trans Ha.out
        clear Ha
        have a0 := heap_eq_cell ha_ 0
        have a1 := heap_eq_cell ha_ 1
        have al := lt_of_block ha_
        have Ha := Lib.hid ha_
        clear ha_
        (try clear c0)
        (try clear c1)
        (try clear c0z)
        (try clear c1z)
        (try clear cl)
        have hc_ := (hf.block _ (lt_of_block Hc.out) (by simp)).trans Hc.out
        clear Hc
        have c0 := heap_eq_cell hc_ 0
        have c0z := heap_eq_frozen hc_ 0
        have c1 := heap_eq_cell hc_ 1
        have c1z := heap_eq_frozen hc_ 1
        have cl := lt_of_block hc_
        have Hc := Lib.hid hc_
        clear hc_
        have Hf := Lib.hid (Hf.out.trans0 hf)
        have Hr := Lib.hid hr
        have Hrc := Lib.hid hlo.1
        have hTl2 : T.length ≤ 256 := by rw [hT]; exact hTl
        have HTV : Hid (val 256 T = Q) := Lib.hid (by rw [hT]; exact val_dg (by omega) Q)
        have HTD : Hid (Dig 256 T) := Lib.hid (by rw [hT]; exact dg_dig (by omega) Q)
        have Hw4 : Hid (w.heap.size + 1 < w4.heap.size) := Lib.hid cl
        clear hf hlo hr hT hTl
        have hm := HS.out
        simp only [bne_self_eq_false, Bool.false_and, Bool.and_false, Bool.false_eq_true, if_false, if_true, Nat.add_zero, Bool.and_self] at hm
        have Hm := Lib.hid hm
        have hbg := big_calls (neg := true) Hr.out HTD.out (by omega) Hrc.out
        rw [HTV.out] at hbg
        have Hbg := Lib.hid hbg
        have Hw5 := Hw4
        clear hm HS hbg
        go_wp2_with fail
        have hm := Hm.out
        obtain ⟨⟨r1, r2, r3⟩, rr⟩ := r
        have hm1 : mkN true (Q) = (r1, r2, r3) := (congrArg Prod.fst hm).symm
        have hm2 : rr = _ := congrArg Prod.snd hm
        refine Hbg.out.mono ?_
        rintro e w6 ⟨ra, rc, hlo, rfl, hr, hf⟩
        rw [hm1] at hlo hr
        rw [hm1]
        (try clear a0)
        (try clear a1)
        (try clear al)
        have ha_ := (hf.block _ (lt_of_block Ha.out) (by simp)).trans Ha.out
        clear Ha
        have a0 := heap_eq_cell ha_ 0
        have a1 := heap_eq_cell ha_ 1
        have al := lt_of_block ha_
        have Ha := Lib.hid ha_
        clear ha_
        (try clear c0)
        (try clear c1)
        (try clear c0z)
        (try clear c1z)
        (try clear cl)
        have hc_ := (hf.block _ (lt_of_block Hc.out) (by simp)).trans Hc.out
        clear Hc
        have c0 := heap_eq_cell hc_ 0
        have c0z := heap_eq_frozen hc_ 0
        have c1 := heap_eq_cell hc_ 1
        have c1z := heap_eq_frozen hc_ 1
        have cl := lt_of_block hc_
        have Hc := Lib.hid hc_
        clear hc_
        have Hf := Lib.hid (Hf.out.trans0 hf)
        have Hlo6 := Lib.hid hlo
        have Hr6 := Lib.hid hr
        have Hm2 := Lib.hid hm2
        clear hlo hr hf hm hm1 hm2
        go_wp2
        (try simp only [Exit.inBlock, Exit.then])
        refine bodyPost_ret (big_result3 rfl (b := w.heap.size + 1) (x := .bool r1) (y := .slice ra r2.length rc) rfl ?_ rfl rfl) rfl ⟨_, _, ⟨Hlo6.out.1, fun g hg => (by have := Hlo6.out.2 g hg; have := Hw5.out; omega)⟩, ?_, ?_, ?_⟩
        · have h := Hc.out
          (repeat (first | rw [if_pos (by omega)] | rw [if_neg (by omega)] | rw [hp_drew] | rw [hp_drewN] | rw [hp_alloc_size] | rw [hp_setCell_size] | rw [hp_alloc] | rw [hp_setCell] | rw [Option.map_some] | rw [upd_cells] | rw [List.set_cons_zero] | rw [List.set_cons_succ] | rfl))
          first | done | (rw [h]; (repeat (first | rw [if_pos (by omega)] | rw [if_neg (by omega)] | rw [hp_drew] | rw [hp_drewN] | rw [hp_alloc_size] | rw [hp_setCell_size] | rw [hp_alloc] | rw [hp_setCell] | rw [Option.map_some] | rw [upd_cells] | rw [List.set_cons_zero] | rw [List.set_cons_succ] | rfl)))
        · rw [Hm2.out]
          exact ret_int (by have := Hnu.out; first | omega | (simp only [wrap64]; omega) | (simp; done) | (simp; omega))
        · refine Hr6.out.keep fun x hx hl => ?_
          have h1 := Hlo6.out.2 x hx
          have hcl := Hw5.out
          repeat (first | rw [setCell_else _ _ _ (by simp; omega)] | rw [heap_alloc_else _ _ _ (by simp; omega)])
        · repeat (first | exact Hf.out | refine Fr.alloc ?_ _ | refine Fr.setCell ?_ (.inr (by first | (simp; done) | (simp; omega))) _)
      ·
        have hnn := hng
        simp only [decide_eq_true_eq, decide_eq_false_iff_not] at hnn
        have Eu : IntKind.u64.wrap n = (u : Nat) := by have := Hu.out; rw [wrap_u64]; omega
        have hnu : n = (u : Int) := by have := Hu.out; omega
        have Hnu := Lib.hid hnu
        clear hnu hnn
        have hz := Hhrz.out
        simp only [ne_eq, decide_eq_true_eq, decide_eq_false_iff_not, Decidable.not_not] at hz
        go_enter Tryd.func24, Tryd.ntmps24
        go_wp2_with fail
        refine (Hra.out _ (by (repeat (first | exact Fr.refl _ _ | assumption | apply Fr.drewN | apply Fr.drew | apply Fr.alloc | refine Fr.setCell ?_ (Or.inr (by simp; try omega)) _)))).mono ?_
        rintro e w1 ⟨rfl, hf⟩
        have ha_ := (hf.block (w.heap.size) (by first | (simp; done) | (simp; omega)) (by simp)).trans (show _ = some (.cells #[.bool true, .slice a ds.length c] 24 (0, 0)) by (repeat (first | rw [if_pos (by omega)] | rw [if_neg (by omega)] | rw [hp_drew] | rw [hp_drewN] | rw [hp_alloc_size] | rw [hp_setCell_size] | rw [hp_alloc] | rw [hp_setCell] | rw [Option.map_some] | rw [upd_cells] | rw [List.set_cons_zero] | rw [List.set_cons_succ] | rfl)))
        have a0 := heap_eq_cell ha_ 0
        have a1 := heap_eq_cell ha_ 1
        have al := lt_of_block ha_
        have Ha := Lib.hid ha_
        clear ha_
        have hc_ := (hf.block (w.heap.size + 1) (by first | (simp; done) | (simp; omega)) (by simp)).trans (show _ = some (.cells #[.bool false, .slice none 0 0] 24 (0, 0)) by (repeat (first | rw [if_pos (by omega)] | rw [if_neg (by omega)] | rw [hp_drew] | rw [hp_drewN] | rw [hp_alloc_size] | rw [hp_setCell_size] | rw [hp_alloc] | rw [hp_setCell] | rw [Option.map_some] | rw [upd_cells] | rw [List.set_cons_zero] | rw [List.set_cons_succ] | rfl)))
        have c0 := heap_eq_cell hc_ 0
        have c0z := heap_eq_frozen hc_ 0
        have c1 := heap_eq_cell hc_ 1
        have c1z := heap_eq_frozen hc_ 1
        have cl := lt_of_block hc_
        have Hc := Lib.hid hc_
        clear hc_
        have Hf := Lib.hid (Fr.trans0 (by (repeat (first | exact Fr.refl _ _ | assumption | apply Fr.drewN | apply Fr.drew | apply Fr.alloc | refine Fr.setCell ?_ (Or.inr (by simp; try omega)) _)) : Fr [] w _) hf)
        clear hf
        go_wp2_with fail
        refine (Hby.out _ Hf.out).mono ?_
        rintro e w3 ⟨xa, xc, hlo, rfl, hr, hf⟩
        (try clear a0)
        (try clear a1)
        (try clear al)
        have ha_ := (hf.block _ (lt_of_block Ha.out) (by simp)).trans Ha.out
        clear Ha
        have a0 := heap_eq_cell ha_ 0
        have a1 := heap_eq_cell ha_ 1
        have al := lt_of_block ha_
        have Ha := Lib.hid ha_
        clear ha_
        (try clear c0)
        (try clear c1)
        (try clear c0z)
        (try clear c1z)
        (try clear cl)
        have hc_ := (hf.block _ (lt_of_block Hc.out) (by simp)).trans Hc.out
        clear Hc
        have c0 := heap_eq_cell hc_ 0
        have c0z := heap_eq_frozen hc_ 0
        have c1 := heap_eq_cell hc_ 1
        have c1z := heap_eq_frozen hc_ 1
        have cl := lt_of_block hc_
        have Hc := Lib.hid hc_
        clear hc_
        have Hf := Lib.hid (Hf.out.trans0 hf)
        have Hp := Lib.hid (Hpt.out w3 xa xc hr)
        clear hf hlo hr
        go_wp2_with fail
        refine Hp.out.mono ?_
        rintro e w4 ⟨T, ta, tc, hT, hlo, rfl, hr, hf⟩
        (try clear a0)
        (try clear a1)
        (try clear al)
        have ha_ := (hf.block _ (lt_of_block Ha.out) (by simp)).trans Ha.out
        clear Ha
        have a0 := heap_eq_cell ha_ 0
        have a1 := heap_eq_cell ha_ 1
        have al := lt_of_block ha_
        have Ha := Lib.hid ha_
        clear ha_
        (try clear c0)
        (try clear c1)
        (try clear c0z)
        (try clear c1z)
        (try clear cl)
        have hc_ := (hf.block _ (lt_of_block Hc.out) (by simp)).trans Hc.out
        clear Hc
        have c0 := heap_eq_cell hc_ 0
        have c0z := heap_eq_frozen hc_ 0
        have c1 := heap_eq_cell hc_ 1
        have c1z := heap_eq_frozen hc_ 1
        have cl := lt_of_block hc_
        have Hc := Lib.hid hc_
        clear hc_
        have Hf := Lib.hid (Hf.out.trans0 hf)
        have Hr := Lib.hid hr
        have Hrc := Lib.hid hlo.1
        have hTl2 : T.length ≤ 256 := by rw [hT]; exact hTl
        have HTV : Hid (val 256 T = Q) := Lib.hid (by rw [hT]; exact val_dg (by omega) Q)
        have HTD : Hid (Dig 256 T) := Lib.hid (by rw [hT]; exact dg_dig (by omega) Q)
        have Hw4 : Hid (w.heap.size + 1 < w4.heap.size) := Lib.hid cl
        clear hf hlo hr hT hTl
        have hm := HS.out
        simp only [show (true != false) = true from rfl, show (false != true) = true from rfl, Bool.and_self, if_true, if_false, Bool.false_eq_true] at hm
        have Hm := Lib.hid hm
        clear hm HS
        go_wp2_with fail
        refine (rplus_calls (Hr.out.fr (by (repeat (first | exact Fr.refl _ _ | assumption | apply Fr.drewN | apply Fr.drew | apply Fr.alloc | refine Fr.setCell ?_ (Or.inr (by simp; try omega)) _)))) (reads_blk (cs := i64s [1]) (by (repeat (first | rw [if_pos (by omega)] | rw [if_neg (by omega)] | rw [hp_drew] | rw [hp_drewN] | rw [hp_alloc_size] | rw [hp_setCell_size] | rw [hp_alloc] | rw [hp_setCell] | rw [Option.map_some] | rw [upd_cells] | rw [List.set_cons_zero] | rw [List.set_cons_succ] | rfl))) rfl) HTD.out (db := [1]) (fun x hx => by simp at hx; omega) (by omega) (by simp)).mono ?_
        rintro e w5 ⟨L, hLD, hLV, hLl, la, lc, hlo, rfl, hr, hf0⟩
        have hf : Fr [] w4 w5 := Fr.trans0 (by (repeat (first | exact Fr.refl _ _ | assumption | apply Fr.drewN | apply Fr.drew | apply Fr.alloc | refine Fr.setCell ?_ (Or.inr (by simp; try omega)) _))) hf0
        (try clear a0)
        (try clear a1)
        (try clear al)
        have ha_ := (hf.block _ (lt_of_block Ha.out) (by simp)).trans Ha.out
        clear Ha
        have a0 := heap_eq_cell ha_ 0
        have a1 := heap_eq_cell ha_ 1
        have al := lt_of_block ha_
        have Ha := Lib.hid ha_
        clear ha_
        (try clear c0)
        (try clear c1)
        (try clear c0z)
        (try clear c1z)
        (try clear cl)
        have hc_ := (hf.block _ (lt_of_block Hc.out) (by simp)).trans Hc.out
        clear Hc
        have c0 := heap_eq_cell hc_ 0
        have c0z := heap_eq_frozen hc_ 0
        have c1 := heap_eq_cell hc_ 1
        have c1z := heap_eq_frozen hc_ 1
        have cl := lt_of_block hc_
        have Hc := Lib.hid hc_
        clear hc_
        have Hf := Lib.hid (Hf.out.trans0 hf)
        rw [HTV.out, show val 256 [1] = 1 by rfl] at hLV
        have hbg := big_calls (neg := true) hr hLD (by simp at hLl; omega) hlo.1
        rw [hLV] at hbg
        have Hbg := Lib.hid hbg
        have Hw5 := Lib.hid (show w.heap.size + 1 < w5.heap.size by have := Hw4.out; have := hf.size; omega)
        clear hf hf0 hr hlo hLD hLV hLl hbg
        go_wp2_with fail
        have hm := Hm.out
        obtain ⟨⟨r1, r2, r3⟩, rr⟩ := r
        have hm1 : mkN true (Q+1) = (r1, r2, r3) := (congrArg Prod.fst hm).symm
        have hm2 : rr = _ := congrArg Prod.snd hm
        refine Hbg.out.mono ?_
        rintro e w6 ⟨ra, rc, hlo, rfl, hr, hf⟩
        rw [hm1] at hlo hr
        rw [hm1]
        (try clear a0)
        (try clear a1)
        (try clear al)
        have ha_ := (hf.block _ (lt_of_block Ha.out) (by simp)).trans Ha.out
        clear Ha
        have a0 := heap_eq_cell ha_ 0
        have a1 := heap_eq_cell ha_ 1
        have al := lt_of_block ha_
        have Ha := Lib.hid ha_
        clear ha_
        (try clear c0)
        (try clear c1)
        (try clear c0z)
        (try clear c1z)
        (try clear cl)
        have hc_ := (hf.block _ (lt_of_block Hc.out) (by simp)).trans Hc.out
        clear Hc
        have c0 := heap_eq_cell hc_ 0
        have c0z := heap_eq_frozen hc_ 0
        have c1 := heap_eq_cell hc_ 1
        have c1z := heap_eq_frozen hc_ 1
        have cl := lt_of_block hc_
        have Hc := Lib.hid hc_
        clear hc_
        have Hf := Lib.hid (Hf.out.trans0 hf)
        have Hlo6 := Lib.hid hlo
        have Hr6 := Lib.hid hr
        have Hm2 := Lib.hid hm2
        clear hlo hr hf hm hm1 hm2
        go_wp2
        (try simp only [Exit.inBlock, Exit.then])
        refine bodyPost_ret (big_result3 rfl (b := w.heap.size + 1) (x := .bool r1) (y := .slice ra r2.length rc) rfl ?_ rfl rfl) rfl ⟨_, _, ⟨Hlo6.out.1, fun g hg => (by have := Hlo6.out.2 g hg; have := Hw5.out; omega)⟩, ?_, ?_, ?_⟩
        · have h := Hc.out
          (repeat (first | rw [if_pos (by omega)] | rw [if_neg (by omega)] | rw [hp_drew] | rw [hp_drewN] | rw [hp_alloc_size] | rw [hp_setCell_size] | rw [hp_alloc] | rw [hp_setCell] | rw [Option.map_some] | rw [upd_cells] | rw [List.set_cons_zero] | rw [List.set_cons_succ] | rfl))
          first | done | (rw [h]; (repeat (first | rw [if_pos (by omega)] | rw [if_neg (by omega)] | rw [hp_drew] | rw [hp_drewN] | rw [hp_alloc_size] | rw [hp_setCell_size] | rw [hp_alloc] | rw [hp_setCell] | rw [Option.map_some] | rw [upd_cells] | rw [List.set_cons_zero] | rw [List.set_cons_succ] | rfl)))
        · rw [Hm2.out]
          exact ret_int (by have := Hnu.out; first | omega | (simp only [wrap64]; omega) | (simp; done) | (simp; omega))
        · refine Hr6.out.keep fun x hx hl => ?_
          have h1 := Hlo6.out.2 x hx
          have hcl := Hw5.out
          repeat (first | rw [setCell_else _ _ _ (by simp; omega)] | rw [heap_alloc_else _ _ _ (by simp; omega)])
        · repeat (first | exact Hf.out | refine Fr.alloc ?_ _ | refine Fr.setCell ?_ (.inr (by first | (simp; done) | (simp; omega))) _)
      ·
        have hnn := hng
        simp only [decide_eq_true_eq, decide_eq_false_iff_not] at hnn
        have Eu : IntKind.u64.wrap (-IntKind.u64.wrap n) = (u : Nat) := by have := Hu.out; rw [wrap_u64, wrap_u64]; omega
        have hnu : n = -(u : Int) := by have := Hu.out; omega
        have Hnu := Lib.hid hnu
        clear hnu hnn
        have hz := Hhrz.out
        simp only [ne_eq, decide_eq_true_eq, decide_eq_false_iff_not, Decidable.not_not] at hz
        go_enter Tryd.func24, Tryd.ntmps24
        go_wp2_with fail
        refine (Hra.out _ (by (repeat (first | exact Fr.refl _ _ | assumption | apply Fr.drewN | apply Fr.drew | apply Fr.alloc | refine Fr.setCell ?_ (Or.inr (by simp; try omega)) _)))).mono ?_
        rintro e w1 ⟨rfl, hf⟩
        have ha_ := (hf.block (w.heap.size) (by first | (simp; done) | (simp; omega)) (by simp)).trans (show _ = some (.cells #[.bool true, .slice a ds.length c] 24 (0, 0)) by (repeat (first | rw [if_pos (by omega)] | rw [if_neg (by omega)] | rw [hp_drew] | rw [hp_drewN] | rw [hp_alloc_size] | rw [hp_setCell_size] | rw [hp_alloc] | rw [hp_setCell] | rw [Option.map_some] | rw [upd_cells] | rw [List.set_cons_zero] | rw [List.set_cons_succ] | rfl)))
        have a0 := heap_eq_cell ha_ 0
        have a1 := heap_eq_cell ha_ 1
        have al := lt_of_block ha_
        have Ha := Lib.hid ha_
        clear ha_
        have hc_ := (hf.block (w.heap.size + 1) (by first | (simp; done) | (simp; omega)) (by simp)).trans (show _ = some (.cells #[.bool false, .slice none 0 0] 24 (0, 0)) by (repeat (first | rw [if_pos (by omega)] | rw [if_neg (by omega)] | rw [hp_drew] | rw [hp_drewN] | rw [hp_alloc_size] | rw [hp_setCell_size] | rw [hp_alloc] | rw [hp_setCell] | rw [Option.map_some] | rw [upd_cells] | rw [List.set_cons_zero] | rw [List.set_cons_succ] | rfl)))
        have c0 := heap_eq_cell hc_ 0
        have c0z := heap_eq_frozen hc_ 0
        have c1 := heap_eq_cell hc_ 1
        have c1z := heap_eq_frozen hc_ 1
        have cl := lt_of_block hc_
        have Hc := Lib.hid hc_
        clear hc_
        have Hf := Lib.hid (Fr.trans0 (by (repeat (first | exact Fr.refl _ _ | assumption | apply Fr.drewN | apply Fr.drew | apply Fr.alloc | refine Fr.setCell ?_ (Or.inr (by simp; try omega)) _)) : Fr [] w _) hf)
        clear hf
        go_wp2_with fail
        refine (Hby.out _ Hf.out).mono ?_
        rintro e w3 ⟨xa, xc, hlo, rfl, hr, hf⟩
        (try clear a0)
        (try clear a1)
        (try clear al)
        have ha_ := (hf.block _ (lt_of_block Ha.out) (by simp)).trans Ha.out
        clear Ha
        have a0 := heap_eq_cell ha_ 0
        have a1 := heap_eq_cell ha_ 1
        have al := lt_of_block ha_
        have Ha := Lib.hid ha_
        clear ha_
        (try clear c0)
        (try clear c1)
        (try clear c0z)
        (try clear c1z)
        (try clear cl)
        have hc_ := (hf.block _ (lt_of_block Hc.out) (by simp)).trans Hc.out
        clear Hc
        have c0 := heap_eq_cell hc_ 0
        have c0z := heap_eq_frozen hc_ 0
        have c1 := heap_eq_cell hc_ 1
        have c1z := heap_eq_frozen hc_ 1
        have cl := lt_of_block hc_
        have Hc := Lib.hid hc_
        clear hc_
        have Hf := Lib.hid (Hf.out.trans0 hf)
        have Hp := Lib.hid (Hpt.out w3 xa xc hr)
        clear hf hlo hr
        go_wp2_with fail
        refine Hp.out.mono ?_
        rintro e w4 ⟨T, ta, tc, hT, hlo, rfl, hr, hf⟩
        (try clear a0)
        (try clear a1)
        (try clear al)
        have ha_ := (hf.block _ (lt_of_block Ha.out) (by simp)).trans Ha.out
        clear Ha
        have a0 := heap_eq_cell ha_ 0
        have a1 := heap_eq_cell ha_ 1
        have al := lt_of_block ha_
        have Ha := Lib.hid ha_
        clear ha_
        (try clear c0)
        (try clear c1)
        (try clear c0z)
        (try clear c1z)
        (try clear cl)
        have hc_ := (hf.block _ (lt_of_block Hc.out) (by simp)).trans Hc.out
        clear Hc
        have c0 := heap_eq_cell hc_ 0
        have c0z := heap_eq_frozen hc_ 0
        have c1 := heap_eq_cell hc_ 1
        have c1z := heap_eq_frozen hc_ 1
        have cl := lt_of_block hc_
        have Hc := Lib.hid hc_
        clear hc_
        have Hf := Lib.hid (Hf.out.trans0 hf)
        have Hr := Lib.hid hr
        have Hrc := Lib.hid hlo.1
        have hTl2 : T.length ≤ 256 := by rw [hT]; exact hTl
        have HTV : Hid (val 256 T = Q) := Lib.hid (by rw [hT]; exact val_dg (by omega) Q)
        have HTD : Hid (Dig 256 T) := Lib.hid (by rw [hT]; exact dg_dig (by omega) Q)
        have Hw4 : Hid (w.heap.size + 1 < w4.heap.size) := Lib.hid cl
        clear hf hlo hr hT hTl
        have hm := HS.out
        simp only [bne_self_eq_false, Bool.false_and, Bool.and_false, Bool.false_eq_true, if_false, if_true, Nat.add_zero, Bool.and_self] at hm
        have Hm := Lib.hid hm
        have hbg := big_calls (neg := false) Hr.out HTD.out (by omega) Hrc.out
        rw [HTV.out] at hbg
        have Hbg := Lib.hid hbg
        have Hw5 := Hw4
        clear hm HS hbg
        go_wp2_with fail
        have hm := Hm.out
        obtain ⟨⟨r1, r2, r3⟩, rr⟩ := r
        have hm1 : mkN false (Q) = (r1, r2, r3) := (congrArg Prod.fst hm).symm
        have hm2 : rr = _ := congrArg Prod.snd hm
        refine Hbg.out.mono ?_
        rintro e w6 ⟨ra, rc, hlo, rfl, hr, hf⟩
        rw [hm1] at hlo hr
        rw [hm1]
        (try clear a0)
        (try clear a1)
        (try clear al)
        have ha_ := (hf.block _ (lt_of_block Ha.out) (by simp)).trans Ha.out
        clear Ha
        have a0 := heap_eq_cell ha_ 0
        have a1 := heap_eq_cell ha_ 1
        have al := lt_of_block ha_
        have Ha := Lib.hid ha_
        clear ha_
        (try clear c0)
        (try clear c1)
        (try clear c0z)
        (try clear c1z)
        (try clear cl)
        have hc_ := (hf.block _ (lt_of_block Hc.out) (by simp)).trans Hc.out
        clear Hc
        have c0 := heap_eq_cell hc_ 0
        have c0z := heap_eq_frozen hc_ 0
        have c1 := heap_eq_cell hc_ 1
        have c1z := heap_eq_frozen hc_ 1
        have cl := lt_of_block hc_
        have Hc := Lib.hid hc_
        clear hc_
        have Hf := Lib.hid (Hf.out.trans0 hf)
        have Hlo6 := Lib.hid hlo
        have Hr6 := Lib.hid hr
        have Hm2 := Lib.hid hm2
        clear hlo hr hf hm hm1 hm2
        go_wp2
        (try simp only [Exit.inBlock, Exit.then])
        refine bodyPost_ret (big_result3 rfl (b := w.heap.size + 1) (x := .bool r1) (y := .slice ra r2.length rc) rfl ?_ rfl rfl) rfl ⟨_, _, ⟨Hlo6.out.1, fun g hg => (by have := Hlo6.out.2 g hg; have := Hw5.out; omega)⟩, ?_, ?_, ?_⟩
        · have h := Hc.out
          (repeat (first | rw [if_pos (by omega)] | rw [if_neg (by omega)] | rw [hp_drew] | rw [hp_drewN] | rw [hp_alloc_size] | rw [hp_setCell_size] | rw [hp_alloc] | rw [hp_setCell] | rw [Option.map_some] | rw [upd_cells] | rw [List.set_cons_zero] | rw [List.set_cons_succ] | rfl))
          first | done | (rw [h]; (repeat (first | rw [if_pos (by omega)] | rw [if_neg (by omega)] | rw [hp_drew] | rw [hp_drewN] | rw [hp_alloc_size] | rw [hp_setCell_size] | rw [hp_alloc] | rw [hp_setCell] | rw [Option.map_some] | rw [upd_cells] | rw [List.set_cons_zero] | rw [List.set_cons_succ] | rfl)))
        · rw [Hm2.out]
          exact ret_int (by have := Hnu.out; first | omega | (simp only [wrap64]; omega) | (simp; done) | (simp; omega))
        · refine Hr6.out.keep fun x hx hl => ?_
          have h1 := Hlo6.out.2 x hx
          have hcl := Hw5.out
          repeat (first | rw [setCell_else _ _ _ (by simp; omega)] | rw [heap_alloc_else _ _ _ (by simp; omega)])
        · repeat (first | exact Hf.out | refine Fr.alloc ?_ _ | refine Fr.setCell ?_ (.inr (by first | (simp; done) | (simp; omega))) _)
      ·
        have hnn := hng
        simp only [decide_eq_true_eq, decide_eq_false_iff_not] at hnn
        have Eu : IntKind.u64.wrap (-IntKind.u64.wrap n) = (u : Nat) := by have := Hu.out; rw [wrap_u64, wrap_u64]; omega
        have hnu : n = -(u : Int) := by have := Hu.out; omega
        have Hnu := Lib.hid hnu
        clear hnu hnn
        have hz := Hhrz.out
        simp only [ne_eq, decide_eq_true_eq, decide_eq_false_iff_not, Decidable.not_not] at hz
        go_enter Tryd.func24, Tryd.ntmps24
        go_wp2_with fail
        refine (Hra.out _ (by (repeat (first | exact Fr.refl _ _ | assumption | apply Fr.drewN | apply Fr.drew | apply Fr.alloc | refine Fr.setCell ?_ (Or.inr (by simp; try omega)) _)))).mono ?_
        rintro e w1 ⟨rfl, hf⟩
        have ha_ := (hf.block (w.heap.size) (by first | (simp; done) | (simp; omega)) (by simp)).trans (show _ = some (.cells #[.bool true, .slice a ds.length c] 24 (0, 0)) by (repeat (first | rw [if_pos (by omega)] | rw [if_neg (by omega)] | rw [hp_drew] | rw [hp_drewN] | rw [hp_alloc_size] | rw [hp_setCell_size] | rw [hp_alloc] | rw [hp_setCell] | rw [Option.map_some] | rw [upd_cells] | rw [List.set_cons_zero] | rw [List.set_cons_succ] | rfl)))
        have a0 := heap_eq_cell ha_ 0
        have a1 := heap_eq_cell ha_ 1
        have al := lt_of_block ha_
        have Ha := Lib.hid ha_
        clear ha_
        have hc_ := (hf.block (w.heap.size + 1) (by first | (simp; done) | (simp; omega)) (by simp)).trans (show _ = some (.cells #[.bool false, .slice none 0 0] 24 (0, 0)) by (repeat (first | rw [if_pos (by omega)] | rw [if_neg (by omega)] | rw [hp_drew] | rw [hp_drewN] | rw [hp_alloc_size] | rw [hp_setCell_size] | rw [hp_alloc] | rw [hp_setCell] | rw [Option.map_some] | rw [upd_cells] | rw [List.set_cons_zero] | rw [List.set_cons_succ] | rfl)))
        have c0 := heap_eq_cell hc_ 0
        have c0z := heap_eq_frozen hc_ 0
        have c1 := heap_eq_cell hc_ 1
        have c1z := heap_eq_frozen hc_ 1
        have cl := lt_of_block hc_
        have Hc := Lib.hid hc_
        clear hc_
        have Hf := Lib.hid (Fr.trans0 (by (repeat (first | exact Fr.refl _ _ | assumption | apply Fr.drewN | apply Fr.drew | apply Fr.alloc | refine Fr.setCell ?_ (Or.inr (by simp; try omega)) _)) : Fr [] w _) hf)
        clear hf
        go_wp2_with fail
        refine (Hby.out _ Hf.out).mono ?_
        rintro e w3 ⟨xa, xc, hlo, rfl, hr, hf⟩
        (try clear a0)
        (try clear a1)
        (try clear al)
        have ha_ := (hf.block _ (lt_of_block Ha.out) (by simp)).trans Ha.out
        clear Ha
        have a0 := heap_eq_cell ha_ 0
        have a1 := heap_eq_cell ha_ 1
        have al := lt_of_block ha_
        have Ha := Lib.hid ha_
        clear ha_
        (try clear c0)
        (try clear c1)
        (try clear c0z)
        (try clear c1z)
        (try clear cl)
        have hc_ := (hf.block _ (lt_of_block Hc.out) (by simp)).trans Hc.out
        clear Hc
        have c0 := heap_eq_cell hc_ 0
        have c0z := heap_eq_frozen hc_ 0
        have c1 := heap_eq_cell hc_ 1
        have c1z := heap_eq_frozen hc_ 1
        have cl := lt_of_block hc_
        have Hc := Lib.hid hc_
        clear hc_
        have Hf := Lib.hid (Hf.out.trans0 hf)
        have Hp := Lib.hid (Hpt.out w3 xa xc hr)
        clear hf hlo hr
        go_wp2_with fail
        refine Hp.out.mono ?_
        rintro e w4 ⟨T, ta, tc, hT, hlo, rfl, hr, hf⟩
        (try clear a0)
        (try clear a1)
        (try clear al)
        have ha_ := (hf.block _ (lt_of_block Ha.out) (by simp)).trans Ha.out
        clear Ha
        have a0 := heap_eq_cell ha_ 0
        have a1 := heap_eq_cell ha_ 1
        have al := lt_of_block ha_
        have Ha := Lib.hid ha_
        clear ha_
        (try clear c0)
        (try clear c1)
        (try clear c0z)
        (try clear c1z)
        (try clear cl)
        have hc_ := (hf.block _ (lt_of_block Hc.out) (by simp)).trans Hc.out
        clear Hc
        have c0 := heap_eq_cell hc_ 0
        have c0z := heap_eq_frozen hc_ 0
        have c1 := heap_eq_cell hc_ 1
        have c1z := heap_eq_frozen hc_ 1
        have cl := lt_of_block hc_
        have Hc := Lib.hid hc_
        clear hc_
        have Hf := Lib.hid (Hf.out.trans0 hf)
        have Hr := Lib.hid hr
        have Hrc := Lib.hid hlo.1
        have hTl2 : T.length ≤ 256 := by rw [hT]; exact hTl
        have HTV : Hid (val 256 T = Q) := Lib.hid (by rw [hT]; exact val_dg (by omega) Q)
        have HTD : Hid (Dig 256 T) := Lib.hid (by rw [hT]; exact dg_dig (by omega) Q)
        have Hw4 : Hid (w.heap.size + 1 < w4.heap.size) := Lib.hid cl
        clear hf hlo hr hT hTl
        have hm := HS.out
        simp only [bne_self_eq_false, Bool.false_and, Bool.and_false, Bool.false_eq_true, if_false, if_true, Nat.add_zero, Bool.and_self] at hm
        have Hm := Lib.hid hm
        have hbg := big_calls (neg := false) Hr.out HTD.out (by omega) Hrc.out
        rw [HTV.out] at hbg
        have Hbg := Lib.hid hbg
        have Hw5 := Hw4
        clear hm HS hbg
        go_wp2_with fail
        have hm := Hm.out
        obtain ⟨⟨r1, r2, r3⟩, rr⟩ := r
        have hm1 : mkN false (Q) = (r1, r2, r3) := (congrArg Prod.fst hm).symm
        have hm2 : rr = _ := congrArg Prod.snd hm
        refine Hbg.out.mono ?_
        rintro e w6 ⟨ra, rc, hlo, rfl, hr, hf⟩
        rw [hm1] at hlo hr
        rw [hm1]
        (try clear a0)
        (try clear a1)
        (try clear al)
        have ha_ := (hf.block _ (lt_of_block Ha.out) (by simp)).trans Ha.out
        clear Ha
        have a0 := heap_eq_cell ha_ 0
        have a1 := heap_eq_cell ha_ 1
        have al := lt_of_block ha_
        have Ha := Lib.hid ha_
        clear ha_
        (try clear c0)
        (try clear c1)
        (try clear c0z)
        (try clear c1z)
        (try clear cl)
        have hc_ := (hf.block _ (lt_of_block Hc.out) (by simp)).trans Hc.out
        clear Hc
        have c0 := heap_eq_cell hc_ 0
        have c0z := heap_eq_frozen hc_ 0
        have c1 := heap_eq_cell hc_ 1
        have c1z := heap_eq_frozen hc_ 1
        have cl := lt_of_block hc_
        have Hc := Lib.hid hc_
        clear hc_
        have Hf := Lib.hid (Hf.out.trans0 hf)
        have Hlo6 := Lib.hid hlo
        have Hr6 := Lib.hid hr
        have Hm2 := Lib.hid hm2
        clear hlo hr hf hm hm1 hm2
        go_wp2
        (try simp only [Exit.inBlock, Exit.then])
        refine bodyPost_ret (big_result3 rfl (b := w.heap.size + 1) (x := .bool r1) (y := .slice ra r2.length rc) rfl ?_ rfl rfl) rfl ⟨_, _, ⟨Hlo6.out.1, fun g hg => (by have := Hlo6.out.2 g hg; have := Hw5.out; omega)⟩, ?_, ?_, ?_⟩
        · have h := Hc.out
          (repeat (first | rw [if_pos (by omega)] | rw [if_neg (by omega)] | rw [hp_drew] | rw [hp_drewN] | rw [hp_alloc_size] | rw [hp_setCell_size] | rw [hp_alloc] | rw [hp_setCell] | rw [Option.map_some] | rw [upd_cells] | rw [List.set_cons_zero] | rw [List.set_cons_succ] | rfl))
          first | done | (rw [h]; (repeat (first | rw [if_pos (by omega)] | rw [if_neg (by omega)] | rw [hp_drew] | rw [hp_drewN] | rw [hp_alloc_size] | rw [hp_setCell_size] | rw [hp_alloc] | rw [hp_setCell] | rw [Option.map_some] | rw [upd_cells] | rw [List.set_cons_zero] | rw [List.set_cons_succ] | rfl)))
        · rw [Hm2.out]
          exact ret_int (by have := Hnu.out; first | omega | (simp only [wrap64]; omega) | (simp; done) | (simp; omega))
        · refine Hr6.out.keep fun x hx hl => ?_
          have h1 := Hlo6.out.2 x hx
          have hcl := Hw5.out
          repeat (first | rw [setCell_else _ _ _ (by simp; omega)] | rw [heap_alloc_else _ _ _ (by simp; omega)])
        · repeat (first | exact Hf.out | refine Fr.alloc ?_ _ | refine Fr.setCell ?_ (.inr (by first | (simp; done) | (simp; omega))) _)
end Go.Proofs.YtbacamboknmppaaDoor
