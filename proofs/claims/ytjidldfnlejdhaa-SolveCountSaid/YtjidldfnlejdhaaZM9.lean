/- Own texts of this claim, part 10: no condition. -/
import Derived.Test.YtjidldfnlejdhaaZM7
section
/- The reference of big integers: From, Int, Same. -/
namespace Go.Proofs.Ytjidldfnlejdhaa
set_option linter.unusedVariables false
set_option linter.unusedSimpArgs false
open Go Go.RowKit Go.Proofs.Rg Go.Proofs.Hp Go.Proofs.Bn
set_option maxHeartbeats 4000000 in
set_option maxRecDepth 100000 in
theorem RFrom_calls {w : World} {n : Int} (h1 : -9223372036854775808 ≤ n) (h2 : n < 9223372036854775808) :
    Calls Try.prog 24 #[.int .i64 n] w (BigPost1 w (w.heap.size ≤ ·) (fromS n)) := by
  unfold fromS
  obtain ⟨v, hv⟩ : ∃ v, v = n.natAbs := ⟨_, rfl⟩
  rw [← hv]
  have hv64' : v < 256 ^ 8 := by omega
  have HV64 := Lib.hid hv64'
  clear hv64'
  by_cases hn : n < 0
  · have hd : decide (n < 0) = true := by simpa using hn
    rw [hd]
    obtain ⟨r, hrr⟩ : ∃ r, mkN true v = r := ⟨_, rfl⟩
    rw [hrr]
    have HRR := Lib.hid hrr
    clear hrr
    have Ev : IntKind.u64.wrap (-IntKind.u64.wrap n) = (v : Nat) := by rw [wrap_u64, wrap_u64]; omega
    go_enter Try.func24, Try.ntmps24
    go_wp2_with fail
    go_loopw [3, 4] (fun x3 x4 wl => ∃ (u : Nat) (L : List Nat), x3 = .int .u64 u ∧ Dig 256 L ∧ L.length ≤ 8 ∧ u < 256 ^ (8 - L.length) ∧ val 256 L + 256 ^ L.length * u = v ∧ wl.ownsRow (w.heap.size + 1) 3 1 x4 L.length (i64s L) ∧ Fr [] w wl ∧
      wl.heap[w.heap.size]? = some (.cells #[.bool false, .slice none 0 0] 41 (0, 0))) (fun x3 _ _ => (intOf x3).toNat)
    case atStart => exact ⟨v, [], by first | rfl | (simp; omega) | (go_num), Dig.nil, by simp, HV64.out, by simp [val], World.ownsRow_nil _ _ _ _, by (repeat first | exact Fr.refl _ _ | assumption | apply Fr.n | apply Fr.d | apply Fr.a | refine Fr.s ?_ (.inr (by simp; try omega)) _), by (repeat first | rw [if_pos (by omega)] | rw [if_neg (by omega)] | rw [hp_drew] | rw [hp_drewN] | rw [hp_alloc_size] | rw [hp_setCell_size] | rw [hp_alloc] | rw [hp_setCell] | rw [oMS] | rw [upd_cells] | rw [lSZ] | rw [lSS] | rfl)⟩
    case round =>
      obtain ⟨u, L, rfl, hD, hL, hu, hval, ho, hf, hb⟩ := hrel
      obtain ⟨oa, oc, rfl, hoa, hon⟩ := owns_form ho
      have HD := Lib.hid hD
      have Hval := Lib.hid hval
      have Ho := Lib.hid ho
      have Hf := Lib.hid hf
      have Hb := Lib.hid hb
      have Hu := Lib.hid hu
      have hub : u < 18446744073709551616 := Nat.lt_of_lt_of_le hu (Nat.pow_le_pow_right (show 0 < 256 by omega) (show 8 - L.length ≤ 8 by omega))
      clear hoa hon hD hval ho hf hb hu
      rcases Nat.eq_zero_or_pos u with h0 | hp
      · subst h0
        have hv := Hval.out
        rw [Nat.mul_zero, Nat.add_zero] at hv
        have hbg := big_calls (neg := true) (Reads.of_owns Ho.out) HD.out (by omega) (owns_cap Ho.out)
        rw [hv, HRR.out] at hbg
        have Hbg := Lib.hid hbg
        clear hv hbg
        go_wp2_with fail
        refine Hbg.out.mono ?_
        rintro e w2 ⟨ra, rc, hlo, rfl, hr, hf⟩
        have Hc := Hb
        (try clear c0)
        (try clear c1)
        (try clear c0z)
        (try clear c1z)
        (try clear cl)
        have hc_ := (hf.block _ (lt_of_block Hc.out) (by simp)).trans Hc.out
        clear Hc
        have c0 := heap_eq_cell hc_ 0
        have c0z := heap_eq_frozen hc_ 0
        have c1 := heap_eq_cell hc_ 1
        have c1z := heap_eq_frozen hc_ 1
        have cl := lt_of_block hc_
        have Hc := Lib.hid hc_
        clear hc_
        have Hlo := Lib.hid hlo
        have Hr := Lib.hid hr
        have Hs := Lib.hid Hf.out.size
        have Hf := Lib.hid (Hf.out.trans0 hf)
        clear hlo hr hf
        obtain ⟨r1, r2, r3⟩ := r
        go_wp2
        (try simp only [Exit.inBlock, Exit.then])
        refine bodyPost_ret (big_result1 rfl (b := w.heap.size) (x := .bool r1) (y := .slice ra r2.length rc) rfl ?_) rfl ⟨_, _, ⟨Hlo.out.1, fun g hg => (by have h := Hlo.out.2 g hg; have := Hs.out; omega)⟩, rfl, ?_, ?_⟩
        · have h := Hc.out
          (repeat first | rw [if_pos (by omega)] | rw [if_neg (by omega)] | rw [hp_drew] | rw [hp_drewN] | rw [hp_alloc_size] | rw [hp_setCell_size] | rw [hp_alloc] | rw [hp_setCell] | rw [oMS] | rw [upd_cells] | rw [lSZ] | rw [lSS] | rfl)
          first | exact h | (rw [h]; (repeat first | rw [if_pos (by omega)] | rw [if_neg (by omega)] | rw [hp_drew] | rw [hp_drewN] | rw [hp_alloc_size] | rw [hp_setCell_size] | rw [hp_alloc] | rw [hp_setCell] | rw [oMS] | rw [upd_cells] | rw [lSZ] | rw [lSS] | rfl))
        · refine Hr.out.keep fun x hx hl => ?_
          have h1 := Hlo.out.2 x hx
          have := lt_of_block Hb.out
          rw [heap_alloc_else _ _ _ (by simp only [hp_setCell_size]; exact hl), setCell_else _ _ _ (by simp; omega), setCell_else _ _ _ (by simp; omega)]
        · repeat (first | exact Hf.out | refine Fr.alloc ?_ _ | refine Fr.setCell ?_ (.inr (by first | (simp; done) | (simp; omega))) _)
      · obtain ⟨d, hd⟩ : ∃ d, u % 256 = d := ⟨_, rfl⟩
        have Ed : ((u : Int) % 256) = (d : Nat) := by omega
        have hd256 : d < 256 := by omega
        have Hd := Lib.hid hd
        clear hd
        have hL8 : L.length < 8 := by
          rcases Nat.lt_or_ge L.length 8 with h | h
          · exact h
          · have h2 := Hu.out
            rw [show 8 - L.length = 0 by omega] at h2
            omega
        have Hf1 := Lib.hid (show Fr [] w _ from Hf.out)
        have hbl := lt_of_block Hb.out
        go_wp2_with (at_builtin; refine append_i64 (n := L.length) (base := (w.heap.size + 1)) (xs := (i64s L)) (y := (d : Int)) rfl rfl rfl ?e1 rfl ?e2 ?e3 ?e4 ?_)
        case e1 => exact owns_of_block Ho.out fun y hy => heap_alloc_else _ _ _ (owns_lt Ho.out hy)
        case e2 => first | (first | (rw [hp_alloc, if_pos rfl]; done) | exact (Array.getElem?_eq_some_iff.1 ((hp_alloc _ _ _).trans (if_pos rfl))).2 | (simp only [hp_drew, hp_drewN]; rw [hp_alloc, if_pos rfl]; done)) | (repeat first | rw [if_pos (by omega)] | rw [if_neg (by omega)] | rw [hp_drew] | rw [hp_drewN] | rw [hp_alloc_size] | rw [hp_setCell_size] | rw [hp_alloc] | rw [hp_setCell] | rw [oMS] | rw [upd_cells] | rw [lSZ] | rw [lSS] | rfl)
        case e3 => omega
        case e4 => have := Hf1.out.size; have := lt_of_block Hb.out; (first | omega | (simp only [hp_drew, hp_drewN, hp_alloc_size]; omega) | (simp; omega))
        intro g2 cap w9 hown1 hW1 hF1 hloc1 hg1
        rw [i64s_snoc] at hown1
        have Hb9 := Lib.hid ((hW1 w.heap.size (by have := lt_of_block Hb.out; (first | omega | (simp only [hp_drew, hp_drewN, hp_alloc_size]; omega) | (simp; omega))) (fun e => by have h := owns_ge Ho.out e; omega)).trans ((heap_alloc_else _ _ _ (lt_of_block Hb.out)).trans Hb.out))
        have Hown1 := Lib.hid hown1
        have Hf9 := Lib.hid (fr_append Hf1.out (owns_base Ho.out (Nat.le_succ _)) hF1)
        clear hown1 hW1 hF1 hloc1
        go_wp2
        go_roundw
        case rel =>
          refine ⟨u / 256, L ++ [d], by go_num, HD.out.append (fun z hz => by rw [List.mem_singleton] at hz; omega), by rw [List.length_append]; simp; omega, ?_, ?_, by rw [List.length_append]; exact Hown1.out, Hf9.out, Hb9.out⟩
          · have h := Hu.out
            rw [List.length_append, List.length_singleton, Nat.div_lt_iff_lt_mul (by omega), ← Nat.pow_succ, show (8 - (L.length + 1)).succ = 8 - L.length by omega]
            exact h
          · rw [val_snoc, List.length_append, List.length_singleton, Nat.pow_succ, ← Hd.out, Nat.add_assoc, low_high]
            exact Hval.out
        case measure => simp [intOf]; omega
  · have hd : decide (n < 0) = false := by simpa using hn
    rw [hd]
    obtain ⟨r, hrr⟩ : ∃ r, mkN false v = r := ⟨_, rfl⟩
    rw [hrr]
    have HRR := Lib.hid hrr
    clear hrr
    obtain rfl : n = (v : Int) := by omega
    have Ev2 : IntKind.u64.wrap ((v : Nat) : Int) = (v : Nat) := by rw [wrap_u64]; omega
    have hd2 : decide ((v : Int) < 0) = false := hd
    clear hd hn hv h1 h2
    go_enter Try.func24, Try.ntmps24
    go_wp2_with fail
    go_loopw [3, 4] (fun x3 x4 wl => ∃ (u : Nat) (L : List Nat), x3 = .int .u64 u ∧ Dig 256 L ∧ L.length ≤ 8 ∧ u < 256 ^ (8 - L.length) ∧ val 256 L + 256 ^ L.length * u = v ∧ wl.ownsRow (w.heap.size + 1) 3 1 x4 L.length (i64s L) ∧ Fr [] w wl ∧
      wl.heap[w.heap.size]? = some (.cells #[.bool false, .slice none 0 0] 41 (0, 0))) (fun x3 _ _ => (intOf x3).toNat)
    case atStart => exact ⟨v, [], by first | rfl | (simp; omega) | (go_num), Dig.nil, by simp, HV64.out, by simp [val], World.ownsRow_nil _ _ _ _, by (repeat first | exact Fr.refl _ _ | assumption | apply Fr.n | apply Fr.d | apply Fr.a | refine Fr.s ?_ (.inr (by simp; try omega)) _), by (repeat first | rw [if_pos (by omega)] | rw [if_neg (by omega)] | rw [hp_drew] | rw [hp_drewN] | rw [hp_alloc_size] | rw [hp_setCell_size] | rw [hp_alloc] | rw [hp_setCell] | rw [oMS] | rw [upd_cells] | rw [lSZ] | rw [lSS] | rfl)⟩
    case round =>
      obtain ⟨u, L, rfl, hD, hL, hu, hval, ho, hf, hb⟩ := hrel
      obtain ⟨oa, oc, rfl, hoa, hon⟩ := owns_form ho
      have HD := Lib.hid hD
      have Hval := Lib.hid hval
      have Ho := Lib.hid ho
      have Hf := Lib.hid hf
      have Hb := Lib.hid hb
      have Hu := Lib.hid hu
      have hub : u < 18446744073709551616 := Nat.lt_of_lt_of_le hu (Nat.pow_le_pow_right (show 0 < 256 by omega) (show 8 - L.length ≤ 8 by omega))
      clear hoa hon hD hval ho hf hb hu
      rcases Nat.eq_zero_or_pos u with h0 | hp
      · subst h0
        have hv := Hval.out
        rw [Nat.mul_zero, Nat.add_zero] at hv
        have hbg := big_calls (neg := false) (Reads.of_owns Ho.out) HD.out (by omega) (owns_cap Ho.out)
        rw [hv, HRR.out] at hbg
        have Hbg := Lib.hid hbg
        clear hv hbg
        go_wp2_with fail
        refine Hbg.out.mono ?_
        rintro e w2 ⟨ra, rc, hlo, rfl, hr, hf⟩
        have Hc := Hb
        (try clear c0)
        (try clear c1)
        (try clear c0z)
        (try clear c1z)
        (try clear cl)
        have hc_ := (hf.block _ (lt_of_block Hc.out) (by simp)).trans Hc.out
        clear Hc
        have c0 := heap_eq_cell hc_ 0
        have c0z := heap_eq_frozen hc_ 0
        have c1 := heap_eq_cell hc_ 1
        have c1z := heap_eq_frozen hc_ 1
        have cl := lt_of_block hc_
        have Hc := Lib.hid hc_
        clear hc_
        have Hlo := Lib.hid hlo
        have Hr := Lib.hid hr
        have Hs := Lib.hid Hf.out.size
        have Hf := Lib.hid (Hf.out.trans0 hf)
        clear hlo hr hf
        obtain ⟨r1, r2, r3⟩ := r
        go_wp2
        (try simp only [Exit.inBlock, Exit.then])
        refine bodyPost_ret (big_result1 rfl (b := w.heap.size) (x := .bool r1) (y := .slice ra r2.length rc) rfl ?_) rfl ⟨_, _, ⟨Hlo.out.1, fun g hg => (by have h := Hlo.out.2 g hg; have := Hs.out; omega)⟩, rfl, ?_, ?_⟩
        · have h := Hc.out
          (repeat first | rw [if_pos (by omega)] | rw [if_neg (by omega)] | rw [hp_drew] | rw [hp_drewN] | rw [hp_alloc_size] | rw [hp_setCell_size] | rw [hp_alloc] | rw [hp_setCell] | rw [oMS] | rw [upd_cells] | rw [lSZ] | rw [lSS] | rfl)
          first | exact h | (rw [h]; (repeat first | rw [if_pos (by omega)] | rw [if_neg (by omega)] | rw [hp_drew] | rw [hp_drewN] | rw [hp_alloc_size] | rw [hp_setCell_size] | rw [hp_alloc] | rw [hp_setCell] | rw [oMS] | rw [upd_cells] | rw [lSZ] | rw [lSS] | rfl))
        · refine Hr.out.keep fun x hx hl => ?_
          have h1 := Hlo.out.2 x hx
          have := lt_of_block Hb.out
          rw [heap_alloc_else _ _ _ (by simp only [hp_setCell_size]; exact hl), setCell_else _ _ _ (by simp; omega), setCell_else _ _ _ (by simp; omega)]
        · repeat (first | exact Hf.out | refine Fr.alloc ?_ _ | refine Fr.setCell ?_ (.inr (by first | (simp; done) | (simp; omega))) _)
      · obtain ⟨d, hd⟩ : ∃ d, u % 256 = d := ⟨_, rfl⟩
        have Ed : ((u : Int) % 256) = (d : Nat) := by omega
        have hd256 : d < 256 := by omega
        have Hd := Lib.hid hd
        clear hd
        have hL8 : L.length < 8 := by
          rcases Nat.lt_or_ge L.length 8 with h | h
          · exact h
          · have h2 := Hu.out
            rw [show 8 - L.length = 0 by omega] at h2
            omega
        have Hf1 := Lib.hid (show Fr [] w _ from Hf.out)
        have hbl := lt_of_block Hb.out
        go_wp2_with (at_builtin; refine append_i64 (n := L.length) (base := (w.heap.size + 1)) (xs := (i64s L)) (y := (d : Int)) rfl rfl rfl ?e1 rfl ?e2 ?e3 ?e4 ?_)
        case e1 => exact owns_of_block Ho.out fun y hy => heap_alloc_else _ _ _ (owns_lt Ho.out hy)
        case e2 => first | (first | (rw [hp_alloc, if_pos rfl]; done) | exact (Array.getElem?_eq_some_iff.1 ((hp_alloc _ _ _).trans (if_pos rfl))).2 | (simp only [hp_drew, hp_drewN]; rw [hp_alloc, if_pos rfl]; done)) | (repeat first | rw [if_pos (by omega)] | rw [if_neg (by omega)] | rw [hp_drew] | rw [hp_drewN] | rw [hp_alloc_size] | rw [hp_setCell_size] | rw [hp_alloc] | rw [hp_setCell] | rw [oMS] | rw [upd_cells] | rw [lSZ] | rw [lSS] | rfl)
        case e3 => omega
        case e4 => have := Hf1.out.size; have := lt_of_block Hb.out; (first | omega | (simp only [hp_drew, hp_drewN, hp_alloc_size]; omega) | (simp; omega))
        intro g2 cap w9 hown1 hW1 hF1 hloc1 hg1
        rw [i64s_snoc] at hown1
        have Hb9 := Lib.hid ((hW1 w.heap.size (by have := lt_of_block Hb.out; (first | omega | (simp only [hp_drew, hp_drewN, hp_alloc_size]; omega) | (simp; omega))) (fun e => by have h := owns_ge Ho.out e; omega)).trans ((heap_alloc_else _ _ _ (lt_of_block Hb.out)).trans Hb.out))
        have Hown1 := Lib.hid hown1
        have Hf9 := Lib.hid (fr_append Hf1.out (owns_base Ho.out (Nat.le_succ _)) hF1)
        clear hown1 hW1 hF1 hloc1
        go_wp2
        go_roundw
        case rel =>
          refine ⟨u / 256, L ++ [d], by go_num, HD.out.append (fun z hz => by rw [List.mem_singleton] at hz; omega), by rw [List.length_append]; simp; omega, ?_, ?_, by rw [List.length_append]; exact Hown1.out, Hf9.out, Hb9.out⟩
          · have h := Hu.out
            rw [List.length_append, List.length_singleton, Nat.div_lt_iff_lt_mul (by omega), ← Nat.pow_succ, show (8 - (L.length + 1)).succ = 8 - L.length by omega]
            exact h
          · rw [val_snoc, List.length_append, List.length_singleton, Nat.pow_succ, ← Hd.out, Nat.add_assoc, low_high]
            exact Hval.out
        case measure => simp [intOf]; omega
end Go.Proofs.Ytjidldfnlejdhaa
end
