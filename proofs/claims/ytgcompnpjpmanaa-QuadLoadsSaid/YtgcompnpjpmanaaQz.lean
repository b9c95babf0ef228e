/- QuadCalls and QuadLoads: what the laws' functions return. -/
import Derived.Test.YtgcompnpjpmanaaPl
namespace Go.Proofs.Ytgcompnpjpmanaa
open Go Go.RowKit Go.Proofs.Rg Go.Proofs.Mp Go.Proofs.Hp Go.Proofs.Qs
set_option maxHeartbeats 8000000 in
set_option maxRecDepth 100000 in
theorem QuadCalls_calls {W : World} {s : Int} {l : List (Int × K4)} {v : Value} (hv : Reads W v l.length 5 (l.map stepCells).flatten) :
    Calls Try.prog 4 #[.int .i64 s, v] W fun e w' => e = .returned (.bool true) ∧ Fr [] W w' := by
  have hvk := hv
  obtain ⟨_, a, c, rfl, hav⟩ := hv
  have Hvk := Lib.hid hvk
  clear hav hvk
  have hAw : ∀ w1, Fr [] W w1 → Calls Try.prog 8 #[] w1 fun e w' => e = .returned (.bool true) ∧ Fr [] W w' := fun w1 h => (awake_calls w1).mono fun e w' ⟨h1, h2⟩ => ⟨h1, h.trans0 h2⟩
  have HAw := Lib.hid hAw
  clear hAw
  by_cases hl : 80 < l.length
  · have hd : decide ((80 : Int) < ↑l.length) = true := by simp; omega
    clear hl
    go_enter Try.func4, Try.ntmps4
    go_wp2_with fail
    refine (HAw.out _ (Fr.refl _ _)).mono ?_
    rintro e w1 ⟨rfl, hf⟩
    have Hf := Lib.hid hf
    clear hf
    go_wp2
    go_ret
    exact ⟨rfl, Hf.out⟩
  have hd : decide ((80 : Int) < ↑l.length) = false := by simp; omega
  have Hl := Lib.hid hl
  clear hl
  by_cases hs : s < 2 ∨ 8 < s
  · have Hs := Lib.hid hs
    clear hs
    go_enter Try.func4, Try.ntmps4
    go_wp2_with fail
    refine (New_bad s _ Hs.out).mono ?_
    rintro e w1 ⟨rfl, rfl⟩
    go_wp2_with fail
    refine (RNew_bad s _ Hs.out).mono ?_
    rintro e w2 ⟨rfl, rfl⟩
    go_wp2_with fail
    refine (HAw.out _ (Fr.refl _ _)).mono ?_
    rintro e w3 ⟨rfl, hf⟩
    have Hf := Lib.hid hf
    clear hf
    go_wp2
    go_ret
    exact ⟨rfl, Hf.out⟩
  have Hs := Lib.hid hs
  clear hs
  go_enter Try.func4, Try.ntmps4
  go_wp2_with fail
  refine (New_ok s _ (by have := Hs.out; omega) (by have := Hs.out; omega)).mono ?_
  rintro e w1 ⟨b, F, rfl, hS, hf, hF⟩
  have HS := Lib.hid hS
  have Hf := Lib.hid hf
  have HF := Lib.hid hF
  clear hS hf hF
  go_wp2_with fail
  refine (RNew_ok s _ (by have := Hs.out; omega) (by have := Hs.out; omega)).mono ?_
  rintro e w2 ⟨b', F', rfl, hS, hf, hF⟩
  have h2 : Two W w2 b b' s [] [] F F' := ⟨HS.out.fr hf (by simp), hS, Hf.out.trans0 hf, HF.out, fun x hx => by have := hF x hx; have := Hf.out.size; omega, fun x hx hx' => by have := hF x hx'; have := HS.out.lt x hx; omega⟩
  have H2 := Lib.hid h2
  clear hS hf hF h2
  go_wp2_with fail
  refine (play_calls H2.out (by simp) (by have := Hl.out; omega) Hvk.out).mono ?_
  rintro e w3 ⟨rfl, ms, F1, F1', h3, hm⟩
  have H3 := Lib.hid h3
  clear h3
  go_wp2_with fail
  refine (Data_calls H3.out.st).mono ?_
  rintro e w4 ⟨v4, rfl, ho4, hf4⟩
  obtain ⟨va, vc, rfl, _, _⟩ := owns_form ho4
  have H4 := Lib.hid (H3.out.step hf4)
  have Hr4 := Lib.hid (Reads.of_owns ho4)
  clear ho4 hf4
  go_wp2_with fail
  refine (RRight_calls (by omega) Hr4.out).mono ?_
  rintro e w5 ⟨rfl, hf5⟩
  rw [decide_eq_true H4.out.st.1]
  have H5 := Lib.hid (H4.out.fr.trans0 hf5)
  clear hf5
  go_wp2_with fail
  refine (HAw.out _ H5.out).mono ?_
  rintro e w6 ⟨rfl, hf⟩
  have H6 := Lib.hid hf
  clear hf
  go_wp2
  go_ret
  exact ⟨rfl, H6.out⟩
set_option maxHeartbeats 8000000 in
set_option maxRecDepth 100000 in
theorem QuadLoads_calls {W : World} {s : Int} {ns : List K4} {q v : Value} {l : List (Int × K4)} (hq : Reads W q ns.length 4 (flat ns)) (hv : Reads W v l.length 5 (l.map stepCells).flatten) :
    Calls Try.prog 5 #[.agg #[.int .i64 s, q], v] W fun e w' => e = .returned (.bool true) ∧ Fr [] W w' := by
  have hvk := hv
  obtain ⟨_, a, c, rfl, hav⟩ := hv
  have Hvk := Lib.hid hvk
  clear hav hvk
  have hqk := hq
  obtain ⟨_, qa, qc, rfl, haq⟩ := hq
  have Hqk := Lib.hid hqk
  clear haq hqk
  have hAw : ∀ w1, Fr [] W w1 → Calls Try.prog 8 #[] w1 fun e w' => e = .returned (.bool true) ∧ Fr [] W w' := fun w1 h => (awake_calls w1).mono fun e w' ⟨h1, h2⟩ => ⟨h1, h.trans0 h2⟩
  have HAw := Lib.hid hAw
  clear hAw
  by_cases hbig : 100 < ns.length ∨ 60 < l.length
  · have hd : decide ((100 : Int) < ↑ns.length) = true ∨ decide ((100 : Int) < ↑ns.length) = false ∧ decide ((60 : Int) < ↑l.length) = true := by
      rcases hbig with h | h
      · left; simp; omega
      · by_cases h' : 100 < ns.length
        · left; simp; omega
        · right; constructor <;> simp <;> omega
    clear hbig
    rcases hd with hd | ⟨hd, hd2⟩
    all_goals
      go_enter Try.func5, Try.ntmps5
      go_wp2_with fail
      refine (HAw.out _ ((Fr.refl _ _).alloc _)).mono ?_
      rintro e w1 ⟨rfl, hf⟩
      have Hf := Lib.hid hf
      clear hf
      go_wp2
      go_ret
      exact ⟨rfl, Hf.out⟩
  have hd : decide ((100 : Int) < ↑ns.length) = false := by simp; omega
  have hd2 : decide ((60 : Int) < ↑l.length) = false := by simp; omega
  have Hb := Lib.hid hbig
  clear hbig
  go_enter Try.func5, Try.ntmps5
  go_wp2_with fail
  have hbx : (W.alloc (.cells #[.int .i64 s, .slice qa ns.length qc] 24)).heap[W.heap.size]? = some (.cells #[.int .i64 s, .slice qa ns.length qc] 24 (0, 0)) := by (repeat (first | rw [if_pos (by omega)] | rw [if_neg (by omega)] | rw [hp_drew] | rw [hp_drewN] | rw [hp_alloc_size] | rw [hp_setCell_size] | rw [hp_alloc] | rw [hp_setCell] | rw [Option.map_some] | rw [upd_cells] | rw [List.set_cons_zero] | rw [List.set_cons_succ] | rfl))
  have hf0 : Fr [] W (W.alloc (.cells #[.int .i64 s, .slice qa ns.length qc] 24)) := by (repeat (first | exact Fr.refl _ _ | assumption | apply Fr.drewN | apply Fr.drew | apply Fr.alloc | refine Fr.setCell ?_ (Or.inr (by simp; try omega)) _))
  generalize W.alloc (.cells #[.int .i64 s, .slice qa ns.length qc] 24) = w0 at *
  have Hbx := Lib.hid hbx
  have Hf0 := Lib.hid hf0
  clear hbx hf0
  refine (Load_calls (by have := Hb.out; omega) (Hqk.out.fr Hf0.out)).mono ?_
  rintro e w1 ⟨hok, hno⟩
  by_cases hg : GoodQ s ns
  case neg =>
    obtain ⟨rfl, hf⟩ := hno hg
    have hb1 := (hf.block _ (lt_of_block Hbx.out) (by simp)).trans Hbx.out
    have c0 := heap_eq_cell hb1 0
    have c1 := heap_eq_cell hb1 1
    have Hf1 := Lib.hid (Hf0.out.trans0 hf)
    have Hg := Lib.hid hg
    clear hok hno hf hg hb1
    go_wp2_with fail
    refine (RLoad_calls (by have := Hb.out; omega) (Hqk.out.fr Hf1.out)).mono ?_
    rintro e w2 ⟨_, hno⟩
    obtain ⟨rfl, hf⟩ := hno Hg.out
    have Hf2 := Lib.hid (Hf1.out.trans0 hf)
    clear hno hf
    go_wp2_with fail
    refine (HAw.out _ Hf2.out).mono ?_
    rintro e w3 ⟨rfl, hf⟩
    have Hf := Lib.hid hf
    clear hf
    go_wp2
    go_ret
    exact ⟨rfl, Hf.out⟩
  obtain ⟨b, F, rfl, hS, hf, hF⟩ := hok hg
  have hb1 := (hf.block _ (lt_of_block Hbx.out) (by simp)).trans Hbx.out
  have c0 := heap_eq_cell hb1 0
  have c1 := heap_eq_cell hb1 1
  have Hf1 := Lib.hid (Hf0.out.trans0 hf)
  have HS := Lib.hid hS
  have HF := Lib.hid hF
  have Hg := Lib.hid hg
  clear hok hno hf hg hb1 hS hF
  go_wp2_with fail
  refine (RLoad_calls (by have := Hb.out; omega) (Hqk.out.fr Hf1.out)).mono ?_
  rintro e w2 ⟨hok, _⟩
  obtain ⟨b', F', rfl, hS, hf, hF⟩ := hok Hg.out
  have h2 : Two W w2 b b' s ns ns F F' := ⟨HS.out.fr hf (by simp), hS, Hf1.out.trans0 hf, fun x hx => by have := HF.out x hx; have := Hf0.out.size; omega, fun x hx => by have := hF x hx; have := Hf1.out.size; omega, fun x hx hx' => by have := hF x hx'; have := HS.out.lt x hx; omega⟩
  have H2 := Lib.hid h2
  clear hS hf hF h2 hok
  go_wp2_with fail
  refine (play_calls H2.out (by have := Hb.out; omega) (by have := Hb.out; omega) Hvk.out).mono ?_
  rintro e w3 ⟨rfl, ms, F1, F1', h3, hm⟩
  have H3 := Lib.hid h3.fr
  clear h3 hm
  go_wp2_with fail
  refine (HAw.out _ H3.out).mono ?_
  rintro e w4 ⟨rfl, hf⟩
  have Hf := Lib.hid hf
  clear hf
  go_wp2
  go_ret
  exact ⟨rfl, Hf.out⟩
end Go.Proofs.Ytgcompnpjpmanaa
