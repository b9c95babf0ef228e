/- Own texts of this claim, part 7: no condition. -/
import Derived.Lib.SliceRun
import Derived.Maps.AppendAt
import Derived.Test.YtjidldfnlejdhaaZM5
import Derived.Test.YtjidldfnlejdhaaZM4
set_option linter.unusedVariables false
set_option linter.unusedSimpArgs false
section
/- Big integers: down. -/
namespace Go.Proofs.Ytjidldfnlejdhaa
set_option linter.unusedVariables false
set_option linter.unusedSimpArgs false
open Go Go.RowKit Go.Proofs.Rg Go.Proofs.Hp Go.Proofs.Bn
theorem down1_calls {w : World} {x : Nat} : Calls Try.prog 80 #[.int .u32 x] w fun e w' => e = .returned (.bool (decide (x ≠ 0))) ∧ w = w' := by
  have hd : ((x : Int) != 0) = decide (x ≠ 0) := by
    by_cases h : x = 0 <;> simp [h]
  obtain ⟨b, hb⟩ : ∃ b, decide (x ≠ 0) = b := ⟨_, rfl⟩
  rw [hb] at hd ⊢
  clear hb
  go_enter Try.func80, Try.ntmps80
  go_wp2
  go_ret
  exact ⟨rfl, rfl⟩
set_option maxHeartbeats 2000000 in
set_option maxRecDepth 100000 in
theorem IndexFunc_calls {w : World} {ds : List Nat} {v : Value} (hv : Reads w v ds.length 1 (u32s ds)) (hl : ds.length ≤ 1000000) :
    Calls Try.prog 99 #[v, .func (.func 80) #[] #[]] w fun e w' => ∃ z : Int, e = .returned (.int .i64 z) ∧ decide (0 ≤ z) = decide (val 4294967296 ds ≠ 0) ∧ Drew w w' := by
  obtain ⟨_, a, c, rfl, hav⟩ := hv
  have Hav := Lib.hid hav
  clear hav
  obtain ⟨n, hn⟩ : ∃ n, ds.length = n := ⟨_, rfl⟩
  have Hn := Lib.hid hn
  rw [hn] at Hav hl ⊢
  clear hn
  go_enter Try.func99, Try.ntmps99
  go_wp2_with fail
  go_loopw [8] (fun xk wl => ∃ k : Nat, xk = .int .i64 k ∧ k ≤ n ∧ val 4294967296 (ds.take k) = 0 ∧ Drew w wl) (fun xk _ => n - (intOf xk).toNat)
  case atStart => exact ⟨0, rfl, by omega, by simp [val], Drew.refl _⟩
  case round =>
    obtain ⟨k, rfl, hk, hv, hd⟩ := hrel
    by_cases hkn : k < n
    · obtain ⟨g, off, rfl, hg, hc⟩ := Hav.out (by omega)
      have hf := hd.fr []
      have e1 := (hf.cell (p := ⟨g, off + k, none⟩) hg (by simp)).trans (hc k _ (u32s_get (by have := Hn.out; omega)))
      have hgr : g < wr.heap.size := by have := hf.size; omega
      have hz := val_zero_iff (B := 4294967296) (by omega) (l := ds) k
      have hne := val_take_ne (B := 4294967296) (l := ds) k (by omega)
      have Hz := Lib.hid hz
      have Hne := Lib.hid hne
      have Hd := Lib.hid hd
      have Hv := Lib.hid hv
      clear hf hc hz hne hd hv
      generalize ds.getD k 0 = x at *
      go_wp2_with fail
      refine down1_calls.mono ?_
      rintro e w2 ⟨rfl, rfl⟩
      by_cases hx : x = 0
      · have hd0 : decide (x ≠ 0) = false := by simp [hx]
        have Hx := Lib.hid hx
        clear hx
        rw [hd0]
        go_wp2
        go_roundw
        case rel => exact ⟨k + 1, by go_num, by omega, Hz.out.2 ⟨Hv.out, Hx.out⟩, Hd.out⟩
        case measure => simp [intOf]; omega
      · have hd0 : decide (x ≠ 0) = true := by simp [hx]
        have Hx := Lib.hid hx
        clear hx
        rw [hd0]
        go_wp2
        go_ret
        refine ⟨k, rfl, ?_, Hd.out⟩
        have h := Hne.out (fun h => Hx.out (Hz.out.1 h).2) (by have := Hn.out; omega)
        rw [decide_eq_true h]
        simp
    · obtain rfl : k = n := by omega
      rw [List.take_of_length_le (by have := Hn.out; omega)] at hv
      have Hd := Lib.hid hd
      have Hv := Lib.hid hv
      clear hd hv
      go_wp2
      go_ret
      refine ⟨-1, rfl, ?_, Hd.out⟩
      rw [Hv.out]; rfl
theorem ContainsFunc_calls {w : World} {ds : List Nat} {v : Value} (hv : Reads w v ds.length 1 (u32s ds)) (hl : ds.length ≤ 1000000) :
    Calls Try.prog 79 #[v, .func (.func 80) #[] #[]] w fun e w' => e = .returned (.bool (decide (val 4294967296 ds ≠ 0))) ∧ Drew w w' := by
  have hi := IndexFunc_calls hv hl
  obtain ⟨b, hb⟩ : ∃ b, decide (val 4294967296 ds ≠ 0) = b := ⟨_, rfl⟩
  rw [hb] at hi ⊢
  have Hi := Lib.hid hi
  clear hi hb
  obtain ⟨_, a, c, rfl, _⟩ := hv
  go_enter Try.func79, Try.ntmps79
  go_wp2_with fail
  refine Hi.out.mono ?_
  rintro e w1 ⟨z, rfl, hz, hd⟩
  have Hd := Lib.hid hd
  clear hd
  go_wp2
  go_ret
  exact ⟨rfl, Hd.out⟩
set_option maxHeartbeats 4000000 in
set_option maxRecDepth 100000 in
theorem down_calls {w : World} {ds : List Nat} {k : Nat} {a : Option Addr} {c : Nat} (hv : Reads w (.slice a ds.length c) ds.length 1 (u32s ds)) (hD : Dig 4294967296 ds) (hcn : Canon ds) (hl : ds.length ≤ 1000000) (hc : ds.length ≤ c) (hk : k ≤ 1000000) :
    Calls Try.prog 65 #[.slice a ds.length c, .int .i64 k] w (DownPost w (val 4294967296 ds / 2 ^ k) (decide (val 4294967296 ds % 2 ^ k ≠ 0)) ds.length) := by
  obtain ⟨wd, hwd⟩ : ∃ wd, k / 32 = wd := ⟨_, rfl⟩
  obtain ⟨rs, hrs⟩ : ∃ rs, k % 32 = rs := ⟨_, rfl⟩
  have Ew : ((k : Int) / 32) = wd := by omega
  have Er : ((k : Int) % 32) = rs := by omega
  have hdg := fun w1 (hf : Fr [] w w1) i => digit_calls (hv.fr hf) (by omega) i
  have Hdg := Lib.hid hdg
  clear hdg
  by_cases hb : ds.length ≤ wd
  · have hlt : val 4294967296 ds < 2 ^ k := by
      have h1 := val_lt hD
      have h2 := (two_split (ds := ds) hwd hrs).1
      have h3 : 4294967296 ^ ds.length ≤ 4294967296 ^ wd := Nat.pow_le_pow_right (by omega) hb
      have h4 := Nat.le_mul_of_pos_right (4294967296 ^ wd) (Nat.pow_pos (n := rs) (show 0 < 2 by omega))
      omega
    have hlost : decide (val 4294967296 ds % 2 ^ k ≠ 0) = decide (0 < ds.length) := by
      rw [Nat.mod_eq_of_lt hlt]
      by_cases h0 : ds = []
      · subst h0; rfl
      · have := canon_pos (B := 4294967296) (by omega) hcn h0
        have h1 : 0 < ds.length := List.length_pos_iff.2 h0
        rw [decide_eq_true (by omega), decide_eq_true (by omega)]
    rw [Nat.div_eq_of_lt hlt, hlost]
    obtain ⟨n, hn⟩ : ∃ n, ds.length = n := ⟨_, rfl⟩
    rw [hn] at hb hc ⊢
    have Hn := Lib.hid hn
    clear hv hlt hlost hwd hrs hn
    go_enter Try.func65, Try.ntmps65
    obtain ⟨lost, hlost⟩ : ∃ lost, decide (0 < n) = lost := ⟨_, rfl⟩
    rw [hlost]
    go_wp2
    go_ret2
    exact ⟨none, 0, [], rfl, reads_nil _, fun g hg => by simp [Value.ownBlock] at hg, Dig.nil, rfl, by simp, by simp, Fr.refl _ _⟩
  · have hcf := fun w1 (hf : Fr [] w w1) => ContainsFunc_calls (ds := ds.take wd) (v := .slice a wd c) (w := w1) (by
      have h := (Reads.take hv (by omega : wd ≤ ds.length)).fr hf
      rw [List.length_take, Nat.min_eq_left (by omega)]
      rw [u32s, ← List.map_take] at h
      exact h) (by rw [List.length_take]; omega)
    have hli := lost_iff hD hwd hrs (by omega)
    have hdd := fun i hi => down_digit hD hwd hrs (i := i) hi
    have hxl : val 4294967296 ds / 2 ^ k < 4294967296 ^ (ds.length - wd) := by
      have h1 := val_lt hD
      have h2 := (two_split (ds := ds) hwd hrs).1
      have hp := Nat.pow_pos (n := rs) (show 0 < 2 by omega)
      rw [h2]
      refine Nat.div_lt_of_lt_mul ?_
      rw [show 4294967296 ^ wd * 2 ^ rs * 4294967296 ^ (ds.length - wd) = 2 ^ rs * 4294967296 ^ (wd + (ds.length - wd)) by rw [Nat.pow_add]; simp only [Nat.mul_assoc, Nat.mul_comm, Nat.mul_left_comm], show wd + (ds.length - wd) = ds.length by omega]
      exact Nat.lt_of_lt_of_le h1 (Nat.le_mul_of_pos_left _ hp)
    have hdw : ∀ i, ds.getD i 0 < 4294967296 := fun i => hD.getD (by omega) i
    have hr32 : rs < 32 := by omega
    obtain ⟨_, _, _, e0, hav⟩ := hv
    simp only [Value.slice.injEq, true_and] at e0
    obtain ⟨rfl, rfl⟩ := e0
    obtain ⟨X, hX⟩ : ∃ X, val 4294967296 ds / 2 ^ k = X := ⟨_, rfl⟩
    simp only [hX] at hdd hxl ⊢
    obtain ⟨n, hn⟩ : ∃ n, ds.length = n := ⟨_, rfl⟩
    rw [hn] at hb hc hl hxl hav
    simp only [hn] at hdd ⊢
    have Hn := Lib.hid hn
    have Hli := Lib.hid hli
    have Hdd := Lib.hid hdd
    have Hcf := Lib.hid hcf
    have Hxl := Lib.hid hxl
    have Hav := Lib.hid hav
    have Hdw := Lib.hid hdw
    clear hli hcf hdd hX hav hcn hn hwd hrs hdw hxl
    obtain ⟨lost, hlost⟩ : ∃ lost, decide (val 4294967296 ds % 2 ^ k ≠ 0) = lost := ⟨_, rfl⟩
    rw [hlost]
    have Hlost := Lib.hid hlost
    clear hlost
    go_enter Try.func65, Try.ntmps65
    go_wp2_with fail
    refine (Hcf.out _ (Fr.refl _ _)).mono ?_
    rintro e w1 ⟨rfl, hd⟩
    have hf := hd.fr []
    obtain ⟨g, off, rfl, hg, hcc⟩ := Hav.out (by omega)
    have e1 := (hf.cell (p := ⟨g, off + wd, none⟩) hg (by simp)).trans (hcc wd _ (u32s_get (by have := Hn.out; omega)))
    have hgr : g < w1.heap.size := by have := hf.size; omega
    have ham := and_mask (Hdw.out wd) hr32
    have Hf := Lib.hid hf
    have hdl : lost = decide (¬ (val 4294967296 (ds.take wd) = 0 ∧ ds.getD wd 0 % 2 ^ rs = 0)) := by rw [← Hlost.out]; exact decide_eq_decide.2 (not_congr Hli.out)
    clear hd hf hcc
    obtain ⟨x, hx⟩ : ∃ x, ds.getD wd 0 = x := ⟨_, rfl⟩
    rw [hx] at e1 ham hdl
    clear hx
    by_cases hv0 : val 4294967296 (ds.take wd) = 0
    have hd0 : decide (val 4294967296 (ds.take wd) ≠ 0) = false := by simp [hv0]
    have hbl : decide (x % 2 ^ rs ≠ 0) = lost := by rw [hdl]; simp [hv0]
    rw [hbl] at ham
    rw [hd0]
    clear hd0 hv0 hdl hbl
    rotate_left
    have hd0 : decide (val 4294967296 (ds.take wd) ≠ 0) = true := by simp [hv0]
    obtain rfl : lost = true := by rw [hdl]; simp [hv0]
    rw [hd0]
    clear hd0 hv0 hdl ham
    rotate_left
    all_goals go_wp2_with (refine wpList_make1 rfl (t := 39) (e := 71) (n := n - wd) (z := .int .u32 0) (bytes := 4) rfl (congrArg (Value.int .i64) (by omega : (n : Int) - wd = ((n - wd : Nat) : Int))) (congrArg (Value.int .i64) (by omega : (n : Int) - wd = ((n - wd : Nat) : Int))) Try.underlying39 info_u32 rfl (by omega) (by unfold maxLen; omega) ?_)
    all_goals
      intro w2 ho2 hf2 hsz2
      obtain ⟨m, hm⟩ : ∃ m, n - wd = m := ⟨_, rfl⟩
      have hmi : (n : Int) - wd = m := by omega
      rw [hm] at ho2
      rw [hm, hmi]
      have hwm : wd + m = n := by omega
      have Hf2 := Lib.hid (Hf.out.trans0 hf2)
      have Ho2 := Lib.hid ho2
      have Hwm := Lib.hid hwm
      obtain ⟨q, hq⟩ : ∃ q, w1.heap.size = q := ⟨_, rfl⟩
      have hqw : w.heap.size ≤ q := by have := Hf.out.size; omega
      have Hqw := Lib.hid hqw
      rw [hq] at Ho2
      rw [hq]
      have hgq : g < q := by omega
      clear hf2 ho2 hmi hm hsz2 e1 hgr hwm hqw hq
      go_wp2_with fail
      go_loopw [46] (fun xk wl => ∃ (k : Nat) (l : List Nat), xk = .int .i64 k ∧ k ≤ m ∧ l.length = m ∧ Dig 4294967296 l ∧ (∀ j, j < k → l.getD j 0 = X / 4294967296 ^ j % 4294967296) ∧
          wl.ownsRow q 71 1 (.slice (some ⟨q, 0, none⟩) m m) m (u32s l) ∧ Fr [] w wl) (fun xk _ => m - (intOf xk).toNat)
      case atStart => exact ⟨0, List.replicate m 0, rfl, by omega, List.length_replicate, Dig.replicate (by omega) m, fun j hj => by omega, by rw [u32s_zero]; exact Ho2.out, Hf2.out⟩
      case round =>
        obtain ⟨j, l, rfl, hj, hl, hD, hdj, ho, hf⟩ := hrel
        have hol := owns_lt ho rfl
        by_cases hjm : j < m
        · have hwj : wd + j < n := by have := Hwm.out; omega
          obtain ⟨_, _, e0, _, hcc⟩ := Hav.out (by omega)
          simp only [Option.some.injEq, Addr.mk.injEq, and_true] at e0
          obtain ⟨rfl, rfl⟩ := e0
          have e2 := (hf.cell (p := ⟨g, off + (wd + j), none⟩) hg (by simp)).trans (hcc (wd + j) _ (u32s_get (by have := Hn.out; omega)))
          have hgr2 : g < wr.heap.size := by have := hf.size; omega
          have hdg := fun w2 (hf2 : Fr [] w w2) => Hdg.out w2 hf2 (wd + j + 1)
          rw [Hn.out, show (((wd + j + 1 : Nat)) : Int) = (wd : Int) + j + 1 by omega] at hdg
          have hset := fun d => owns_set ho rfl (j := j) (by rw [u32s_length]; omega) (.int .u32 d)
          have hfz := owns_frozen ho rfl j
          have e3 := owns_cell ho rfl (u32s_get (l := l) (i := j) (by omega))
          have hd1 := Hdw.out (wd + j)
          have hd2 := Hdw.out (wd + j + 1)
          have hdx := Hdd.out j hwj
          have Hset := Lib.hid hset
          have HDG := Lib.hid hdg
          have HDl := Lib.hid hD
          have Hdj := Lib.hid hdj
          have Hl := Lib.hid hl
          have Hf := Lib.hid hf
          clear ho hf hD hdj hl hset hdg hcc
          generalize ds.getD (wd + j) 0 = x at *
          generalize ds.getD (wd + j + 1) 0 = y at *
          have Ex : IntKind.u64.wrap (x : Int) = x := IntWalk.u64_in _ (by omega)
          have Ev := or_two hd1 hd2
          have hvb : val 4294967296 [x, y] < 18446744073709551616 := by simp [val]; omega
          obtain ⟨v, hv⟩ : ∃ v, val 4294967296 [x, y] = v := ⟨_, rfl⟩
          rw [hv] at Ev hvb hdx
          have Hdx := Lib.hid hdx
          have Hvb := Lib.hid hvb
          clear hd1 hd2 hv hdx hvb
          go_wp2
          refine wp_region_segs [([0, 1, 2, 3, 4, 5, 6, 7, 8, 9, 10, 11, 12], [5]), ([13, 14, 15, 16], [])] (by kernel_rfl) (by kernel_rfl) ?_
          (simp only [wpSegs, pick, Array.getD_eq_getD_getElem?, List.getElem?_toArray, List.getElem?_cons_succ, List.getElem?_cons_zero, Option.getD_some])
          go_wp2_with fail
          refine (HDG.out _ (by have := Hf.out; (repeat first | exact Fr.refl _ _ | assumption | apply Fr.n | apply Fr.d | apply Fr.a | refine Fr.s ?_ (.inr (by simp; try omega)) _))).mono ?_
          rintro e w3 ⟨rfl, rfl⟩
          go_wp2
          refine Mid.intro ⟨⟨again_cell (T := 71) rfl rfl rfl Try.underlying71 rfl e2 rfl, trivial⟩, ?_⟩
          go_wp2
          refine Mid.intro ⟨trivial, Strict.intro rfl ?_⟩
          go_wp2
          go_roundw
          case rel =>
            refine ⟨j + 1, l.set j (v / 2 ^ rs % 4294967296), by go_num, by omega, by rw [List.length_set]; exact Hl.out, HDl.out.set (Nat.mod_lt _ (by omega)), ?_, ?_, ?_⟩
            · intro i hi
              by_cases hij : i = j
              · subst hij
                rw [List.getD_eq_getElem?_getD, List.getElem?_set_self (by have := Hl.out; omega), Hdx.out]
                rfl
              · rw [getD_set_ne hij]
                exact Hdj.out i (by omega)
            · have e : ((v / 2 ^ rs % 4294967296 : Nat) : Int) = (v : Int) / 2 ^ rs % 4294967296 := by simp
              rw [u32s_set, e]
              exact Hset.out _
            · exact (Hf.out.setCell (.inr (by have := Hqw.out; simp; omega)) _).drew
          case measure => simp [intOf]; omega
        · obtain rfl : j = m := by omega
          have hvd := val_of_digits (B := 4294967296) (X := X) (l := l) (by omega) (fun i hi => hdj i (by omega))
          rw [hl, Nat.mod_eq_of_lt (by have h := Hxl.out; have h2 := Hwm.out; rw [show n - wd = j by omega] at h; exact h)] at hvd
          have Ho := Lib.hid ho
          have Hf := Lib.hid hf
          have HDl := Lib.hid hD
          have Hvd := Lib.hid hvd
          have Hl := Lib.hid hl
          clear ho hf hD hvd hl hdj
          go_wp2
          go_ret2
          have hl := Hl.out
          subst hl
          exact ⟨_, _, l, rfl, Reads.of_owns Ho.out, fun g' hg' => (by simp [Value.ownBlock] at hg'; have := Hqw.out; omega), HDl.out, Hvd.out, by have := Hwm.out; omega, Nat.le_refl _, Hf.out⟩
end Go.Proofs.Ytjidldfnlejdhaa
end

section
/- Big integers: Shift. -/
namespace Go.Proofs.Ytjidldfnlejdhaa
set_option linter.unusedVariables false
set_option linter.unusedSimpArgs false
open Go Go.RowKit Go.Proofs.Rg Go.Proofs.Hp Go.Proofs.Bn
set_option maxHeartbeats 8000000 in
set_option maxRecDepth 100000 in
theorem Shift_calls {w : World} {neg : Bool} {ds : List Nat} {k : Int} {a : Option Addr} {c : Nat} (hv : Reads w (.slice a ds.length c) ds.length 1 (u32s ds)) (hD : Dig 4294967296 ds) (hl : ds.length ≤ 10000) (hc : ds.length ≤ c) (hk1 : -9223372036854775808 ≤ k) (hk2 : k < 9223372036854775808) :
    Calls Try.prog 42 #[.agg #[.bool neg, .slice a ds.length c], .int .i64 k] w (BigPost w (w.heap.size ≤ ·) (shiftS neg ds k)) := by
  have hra := fun w1 (hf : Fr [] w w1) => Right_calls (neg := neg) (hv.fr hf) (by omega)
  have Hk := Lib.hid (And.intro hk1 hk2)
  clear hk1 hk2
  obtain ⟨r, hS⟩ : ∃ r, r = shiftS neg ds k := ⟨_, rfl⟩
  rw [← hS]
  unfold shiftS at hS
  have Hv := Lib.hid hv
  have HDd := Lib.hid hD
  clear hv hD
  cases hR1 : RightB neg ds with
  | false =>
    rw [hR1] at hS hra
    simp only [if_true] at hS
    subst hS
    have Hra := Lib.hid hra
    clear hR1 hra
    go_enter Try.func42, Try.ntmps42
    go_wp2_with fail
    refine (Hra.out _ (by (repeat first | exact Fr.refl _ _ | assumption | apply Fr.n | apply Fr.d | apply Fr.a | refine Fr.s ?_ (.inr (by simp; try omega)) _))).mono ?_
    rintro e w1 ⟨rfl, hf⟩
    have hc := (hf.block (w.heap.size + 1) (by simp) (by simp)).trans (show _ = some (.cells #[.bool false, .slice none 0 0] 41 (0, 0)) by (repeat first | rw [if_pos (by omega)] | rw [if_neg (by omega)] | rw [hp_drew] | rw [hp_drewN] | rw [hp_alloc_size] | rw [hp_setCell_size] | rw [hp_alloc] | rw [hp_setCell] | rw [oMS] | rw [upd_cells] | rw [lSZ] | rw [lSS] | rfl))
    have c0 := heap_eq_cell hc 0
    have c1 := heap_eq_cell hc 1
    have z0 := heap_eq_frozen hc 0
    have z1 := heap_eq_frozen hc 1
    have cl := lt_of_block hc
    have Hc := Lib.hid hc
    have Hf := Lib.hid (Fr.trans0 (by (repeat first | exact Fr.refl _ _ | assumption | apply Fr.n | apply Fr.d | apply Fr.a | refine Fr.s ?_ (.inr (by simp; try omega)) _) : Fr [] w _) hf)
    clear hf hc
    go_wp2
    (try simp only [Exit.inBlock, Exit.then])
    refine bodyPost_ret (big_result rfl (b := w.heap.size + 1) (x := .bool false) (y := .slice none 0 0) rfl ?_ rfl) rfl ⟨_, _, ⟨Nat.le_refl _, fun g hg => (by cases hg)⟩, rfl, reads_nil _, ?_⟩
    · have h := Hc.out
      (repeat first | rw [if_pos (by omega)] | rw [if_neg (by omega)] | rw [hp_drew] | rw [hp_drewN] | rw [hp_alloc_size] | rw [hp_setCell_size] | rw [hp_alloc] | rw [hp_setCell] | rw [oMS] | rw [upd_cells] | rw [lSZ] | rw [lSS] | rfl)
      rw [h]
      (repeat first | rw [if_pos (by omega)] | rw [if_neg (by omega)] | rw [hp_drew] | rw [hp_drewN] | rw [hp_alloc_size] | rw [hp_setCell_size] | rw [hp_alloc] | rw [hp_setCell] | rw [oMS] | rw [upd_cells] | rw [lSZ] | rw [lSS] | rfl)
    · exact (Hf.out.setCell (.inr (by simp; try omega)) _).setCell (.inr (by simp; try omega)) _
  | true =>
    obtain ⟨cA, lA, _⟩ := right_canon hR1
    rw [hR1] at hS hra
    simp only [Bool.true_eq_false, if_false] at hS
    have Hra := Lib.hid hra
    have HcA := Lib.hid cA
    clear hR1 hra cA
    by_cases h0 : ds.length = 0
    · rw [if_pos h0] at hS
      subst hS
      rw [h0] at Hra ⊢
      clear h0
      go_enter Try.func42, Try.ntmps42
      go_wp2_with fail
      refine (Hra.out _ (by (repeat first | exact Fr.refl _ _ | assumption | apply Fr.n | apply Fr.d | apply Fr.a | refine Fr.s ?_ (.inr (by simp; try omega)) _))).mono ?_
      rintro e w1 ⟨rfl, hf⟩
      have hb := (hf.block w.heap.size (by simp; omega) (by simp)).trans (show _ = some (.cells #[.bool neg, .slice a 0 c] 41 (0, 0)) by (repeat first | rw [if_pos (by omega)] | rw [if_neg (by omega)] | rw [hp_drew] | rw [hp_drewN] | rw [hp_alloc_size] | rw [hp_setCell_size] | rw [hp_alloc] | rw [hp_setCell] | rw [oMS] | rw [upd_cells] | rw [lSZ] | rw [lSS] | rfl))
      have b0 := heap_eq_cell hb 0
      have b1 := heap_eq_cell hb 1
      have bl := lt_of_block hb
      have hc := (hf.block (w.heap.size + 1) (by simp) (by simp)).trans (show _ = some (.cells #[.bool false, .slice none 0 0] 41 (0, 0)) by (repeat first | rw [if_pos (by omega)] | rw [if_neg (by omega)] | rw [hp_drew] | rw [hp_drewN] | rw [hp_alloc_size] | rw [hp_setCell_size] | rw [hp_alloc] | rw [hp_setCell] | rw [oMS] | rw [upd_cells] | rw [lSZ] | rw [lSS] | rfl))
      have c0 := heap_eq_cell hc 0
      have c1 := heap_eq_cell hc 1
      have z0 := heap_eq_frozen hc 0
      have z1 := heap_eq_frozen hc 1
      have cl := lt_of_block hc
      have Hc := Lib.hid hc
      have Hf := Lib.hid (Fr.trans0 (by (repeat first | exact Fr.refl _ _ | assumption | apply Fr.n | apply Fr.d | apply Fr.a | refine Fr.s ?_ (.inr (by simp; try omega)) _) : Fr [] w _) hf)
      clear hf hc hb
      go_wp2
      (try simp only [Exit.inBlock, Exit.then])
      refine bodyPost_ret (big_result rfl (b := w.heap.size + 1) (x := .bool false) (y := .slice none 0 0) rfl ?_ rfl) rfl ⟨_, _, ⟨Nat.le_refl _, fun g hg => (by cases hg)⟩, rfl, reads_nil _, ?_⟩
      · have h := Hc.out
        (repeat first | rw [if_pos (by omega)] | rw [if_neg (by omega)] | rw [hp_drew] | rw [hp_drewN] | rw [hp_alloc_size] | rw [hp_setCell_size] | rw [hp_alloc] | rw [hp_setCell] | rw [oMS] | rw [upd_cells] | rw [lSZ] | rw [lSS] | rfl)
        rw [h]
        (repeat first | rw [if_pos (by omega)] | rw [if_neg (by omega)] | rw [hp_drew] | rw [hp_drewN] | rw [hp_alloc_size] | rw [hp_setCell_size] | rw [hp_alloc] | rw [hp_setCell] | rw [oMS] | rw [upd_cells] | rw [lSZ] | rw [lSS] | rfl)
      · exact (Hf.out.setCell (.inr (by simp; try omega)) _).setCell (.inr (by simp; try omega)) _
    rw [if_neg h0] at hS
    by_cases hk : k < 0
    · rw [if_pos hk] at hS
      unfold downN at hS
      have hd1 : decide (k < 0) = true := by simp; omega
      have hle : ¬ ds.length = 0 := h0
      by_cases hbig : ¬ k < -4096
      obtain ⟨m, hm⟩ : ∃ m : Nat, -k = m := ⟨(-k).toNat, by omega⟩
      have hmt : (-k).toNat = m := by omega
      rw [if_neg hbig, hmt] at hS
      have hdn := fun w1 (hf : Fr [] w w1) => down_calls (k := m) (Hv.out.fr hf) HDd.out HcA.out (by omega) hc (by omega)
      obtain ⟨X, hX⟩ : ∃ X, val 4294967296 ds / 2 ^ m = X := ⟨_, rfl⟩
      obtain ⟨lost, hlost⟩ : ∃ lost, decide (val 4294967296 ds % 2 ^ m ≠ 0) = lost := ⟨_, rfl⟩
      simp only [hX, hlost] at hdn
      rw [hX, hlost] at hS
      have HDN := Lib.hid hdn
      have HS := Lib.hid hS
      clear hdn hX hlost hS hmt h0
      rotate_left
      have hbig := Decidable.not_not.1 hbig
      rw [if_pos hbig] at hS
      have hdn := fun w1 (hf : Fr [] w w1) => down_calls (k := 4096) (Hv.out.fr hf) HDd.out HcA.out (by omega) hc (by omega)
      obtain ⟨X, hX⟩ : ∃ X, val 4294967296 ds / 2 ^ 4096 = X := ⟨_, rfl⟩
      obtain ⟨lost, hlost⟩ : ∃ lost, decide (val 4294967296 ds % 2 ^ 4096 ≠ 0) = lost := ⟨_, rfl⟩
      simp only [hX, hlost] at hdn
      rw [hX, hlost] at hS
      have HDN := Lib.hid hdn
      have HS := Lib.hid hS
      clear hdn hX hlost hS h0
      rotate_left
      all_goals
        go_enter Try.func42, Try.ntmps42
        go_wp2_with fail
        refine (Hra.out _ (by (repeat first | exact Fr.refl _ _ | assumption | apply Fr.n | apply Fr.d | apply Fr.a | refine Fr.s ?_ (.inr (by simp; try omega)) _))).mono ?_
        rintro e w1 ⟨rfl, hf⟩
        have hb := (hf.block w.heap.size (by simp; omega) (by simp)).trans (show _ = some (.cells #[.bool neg, .slice a ds.length c] 41 (0, 0)) by (repeat first | rw [if_pos (by omega)] | rw [if_neg (by omega)] | rw [hp_drew] | rw [hp_drewN] | rw [hp_alloc_size] | rw [hp_setCell_size] | rw [hp_alloc] | rw [hp_setCell] | rw [oMS] | rw [upd_cells] | rw [lSZ] | rw [lSS] | rfl))
        have b0 := heap_eq_cell hb 0
        have b1 := heap_eq_cell hb 1
        have bl := lt_of_block hb
        have Hb := Lib.hid hb
        have Hc := Lib.hid ((hf.block (w.heap.size + 1) (by simp) (by simp)).trans (show _ = some (.cells #[.bool false, .slice none 0 0] 41 (0, 0)) by (repeat first | rw [if_pos (by omega)] | rw [if_neg (by omega)] | rw [hp_drew] | rw [hp_drewN] | rw [hp_alloc_size] | rw [hp_setCell_size] | rw [hp_alloc] | rw [hp_setCell] | rw [oMS] | rw [upd_cells] | rw [lSZ] | rw [lSS] | rfl)))
        have Hf := Lib.hid (Fr.trans0 (by (repeat first | exact Fr.refl _ _ | assumption | apply Fr.n | apply Fr.d | apply Fr.a | refine Fr.s ?_ (.inr (by simp; try omega)) _) : Fr [] w _) hf)
        clear hf hb
        go_wp2_with fail
        refine (HDN.out _ Hf.out).mono ?_
        rintro e w2 ⟨pa, pc, os, rfl, hr, hlo, hDo, hvo, hll, hcap, hf⟩
        have hb2 := (hf.block _ bl (by simp)).trans Hb.out
        have b0' := heap_eq_cell hb2 0
        have bl' := lt_of_block hb2
        have Hb2 := Lib.hid hb2
        have hc2 := (hf.block _ (lt_of_block Hc.out) (by simp)).trans Hc.out
        have Hc2 := Lib.hid hc2
        have Hf2 := Lib.hid (Hf.out.trans0 hf)
        have Hr := Lib.hid hr
        have Hlo := Lib.hid hlo
        have HDo := Lib.hid hDo
        have Hvo := Lib.hid hvo
        have Hll := Lib.hid hll
        have Hcap := Lib.hid hcap
        have h2w : w.heap.size + 1 < w1.heap.size := lt_of_block Hc.out
        have H2w := Lib.hid (And.intro h2w hf.size)
        clear hf hb2 hc2 hr hlo hDo hvo hll hcap b0 b1 bl h2w
        cases neg <;> cases lost
        go_wp2_with fail
        rotate_left 3
        · have hS := HS.out
          simp only [Bool.and_self, if_true] at hS
          refine (plus_calls (Hr.out.fr (by (repeat first | exact Fr.refl _ _ | assumption | apply Fr.n | apply Fr.d | apply Fr.a | refine Fr.s ?_ (.inr (by simp; try omega)) _))) (reads_blk (cs := u32s [1]) (by (repeat first | rw [if_pos (by omega)] | rw [if_neg (by omega)] | rw [hp_drew] | rw [hp_drewN] | rw [hp_alloc_size] | rw [hp_setCell_size] | rw [hp_alloc] | rw [hp_setCell] | rw [oMS] | rw [upd_cells] | rw [lSZ] | rw [lSS] | rfl)) rfl) HDo.out (db := [1]) (fun x hx => by simp at hx; omega) (by have := Hll.out; omega) (by simp)).mono ?_
          rintro e w4 ⟨qa, qc, qs, rfl, ho, hD, hV, hl4, hlc, hf0⟩
          rw [Hvo.out, show val 4294967296 [1] = 1 by rfl] at hV
          simp only [List.length_cons, List.length_nil] at hl4
          have hmd := made_calls (neg := true) (Reads.of_owns ho) hD (by have := Hll.out; omega) hlc (A := fun g => w2.heap.size ≤ g) (fun g hg => by have h := owns_ge ho hg; simp at h; omega)
          rw [hV, ← hS] at hmd
          have HMD := Lib.hid (fun (A : Nat → Prop) (hA : ∀ g, w2.heap.size ≤ g → A g) => hmd.mono fun e w' h => BigPost.mono h hA)
          have hf : Fr [] w2 w4 := Fr.trans0 (by (repeat first | exact Fr.refl _ _ | assumption | apply Fr.n | apply Fr.d | apply Fr.a | refine Fr.s ?_ (.inr (by simp; try omega)) _)) hf0
          have b0'' := (heap_eq_cell ((hf.block _ bl' (by simp)).trans Hb2.out) 0)
          have bl'' := lt_of_block ((hf.block _ bl' (by simp)).trans Hb2.out)
          have Hc4 := Lib.hid ((hf.block _ (lt_of_block Hc2.out) (by simp)).trans Hc2.out)
          have Hf4 := Lib.hid (Hf2.out.trans0 hf)
          clear ho hD hV hl4 hlc hf0 hf hmd hS
          go_wp2_with fail
          refine (HMD.out (fun g => w1.heap.size ≤ g) (fun g hg => by have := H2w.out; omega)).mono ?_
          rintro e w5 ⟨ra, rc, hlo, rfl, hr, hf⟩
          have hc5 := (hf.block _ (lt_of_block Hc4.out) (by simp)).trans Hc4.out
          have c0 := heap_eq_cell hc5 0
          have c1 := heap_eq_cell hc5 1
          have z0 := heap_eq_frozen hc5 0
          have z1 := heap_eq_frozen hc5 1
          have cl := lt_of_block hc5
          have Hc5 := Lib.hid hc5
          have Hlo5 := Lib.hid hlo
          have Hr5 := Lib.hid hr
          have Hf5 := Lib.hid (Hf4.out.trans0 hf)
          clear hlo hr hf hc5
          obtain ⟨r1, r2, r3⟩ := r
          go_wp2
          (try simp only [Exit.inBlock, Exit.then])
          refine bodyPost_ret (big_result rfl (b := w.heap.size + 1) (x := .bool r1) (y := .slice ra r2.length rc) rfl ?_ rfl) rfl ⟨_, _, ⟨Hlo5.out.1, fun g hg => (by have := Hlo5.out.2 g hg; have := H2w.out; omega)⟩, rfl, ?_, ?_⟩
          · have h := Hc5.out
            (repeat first | rw [if_pos (by omega)] | rw [if_neg (by omega)] | rw [hp_drew] | rw [hp_drewN] | rw [hp_alloc_size] | rw [hp_setCell_size] | rw [hp_alloc] | rw [hp_setCell] | rw [oMS] | rw [upd_cells] | rw [lSZ] | rw [lSS] | rfl)
            rw [h]
            (repeat first | rw [if_pos (by omega)] | rw [if_neg (by omega)] | rw [hp_drew] | rw [hp_drewN] | rw [hp_alloc_size] | rw [hp_setCell_size] | rw [hp_alloc] | rw [hp_setCell] | rw [oMS] | rw [upd_cells] | rw [lSZ] | rw [lSS] | rfl)
          · refine Hr5.out.keep fun x hx hl => ?_
            have := Hlo5.out.2 x hx
            have hcl := H2w.out
            rw [setCell_else _ _ _ (by simp; omega), setCell_else _ _ _ (by simp; omega)]
          · exact (Hf5.out.setCell (.inr (by simp; try omega)) _).setCell (.inr (by simp; try omega)) _
        all_goals
          have hS := HS.out
          simp only [Bool.and_self, Bool.false_and, Bool.and_false, Bool.false_eq_true, if_false, Nat.add_zero] at hS
          have HSS := Lib.hid hS
          have hmd := fun neg => made_calls (neg := neg) Hr.out HDo.out (by have := Hll.out; omega) Hcap.out (A := fun g => w1.heap.size ≤ g) Hlo.out
          simp only [Hvo.out] at hmd
          have HMD := Lib.hid hmd
          have Hc4 := Lib.hid Hc2.out
          have Hf4 := Lib.hid Hf2.out
          clear hS hmd
          refine (HMD.out _).mono ?_
          rintro e w5 ⟨ra, rc, hlo, rfl, hr, hf⟩
          rw [← HSS.out] at hlo hr
          rw [← HSS.out]
          have hc5 := (hf.block _ (lt_of_block Hc4.out) (by simp)).trans Hc4.out
          have c0 := heap_eq_cell hc5 0
          have c1 := heap_eq_cell hc5 1
          have z0 := heap_eq_frozen hc5 0
          have z1 := heap_eq_frozen hc5 1
          have cl := lt_of_block hc5
          have Hc5 := Lib.hid hc5
          have Hlo5 := Lib.hid hlo
          have Hr5 := Lib.hid hr
          have Hf5 := Lib.hid (Hf4.out.trans0 hf)
          clear hlo hr hf hc5
          obtain ⟨r1, r2, r3⟩ := r
          go_wp2
          (try simp only [Exit.inBlock, Exit.then])
          refine bodyPost_ret (big_result rfl (b := w.heap.size + 1) (x := .bool r1) (y := .slice ra r2.length rc) rfl ?_ rfl) rfl ⟨_, _, ⟨Hlo5.out.1, fun g hg => (by have := Hlo5.out.2 g hg; have := H2w.out; omega)⟩, rfl, ?_, ?_⟩
          · have h := Hc5.out
            (repeat first | rw [if_pos (by omega)] | rw [if_neg (by omega)] | rw [hp_drew] | rw [hp_drewN] | rw [hp_alloc_size] | rw [hp_setCell_size] | rw [hp_alloc] | rw [hp_setCell] | rw [oMS] | rw [upd_cells] | rw [lSZ] | rw [lSS] | rfl)
            rw [h]
            (repeat first | rw [if_pos (by omega)] | rw [if_neg (by omega)] | rw [hp_drew] | rw [hp_drewN] | rw [hp_alloc_size] | rw [hp_setCell_size] | rw [hp_alloc] | rw [hp_setCell] | rw [oMS] | rw [upd_cells] | rw [lSZ] | rw [lSS] | rfl)
          · refine Hr5.out.keep fun x hx hl => ?_
            have := Hlo5.out.2 x hx
            have hcl := H2w.out
            rw [setCell_else _ _ _ (by simp; omega), setCell_else _ _ _ (by simp; omega)]
          · exact (Hf5.out.setCell (.inr (by simp; try omega)) _).setCell (.inr (by simp; try omega)) _
    rw [if_neg hk] at hS
    by_cases hk2 : 2048 < k
    · rw [if_pos hk2] at hS
      subst hS
      have hle : ¬ ds.length = 0 := h0
      have hd1 : decide (k < 0) = false := by simp; omega
      have hd2 : decide (2048 < k) = true := by simp; omega
      clear hk hk2
      go_enter Try.func42, Try.ntmps42
      go_wp2_with fail
      refine (Hra.out _ (by (repeat first | exact Fr.refl _ _ | assumption | apply Fr.n | apply Fr.d | apply Fr.a | refine Fr.s ?_ (.inr (by simp; try omega)) _))).mono ?_
      rintro e w1 ⟨rfl, hf⟩
      have hb := (hf.block w.heap.size (by simp; omega) (by simp)).trans (show _ = some (.cells #[.bool neg, .slice a ds.length c] 41 (0, 0)) by (repeat first | rw [if_pos (by omega)] | rw [if_neg (by omega)] | rw [hp_drew] | rw [hp_drewN] | rw [hp_alloc_size] | rw [hp_setCell_size] | rw [hp_alloc] | rw [hp_setCell] | rw [oMS] | rw [upd_cells] | rw [lSZ] | rw [lSS] | rfl))
      have b0 := heap_eq_cell hb 0
      have b1 := heap_eq_cell hb 1
      have bl := lt_of_block hb
      have hc := (hf.block (w.heap.size + 1) (by simp) (by simp)).trans (show _ = some (.cells #[.bool false, .slice none 0 0] 41 (0, 0)) by (repeat first | rw [if_pos (by omega)] | rw [if_neg (by omega)] | rw [hp_drew] | rw [hp_drewN] | rw [hp_alloc_size] | rw [hp_setCell_size] | rw [hp_alloc] | rw [hp_setCell] | rw [oMS] | rw [upd_cells] | rw [lSZ] | rw [lSS] | rfl))
      have c0 := heap_eq_cell hc 0
      have c1 := heap_eq_cell hc 1
      have z0 := heap_eq_frozen hc 0
      have z1 := heap_eq_frozen hc 1
      have cl := lt_of_block hc
      have Hc := Lib.hid hc
      have Hf := Lib.hid (Fr.trans0 (by (repeat first | exact Fr.refl _ _ | assumption | apply Fr.n | apply Fr.d | apply Fr.a | refine Fr.s ?_ (.inr (by simp; try omega)) _) : Fr [] w _) hf)
      clear hf hc hb
      go_wp2
      (try simp only [Exit.inBlock, Exit.then])
      refine bodyPost_ret (big_result rfl (b := w.heap.size + 1) (x := .bool false) (y := .slice none 0 0) rfl ?_ rfl) rfl ⟨_, _, ⟨Nat.le_refl _, fun g hg => (by cases hg)⟩, rfl, reads_nil _, ?_⟩
      · have h := Hc.out
        (repeat first | rw [if_pos (by omega)] | rw [if_neg (by omega)] | rw [hp_drew] | rw [hp_drewN] | rw [hp_alloc_size] | rw [hp_setCell_size] | rw [hp_alloc] | rw [hp_setCell] | rw [oMS] | rw [upd_cells] | rw [lSZ] | rw [lSS] | rfl)
        rw [h]
        (repeat first | rw [if_pos (by omega)] | rw [if_neg (by omega)] | rw [hp_drew] | rw [hp_drewN] | rw [hp_alloc_size] | rw [hp_setCell_size] | rw [hp_alloc] | rw [hp_setCell] | rw [oMS] | rw [upd_cells] | rw [lSZ] | rw [lSS] | rfl)
      · exact (Hf.out.setCell (.inr (by simp; try omega)) _).setCell (.inr (by simp; try omega)) _
    rw [if_neg hk2] at hS
    obtain ⟨m, rfl⟩ : ∃ m : Nat, k = m := ⟨k.toNat, by omega⟩
    rw [Int.toNat_natCast] at hS
    obtain ⟨wd, hwd⟩ : ∃ wd, m / 32 = wd := ⟨_, rfl⟩
    obtain ⟨rs, hrs⟩ : ∃ rs, m % 32 = rs := ⟨_, rfl⟩
    have Ew : ((m : Int) / 32) = wd := by omega
    have Er : ((m : Int) % 32) = rs := by omega
    have hr32 : rs < 32 := by omega
    have hwb : wd ≤ 64 := by omega
    have Htp := Lib.hid (two_split (ds := ds) hwd hrs).1
    have hd1 : decide ((m : Int) < 0) = false := by simp
    have hd2 : decide ((2048 : Int) < m) = false := by simp; omega
    have Hn := Lib.hid (show ((wd : Int) + ds.length + 1) = ((wd + ds.length + 1 : Nat) : Int) by omega)
    have HS := Lib.hid hS
    clear hk hk2 hwd hrs hS
    go_enter Try.func42, Try.ntmps42
    go_wp2_with fail
    refine (Hra.out _ (by (repeat first | exact Fr.refl _ _ | assumption | apply Fr.n | apply Fr.d | apply Fr.a | refine Fr.s ?_ (.inr (by simp; try omega)) _))).mono ?_
    rintro e w1 ⟨rfl, hf⟩
    have hb := (hf.block w.heap.size (by simp; omega) (by simp)).trans (show _ = some (.cells #[.bool neg, .slice a ds.length c] 41 (0, 0)) by (repeat first | rw [if_pos (by omega)] | rw [if_neg (by omega)] | rw [hp_drew] | rw [hp_drewN] | rw [hp_alloc_size] | rw [hp_setCell_size] | rw [hp_alloc] | rw [hp_setCell] | rw [oMS] | rw [upd_cells] | rw [lSZ] | rw [lSS] | rfl))
    have b0 := heap_eq_cell hb 0
    have b1 := heap_eq_cell hb 1
    have bl := lt_of_block hb
    have Hb := Lib.hid hb
    have Hc := Lib.hid ((hf.block (w.heap.size + 1) (by simp) (by simp)).trans (show _ = some (.cells #[.bool false, .slice none 0 0] 41 (0, 0)) by (repeat first | rw [if_pos (by omega)] | rw [if_neg (by omega)] | rw [hp_drew] | rw [hp_drewN] | rw [hp_alloc_size] | rw [hp_setCell_size] | rw [hp_alloc] | rw [hp_setCell] | rw [oMS] | rw [upd_cells] | rw [lSZ] | rw [lSS] | rfl)))
    have Hf := Lib.hid (Fr.trans0 (by (repeat first | exact Fr.refl _ _ | assumption | apply Fr.n | apply Fr.d | apply Fr.a | refine Fr.s ?_ (.inr (by simp; try omega)) _) : Fr [] w _) hf)
    clear hf hb
    go_wp2_with (refine wpList_make1 rfl (t := 39) (e := 71) (n := wd + ds.length + 1) (z := .int .u32 0) (bytes := 4) rfl (congrArg (Value.int .i64) Hn.out) (congrArg (Value.int .i64) Hn.out) Try.underlying39 info_u32 rfl (by omega) (by unfold maxLen; omega) ?_)
    intro w2 ho2 hf2 hsz2
    obtain ⟨n, hn⟩ : ∃ n, wd + ds.length + 1 = n := ⟨_, rfl⟩
    have hni : ((wd : Int) + ds.length + 1) = n := by omega
    rw [hn] at ho2
    rw [hn, hni]
    have hb2 := (hf2.block _ bl (by simp)).trans Hb.out
    have Hc2 := Lib.hid ((hf2.block _ (lt_of_block Hc.out) (by simp)).trans Hc.out)
    have b0' := heap_eq_cell hb2 0
    have b1' := heap_eq_cell hb2 1
    have bl' := lt_of_block hb2
    have Hb2 := Lib.hid hb2
    obtain ⟨q, hq⟩ : ∃ q, w1.heap.size = q := ⟨_, rfl⟩
    have hqw : w.heap.size + 1 < q := by rw [← hq]; exact lt_of_block Hc.out
    rw [hq] at ho2
    rw [hq]
    have Ho2 := Lib.hid ho2
    have Hf2 := Lib.hid (Hf.out.trans0 hf2)
    have Hnn := Lib.hid hn
    have Haa := Lib.hid (Hv.out.2)
    clear ho2 hf2 hsz2 hn hni hb2 b0 b1 bl hq
    go_wp2_with fail
    go_loopw [70] (fun xk wl => ∃ (i : Nat) (l : List Nat), xk = .int .i64 i ∧ i ≤ ds.length ∧ l.length = n ∧ Dig 4294967296 l ∧ (∀ j, wd + i < j → l.getD j 0 = 0) ∧ l.getD (wd + i) 0 < 2 ^ rs ∧ val 4294967296 l = val 4294967296 (ds.take i) * (4294967296 ^ wd * 2 ^ rs) ∧
      wl.ownsRow q 71 1 (.slice (some ⟨q, 0, none⟩) n n) n (u32s l) ∧ Fr [] w wl ∧ wl.heap[w.heap.size]? = some (.cells #[.bool neg, .slice a ds.length c] 41 (0, 0)) ∧
      wl.heap[w.heap.size + 1]? = some (.cells #[.bool false, .slice none 0 0] 41 (0, 0))) (fun xk _ => ds.length - (intOf xk).toNat)
    case atStart => exact ⟨0, List.replicate n 0, rfl, by omega, List.length_replicate, Dig.replicate (by omega) n, fun j _ => by simp [List.getD_eq_getElem?_getD, List.getElem?_replicate]; split <;> rfl, by simp [List.getD_eq_getElem?_getD, List.getElem?_replicate]; split <;> simp [Nat.pow_pos], by simp [val, val_replicate], by rw [u32s_zero]; exact Ho2.out, Hf2.out, Hb2.out, Hc2.out⟩
    case round =>
      obtain ⟨i, l, rfl, hi, hl, hD, hz, hlow, hv, ho, hf, hb, hcc⟩ := hrel
      have hol := owns_lt ho rfl
      by_cases hin : i < ds.length
      · obtain ⟨_, _, e0, hga⟩ := Haa.out
        simp only [Value.slice.injEq, true_and] at e0
        obtain ⟨rfl, rfl⟩ := e0
        obtain ⟨g1, o1, rfl, hg1, hc1⟩ := hga (by omega)
        have e1 := (hf.cell (p := ⟨g1, o1 + i, none⟩) hg1 (by simp)).trans (hc1 i _ (u32s_get hin))
        have hgr : g1 < wr.heap.size := by have := hf.size; omega
        have hwi : wd + i < n := by have := Hnn.out; omega
        have hwi2 : wd + i + 1 < n := by have := Hnn.out; omega
        have e3 := owns_cell ho rfl (u32s_get (l := l) (i := wd + i) (by omega))
        have hfz := owns_frozen ho rfl (wd + i)
        have hfz2 := owns_frozen ho rfl (wd + i + 1)
        have hx : ds.getD i 0 < 4294967296 := HDd.out.getD (by omega) i
        have e4 := owns_cell ho rfl (u32s_get (l := l) (i := wd + i + 1) (by omega))
        have Hset := Lib.hid (fun d d2 => owns_set (owns_set ho rfl (j := wd + i) (by rw [u32s_length]; omega) (.int .u32 d)) rfl (j := wd + i + 1) (by rw [List.length_set, u32s_length]; omega) (.int .u32 d2))
        have Hvt := Lib.hid (val_take_succ 4294967296 ds i)
        have Hf3 := Lib.hid hf
        have HDl := Lib.hid hD
        have Hz := Lib.hid hz
        have Hv3 := Lib.hid hv
        have Hl := Lib.hid hl
        have Hlow := Lib.hid hlow
        have Hb3 := Lib.hid hb
        have Hc3 := Lib.hid hcc
        have Hxl := Lib.hid hx
        have Ex : IntKind.u64.wrap ((ds.getD i 0 : Nat) : Int) = (ds.getD i 0 : Nat) := IntWalk.u64_in _ (by omega)
        clear ho hf hD hz hv hl hlow hb hcc hc1 hga hx b0' b1' bl'
        have Hs1 := Lib.hid (fun d => val_set (B := 4294967296) d (show wd + i < l.length by have := Hl.out; omega))
        have Hs2 := Lib.hid (fun d d2 => val_set (B := 4294967296) (l := l.set (wd + i) d) d2 (show wd + i + 1 < (l.set (wd + i) d).length by rw [List.length_set]; have := Hl.out; omega))
        generalize ds.getD i 0 = x at *
        generalize l.getD (wd + i) 0 = o at *
        generalize l.getD (wd + i + 1) 0 = o2 at *
        obtain ⟨v, Es, hvb, Ey, hst⟩ := shl_facts Hxl.out hr32 Hlow.out
        have Hvb := Lib.hid hvb
        have Hst := Lib.hid hst
        clear hvb hst
        go_wp2
        go_roundw
        case rel =>
          obtain ⟨hv2, hlt⟩ := Hst.out
          have e1 : ((o + v % 4294967296 : Nat) : Int) = (o : Int) + (v : Int) % 4294967296 := by omega
          have e2 : ((v / 4294967296 % 4294967296 : Nat) : Int) = (v : Int) / 4294967296 % 4294967296 := by omega
          have h31 : 2 ^ rs ≤ 2 ^ 31 := Nat.pow_le_pow_right (by omega) (by omega)
          have hvb := Hvb.out
          have e3 : v / 4294967296 % 4294967296 = v / 4294967296 := Nat.mod_eq_of_lt (by omega)
          refine ⟨i + 1, (l.set (wd + i) (o + v % 4294967296)).set (wd + i + 1) (v / 4294967296 % 4294967296), by go_num, by omega, by rw [List.length_set, List.length_set]; exact Hl.out, (HDl.out.set hlt).set (Nat.mod_lt _ (by omega)), ?_, ?_, ?_, ?_, ?_, ?_, ?_⟩
          · intro j hj
            rw [getD_set_ne (by omega), getD_set_ne (by omega)]
            exact Hz.out j (by omega)
          · rw [List.getD_eq_getElem?_getD, show wd + (i + 1) = wd + i + 1 by omega, List.getElem?_set_self (by rw [List.length_set]; have := Hl.out; omega), e3]
            exact hvb
          · have h1 := Hs1.out (o + v % 4294967296)
            have h2 := Hs2.out (o + v % 4294967296) (v / 4294967296 % 4294967296)
            rw [getD_set_ne (by omega), Hz.out _ (by omega), Nat.mul_zero, Nat.add_zero] at h2
            rw [h2, Hvt.out, Nat.add_mul, ← Hv3.out, e3]
            have h3 : 4294967296 ^ (wd + i) * (o + v % 4294967296) = 4294967296 ^ (wd + i) * o + 4294967296 ^ (wd + i) * (v % 4294967296) := Nat.mul_add _ _ _
            have h4 : 4294967296 ^ i * x * (4294967296 ^ wd * 2 ^ rs) = 4294967296 ^ (wd + i) * (v % 4294967296) + 4294967296 ^ (wd + i + 1) * (v / 4294967296) := by
              rw [Nat.pow_succ, Nat.mul_assoc (4294967296 ^ (wd + i)), ← Nat.mul_add, Nat.mod_add_div, hv2, Nat.pow_add]
              simp only [Nat.mul_assoc, Nat.mul_left_comm, Nat.mul_comm]
            rw [h4]
            generalize 4294967296 ^ (wd + i) * (o + v % 4294967296) = u1 at *
            generalize 4294967296 ^ (wd + i) * o = u2 at *
            omega
          · rw [u32s_set, u32s_set, e1, e2]
            exact Hset.out _ _
          · exact (Hf3.out.setCell (.inr (by simp; omega)) _).setCell (.inr (by simp; omega)) _
          · (repeat first | rw [if_pos (by omega)] | rw [if_neg (by omega)] | rw [hp_drew] | rw [hp_drewN] | rw [hp_alloc_size] | rw [hp_setCell_size] | rw [hp_alloc] | rw [hp_setCell] | rw [oMS] | rw [upd_cells] | rw [lSZ] | rw [lSS] | rfl)
            exact Hb3.out
          · (repeat first | rw [if_pos (by omega)] | rw [if_neg (by omega)] | rw [hp_drew] | rw [hp_drewN] | rw [hp_alloc_size] | rw [hp_setCell_size] | rw [hp_alloc] | rw [hp_setCell] | rw [oMS] | rw [upd_cells] | rw [lSZ] | rw [lSS] | rfl)
            exact Hc3.out
        case measure => simp [intOf]; omega
      · obtain rfl : i = ds.length := by omega
        rw [List.take_length, ← Htp.out] at hv
        have b0'' := heap_eq_cell hb 0
        have bl'' := lt_of_block hb
        have Hvv := Lib.hid hv
        have Ho := Lib.hid ho
        have HDl := Lib.hid hD
        have Hl := Lib.hid hl
        have Hcc := Lib.hid hcc
        have Hff := Lib.hid hf
        clear hv ho hD hl hcc hf hb hz hlow b0' b1' bl'
        go_wp2_with fail
        have hln := Hl.out
        have hmc := made_calls (w := wr) (neg := neg) (ds := l) (a := some ⟨q, 0, none⟩) (c := n) (by have h := Reads.of_owns Ho.out; rw [hln]; exact h) HDl.out (by have := Hnn.out; omega) (by omega) (A := fun g => q ≤ g) (fun g hg => by
          have h : q = g := by simpa [Value.ownBlock] using hg
          omega)
        rw [hln, Hvv.out, ← HS.out] at hmc
        refine hmc.mono ?_
        rintro e w4 ⟨ra, rc, hlo, rfl, hr, hf⟩
        have hc4 := (hf.block _ (lt_of_block Hcc.out) (by simp)).trans Hcc.out
        have c0 := heap_eq_cell hc4 0
        have c1 := heap_eq_cell hc4 1
        have z0 := heap_eq_frozen hc4 0
        have z1 := heap_eq_frozen hc4 1
        have cl := lt_of_block hc4
        have Hc4 := Lib.hid hc4
        have Hlo := Lib.hid hlo
        have Hr := Lib.hid hr
        have Hf5 := Lib.hid (Hff.out.trans0 hf)
        have Hqw := Lib.hid hqw
        clear hlo hr hf hc4 hmc hln
        obtain ⟨r1, r2, r3⟩ := r
        go_wp2
        (try simp only [Exit.inBlock, Exit.then])
        refine bodyPost_ret (big_result rfl (b := w.heap.size + 1) (x := .bool r1) (y := .slice ra r2.length rc) rfl ?_ rfl) rfl ⟨_, _, ⟨Hlo.out.1, fun g hg => (by have := Hlo.out.2 g hg; have := Hqw.out; omega)⟩, rfl, ?_, ?_⟩
        · have h := Hc4.out
          (repeat first | rw [if_pos (by omega)] | rw [if_neg (by omega)] | rw [hp_drew] | rw [hp_drewN] | rw [hp_alloc_size] | rw [hp_setCell_size] | rw [hp_alloc] | rw [hp_setCell] | rw [oMS] | rw [upd_cells] | rw [lSZ] | rw [lSS] | rfl)
          rw [h]
          (repeat first | rw [if_pos (by omega)] | rw [if_neg (by omega)] | rw [hp_drew] | rw [hp_drewN] | rw [hp_alloc_size] | rw [hp_setCell_size] | rw [hp_alloc] | rw [hp_setCell] | rw [oMS] | rw [upd_cells] | rw [lSZ] | rw [lSS] | rfl)
        · refine Hr.out.keep fun x hx hl => ?_
          have := Hlo.out.2 x hx
          have hcl := Hqw.out
          rw [setCell_else _ _ _ (by simp; omega), setCell_else _ _ _ (by simp; omega)]
        · exact (Hf5.out.setCell (.inr (by simp; try omega)) _).setCell (.inr (by simp; try omega)) _
end Go.Proofs.Ytjidldfnlejdhaa
end

section
/- The reference of big integers: lists of bytes; Right, trim, digit, bytes. -/
namespace Go.Proofs.Ytjidldfnlejdhaa
set_option linter.unusedVariables false
set_option linter.unusedSimpArgs false
open Go Go.RowKit Go.Proofs.Rg Go.Proofs.Hp Go.Proofs.Bn
theorem info_i64 : (Try.prog.info? 3).map (fun i => (i.zero, i.size, i.bytes)) = some (some (.int .i64 0), 1, 8) := by kernel_rfl
/-- append of one int -/
theorem append_i64 {ops : Array Oper} {rest : List Oper} {o : Oper} {a : Act} {W : World} {Q : Exit → Act → World → Prop} (hgd : o.guard = none) {s x : Operand} (ho : o.op = .call { callee := .builtin .append, args := #[s, x], argTypes := #[51, 51] })
    {base : Nat} {v : Value} {n : Nat} {xs : List Value} (hs : a.eval s = v) (hown : W.ownsRow base 3 1 v n xs) {nb c : Nat} {y : Int} (hx : a.eval x = .slice (some ⟨nb, 0, none⟩) 1 c)
    (hnb : W.heap[nb]? = some (.cells #[.int .i64 y] 3 (0, 0))) (hn : n ≤ 4000000000000) (hbase : base ≤ W.heap.size)
    (h : ∀ g cap w', w'.ownsRow base 3 1 (.slice (some ⟨g, 0, none⟩) (n + 1) cap) (n + 1) (xs ++ [.int .i64 y]) → (∀ b, b < W.heap.size → v.ownBlock ≠ some b → w'.heap[b]? = W.heap[b]?) → Fr v.ownBlock.toList W w' → (v.ownBlock = some g ∨ g = W.heap.size) → g < w'.heap.size →
      wpList Try.prog ops Q rest (a.put o.dst (.slice (some ⟨g, 0, none⟩) (n + 1) cap)) w') : wpList Try.prog ops Q (o :: rest) a W :=
  append_new hgd ho Try.underlying51 info_i64 rfl (by decide) hs hown hx (news := [.int .i64 y]) hnb rfl (by intro u hu; simp at hu; subst hu; rfl) (by unfold maxLen; omega) (by omega) hbase h
set_option maxHeartbeats 2000000 in
theorem RRight_calls {w : World} {neg : Bool} {ds : List Nat} {v : Value} (hv : Reads w v ds.length 1 (u32s ds)) (hl : ds.length ≤ 9223372036854775807) :
    Calls Try.prog 23 #[.agg #[.bool neg, v]] w fun e w' => e = .returned (.bool (RightB neg ds)) ∧ Fr [] w w' := by
  obtain ⟨_, a, c, rfl, hav⟩ := hv
  have Hav := Lib.hid hav
  clear hav
  by_cases h0 : ds.length = 0
  · have hd : decide ((ds.length : Int) = 0) = true := by simp [h0]
    have hR : RightB neg ds = !neg := by unfold RightB; rw [if_pos h0]
    have HR := Lib.hid hR
    obtain rfl := List.eq_nil_of_length_eq_zero h0
    clear h0 hR hd
    go_enter Try.func23, Try.ntmps23
    go_wp2
    go_ret
    exact ⟨by rw [HR.out]; rfl, by (repeat first | exact Fr.refl _ _ | assumption | apply Fr.n | apply Fr.d | apply Fr.a | refine Fr.s ?_ (.inr (by simp; try omega)) _)⟩
  · obtain ⟨g, off, rfl, hg, hc⟩ := Hav.out (by omega)
    have hcz := hc (ds.length - 1) _ (u32s_get (by omega))
    have hd : ((ds.length : Int) == 0) = false := by rw [beq_eq_false_iff_ne]; omega
    have hp1 : (1 : Int) ≤ ds.length := by omega
    have hp2 : (ds.length : Int) - 1 < ds.length := by omega
    by_cases h64 : ds.length ≤ 64
    · have hd2 : decide ((ds.length : Int) ≤ 64) = true := by simp; omega
      have hR : RightB neg ds = (((ds.getD (ds.length - 1) 0 : Nat) : Int) != 0) := by
        unfold RightB; rw [if_neg h0, Bool.eq_iff_iff]; simp; omega
      have HR := Lib.hid hR
      have H0 := Lib.hid h0
      generalize ds.getD (ds.length - 1) 0 = y at *
      clear h0 hR hc
      go_enter Try.func23, Try.ntmps23
      go_wp2
      go_ret
      exact ⟨by rw [HR.out]; rfl, by (repeat first | exact Fr.refl _ _ | assumption | apply Fr.n | apply Fr.d | apply Fr.a | refine Fr.s ?_ (.inr (by simp; try omega)) _)⟩
    · have hd2 : decide ((ds.length : Int) ≤ 64) = false := by simp; omega
      have hR : RightB neg ds = false := by
        unfold RightB; rw [if_neg h0, Bool.eq_iff_iff]; simp; omega
      have HR := Lib.hid hR
      have H0 := Lib.hid h0
      clear h0 hcz hR hc
      go_enter Try.func23, Try.ntmps23
      go_wp2
      go_ret
      exact ⟨by rw [HR.out]; rfl, by (repeat first | exact Fr.refl _ _ | assumption | apply Fr.n | apply Fr.d | apply Fr.a | refine Fr.s ?_ (.inr (by simp; try omega)) _)⟩
/-- a byte, and 0 beyond the end -/
theorem rdigit_calls {w : World} {ds : List Nat} {v : Value} (hv : Reads w v ds.length 1 (i64s ds)) (hl : ds.length ≤ 1000000) (i : Nat) :
    Calls Try.prog 84 #[v, .int .i64 i] w fun e w' => e = .returned (.int .i64 (ds.getD i 0 : Nat)) ∧ w = w' := by
  obtain ⟨_, a, c, rfl, hav⟩ := hv
  by_cases h : i < ds.length
  · obtain ⟨g, off, rfl, hg, hc⟩ := hav (by omega)
    have hcz := hc i _ (i64s_get h)
    clear hc hav
    generalize ds.getD i 0 = y at *
    go_enter Try.func84, Try.ntmps84
    go_wp2
    go_ret
    exact ⟨rfl, rfl⟩
  · have h0 : ds.getD i 0 = 0 := by rw [List.getD_eq_getElem?_getD, List.getElem?_eq_none (by omega)]; rfl
    rw [h0]
    clear h0 hav
    go_enter Try.func84, Try.ntmps84
    go_wp2
    go_ret
    exact ⟨rfl, rfl⟩
set_option maxHeartbeats 2000000 in
theorem trim_calls0 {w : World} {ds : List Nat} {a : Option Addr} {c : Nat} (hv : Reads w (.slice a ds.length c) ds.length 1 (i64s ds)) (hD : Dig 256 ds) (hl : ds.length ≤ 1000000) (hc : ds.length ≤ c) :
    Calls Try.prog 71 #[.slice a ds.length c] w fun e w' => e = .returned (.slice a (trimL 256 ds).length (trimL 256 ds).length) ∧ w = w' := by
  obtain ⟨_, a', c', he, hav⟩ := hv
  cases he
  have Hav := Lib.hid hav
  have HD := Lib.hid hD
  clear hav hD
  obtain ⟨n, hn⟩ : ∃ n, ds.length = n := ⟨_, rfl⟩
  rw [hn] at hl hc ⊢
  rw [hn] at Hav
  have Hn := Lib.hid hn
  clear hn
  go_enter Try.func71, Try.ntmps71
  go_wp2
  go_loop [3] (fun x => ∃ k : Nat, k ≤ n ∧ x = .int .i64 k ∧ trimL 256 (ds.take k) = trimL 256 ds) (fun x => (intOf x).toNat)
  case atStart => exact ⟨n, Nat.le_refl _, rfl, by rw [← Hn.out, List.take_length]⟩
  case round =>
    obtain ⟨k, hk, rfl, hT⟩ := hrel
    have HT := Lib.hid hT
    clear hT
    cases k with
    | zero =>
      have e : (trimL 256 ds).length = 0 := by rw [← HT.out, List.take_zero, trimL_nil]; rfl
      go_wp2
      go_ret
      exact ⟨rfl, rfl⟩
    | succ k =>
      obtain ⟨g, off, rfl, hg, hcc⟩ := Hav.out (by omega)
      have hkn : k < ds.length := by have := Hn.out; omega
      have hcz := hcc k _ (i64s_get hkn)
      have htk : ds.take (k + 1) = ds.take k ++ [ds.getD k 0] := by
        rw [List.take_add_one, List.getElem?_eq_getElem (by omega), List.getD_eq_getElem?_getD, List.getElem?_eq_getElem (by omega)]; rfl
      have Htk := Lib.hid htk
      clear hcc htk hkn
      obtain ⟨y, hy⟩ : ∃ y, y = ds.getD k 0 := ⟨_, rfl⟩
      rw [← hy] at hcz Htk
      have Hy := Lib.hid hy
      clear hy
      by_cases hz : y = 0
      · subst hz
        go_wp2
        go_round
        case rel => exact ⟨k, by omega, by go_num, by have := HT.out; rwa [Htk.out, trimL_zero] at this⟩
        case measure => simp [intOf]
      · have hb : ((y : Int) == 0) = false := by rw [beq_eq_false_iff_ne]; omega
        have Hz := Lib.hid hz
        clear hz
        have e : (trimL 256 ds).length = k + 1 := by
          have hT := HT.out
          have hD := HD.out.take (k + 1)
          rw [Htk.out] at hT hD
          rw [trimL_canon (by omega) hD (canon_snoc Hz.out)] at hT
          rw [← hT, List.length_append, List.length_take, Nat.min_eq_left (by have := Hn.out; omega)]
          rfl
        have E := Lib.hid e
        clear e
        go_wp2
        go_ret
        exact ⟨by rw [E.out]; rfl, rfl⟩
end Go.Proofs.Ytjidldfnlejdhaa
end
