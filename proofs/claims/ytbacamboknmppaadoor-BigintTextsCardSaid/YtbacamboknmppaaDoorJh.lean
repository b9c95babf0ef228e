/- Big integers: down. -/
import Derived.Test.YtbacamboknmppaaDoorJg
import Derived.Test.YtbacamboknmppaaDoorJf
namespace Go.Proofs.YtbacamboknmppaaDoor
open Go Go.RowKit Go.Proofs.Rg Go.Proofs.Hp Go.Proofs.Bn
set_option linter.unusedVariables false
set_option linter.unusedSimpArgs false
theorem down1_calls {w : World} {x : Nat} : Calls Tryd.prog 62 #[.int .u32 x] w fun e w' => e = .returned (.bool (decide (x ≠ 0))) ∧ w = w' := by
  have hd : ((x : Int) != 0) = decide (x ≠ 0) := by
    by_cases h : x = 0 <;> simp [h]
  obtain ⟨b, hb⟩ : ∃ b, decide (x ≠ 0) = b := ⟨_, rfl⟩
  rw [hb] at hd ⊢
  clear hb
  go_enter Tryd.func62, Tryd.ntmps62
  go_wp2
  go_ret
  exact ⟨rfl, rfl⟩
theorem val_zero_iff {B : Nat} (hB : 0 < B) {l : List Nat} : ∀ i, val B (l.take (i + 1)) = 0 ↔ val B (l.take i) = 0 ∧ l.getD i 0 = 0 := by
  intro i
  rw [val_take_succ]
  have := Nat.pow_pos (n := i) hB
  constructor
  · intro h
    refine ⟨by omega, ?_⟩
    have h2 : B ^ i * l.getD i 0 = 0 := by omega
    rcases Nat.mul_eq_zero.1 h2 with h | h
    · omega
    · exact h
  · rintro ⟨h1, h2⟩
    rw [h1, h2, Nat.mul_zero]
theorem val_take_ne {B : Nat} {l : List Nat} (i : Nat) (hB : 0 < B) (h : val B (l.take (i + 1)) ≠ 0) (hi : i < l.length) : val B l ≠ 0 := by
  rw [val_take_drop B l (i + 1) (by omega)]
  omega
set_option maxHeartbeats 2000000 in
set_option maxRecDepth 100000 in
theorem IndexFunc_calls {w : World} {ds : List Nat} {v : Value} (hv : Reads w v ds.length 1 (u32s ds)) (hl : ds.length ≤ 1000000) :
    Calls Tryd.prog 74 #[v, .func (.func 62) #[] #[]] w fun e w' => ∃ z : Int, e = .returned (.int .i64 z) ∧ decide (0 ≤ z) = decide (val 4294967296 ds ≠ 0) ∧ Drew w w' := by
  obtain ⟨_, a, c, rfl, hav⟩ := hv
  have Hav := Lib.hid hav
  clear hav
  obtain ⟨n, hn⟩ : ∃ n, ds.length = n := ⟨_, rfl⟩
  have Hn := Lib.hid hn
  rw [hn] at Hav hl ⊢
  clear hn
  go_enter Tryd.func74, Tryd.ntmps74
  go_wp2_with fail
  go_loopw [8] (fun xk wl => ∃ k : Nat, xk = .int .i64 k ∧ k ≤ n ∧ val 4294967296 (ds.take k) = 0 ∧ Drew w wl) (fun xk _ => n - (intOf xk).toNat)
  case atStart => exact ⟨0, rfl, by omega, by simp [val], Drew.refl _⟩
  case round =>
    obtain ⟨k, rfl, hk, hv, hd⟩ := hrel
    by_cases hkn : k < n
    · obtain ⟨g, off, rfl, hg, hc⟩ := Hav.out (by omega)
      have hf := hd.fr []
      have e1 := (hf.cell (p := ⟨g, off + k, none⟩) hg (by simp)).trans (hc k _ (u32s_get (by have := Hn.out; omega)))
      have hgr : g < wr.heap.size := by have := hf.size; omega
      have hz := val_zero_iff (B := 4294967296) (by omega) (l := ds) k
      have hne := val_take_ne (B := 4294967296) (l := ds) k (by omega)
      have Hz := Lib.hid hz
      have Hne := Lib.hid hne
      have Hd := Lib.hid hd
      have Hv := Lib.hid hv
      clear hf hc hz hne hd hv
      generalize ds.getD k 0 = x at *
      go_wp2_with fail
      refine down1_calls.mono ?_
      rintro e w2 ⟨rfl, rfl⟩
      by_cases hx : x = 0
      · have hd0 : decide (x ≠ 0) = false := by simp [hx]
        have Hx := Lib.hid hx
        clear hx
        rw [hd0]
        go_wp2
        go_roundw
        case rel => exact ⟨k + 1, by go_num, by omega, Hz.out.2 ⟨Hv.out, Hx.out⟩, Hd.out⟩
        case measure => simp [intOf]; omega
      · have hd0 : decide (x ≠ 0) = true := by simp [hx]
        have Hx := Lib.hid hx
        clear hx
        rw [hd0]
        go_wp2
        go_ret
        refine ⟨k, rfl, ?_, Hd.out⟩
        have h := Hne.out (fun h => Hx.out (Hz.out.1 h).2) (by have := Hn.out; omega)
        rw [decide_eq_true h]
        simp
    · obtain rfl : k = n := by omega
      rw [List.take_of_length_le (by have := Hn.out; omega)] at hv
      have Hd := Lib.hid hd
      have Hv := Lib.hid hv
      clear hd hv
      go_wp2
      go_ret
      refine ⟨-1, rfl, ?_, Hd.out⟩
      rw [Hv.out]; rfl
theorem ContainsFunc_calls {w : World} {ds : List Nat} {v : Value} (hv : Reads w v ds.length 1 (u32s ds)) (hl : ds.length ≤ 1000000) :
    Calls Tryd.prog 61 #[v, .func (.func 62) #[] #[]] w fun e w' => e = .returned (.bool (decide (val 4294967296 ds ≠ 0))) ∧ Drew w w' := by
  have hi := IndexFunc_calls hv hl
  obtain ⟨b, hb⟩ : ∃ b, decide (val 4294967296 ds ≠ 0) = b := ⟨_, rfl⟩
  rw [hb] at hi ⊢
  have Hi := Lib.hid hi
  clear hi hb
  obtain ⟨_, a, c, rfl, _⟩ := hv
  go_enter Tryd.func61, Tryd.ntmps61
  go_wp2_with fail
  refine Hi.out.mono ?_
  rintro e w1 ⟨z, rfl, hz, hd⟩
  have Hd := Lib.hid hd
  clear hd
  go_wp2
  go_ret
  exact ⟨rfl, Hd.out⟩
/-- what down leaves -/
def DownPost (w : World) (V : Nat) (lost : Bool) (n : Nat) (e : Ending) (w' : World) : Prop :=
  ∃ a c os, e = .returned (.tuple #[.slice a os.length c, .bool lost]) ∧ Reads w' (.slice a os.length c) os.length 1 (u32s os) ∧ (∀ g, (Value.slice a os.length c).ownBlock = some g → w.heap.size ≤ g) ∧ Dig 4294967296 os ∧ val 4294967296 os = V ∧ os.length ≤ n ∧ os.length ≤ c ∧ Fr [] w w'
theorem two_split {ds : List Nat} {k wd rs : Nat} (hwd : k / 32 = wd) (hrs : k % 32 = rs) : 2 ^ k = 4294967296 ^ wd * 2 ^ rs ∧ 4294967296 = 2 ^ rs * 2 ^ (32 - rs) := by
  constructor
  · rw [show 4294967296 = 2 ^ 32 from rfl, ← Nat.pow_mul, ← Nat.pow_add]
    congr 1
    omega
  · rw [← Nat.pow_add, show rs + (32 - rs) = 32 by omega]
theorem lost_iff {ds : List Nat} {k wd rs : Nat} (hD : Dig 4294967296 ds) (hwd : k / 32 = wd) (hrs : k % 32 = rs) (hi : wd < ds.length) : val 4294967296 ds % 2 ^ k = 0 ↔ val 4294967296 (ds.take wd) = 0 ∧ ds.getD wd 0 % 2 ^ rs = 0 := by
  obtain ⟨h1, h2⟩ := two_split (ds := ds) hwd hrs
  have hp := Nat.pow_pos (n := wd) (show 0 < 4294967296 by omega)
  have hlt := val_lt (hD.take wd)
  rw [List.length_take, Nat.min_eq_left (by omega)] at hlt
  rw [h1, val_take_drop _ ds wd (by omega), Nat.mod_mul, Nat.add_mul_mod_self_left, Nat.mod_eq_of_lt hlt, Nat.add_mul_div_left _ _ hp, Nat.div_eq_of_lt hlt, Nat.zero_add, val_drop]
  have h3 : (ds.getD wd 0 + 4294967296 * val 4294967296 (ds.drop (wd + 1))) % 2 ^ rs = ds.getD wd 0 % 2 ^ rs := by
    conv => lhs; rw [h2, Nat.mul_assoc, Nat.add_mul_mod_self_left]
  rw [h3]
  constructor
  · intro h
    refine ⟨by omega, ?_⟩
    have : 4294967296 ^ wd * (ds.getD wd 0 % 2 ^ rs) = 0 := by omega
    rcases Nat.mul_eq_zero.1 this with h | h
    · omega
    · exact h
  · rintro ⟨e1, e2⟩
    rw [e1, e2, Nat.mul_zero]
theorem down_digit {ds : List Nat} {k wd rs : Nat} (hD : Dig 4294967296 ds) (hwd : k / 32 = wd) (hrs : k % 32 = rs) {i : Nat} (hi : wd + i < ds.length) : val 4294967296 ds / 2 ^ k / 4294967296 ^ i % 4294967296 = val 4294967296 [ds.getD (wd + i) 0, ds.getD (wd + i + 1) 0] / 2 ^ rs % 4294967296 := by
  obtain ⟨h1, h2⟩ := two_split (ds := ds) hwd hrs
  rw [h1, Nat.div_div_eq_div_mul, show 4294967296 ^ wd * 2 ^ rs * 4294967296 ^ i = 4294967296 ^ (wd + i) * 2 ^ rs by rw [Nat.pow_add]; simp only [Nat.mul_assoc, Nat.mul_comm, Nat.mul_left_comm], ← Nat.div_div_eq_div_mul, val_div hD (by omega), val_drop, val_drop]
  have e : val 4294967296 [ds.getD (wd + i) 0, ds.getD (wd + i + 1) 0] = ds.getD (wd + i) 0 + 4294967296 * ds.getD (wd + i + 1) 0 := by simp [val]
  rw [e]
  generalize ds.getD (wd + i) 0 = x
  generalize ds.getD (wd + i + 1) 0 = y
  generalize val 4294967296 (ds.drop (wd + i + 1 + 1)) = R
  have hp := Nat.pow_pos (n := rs) (show 0 < 2 by omega)
  have e2 : x + 4294967296 * (y + 4294967296 * R) = x + 4294967296 * y + 2 ^ rs * (4294967296 * (2 ^ (32 - rs) * R)) := by
    rw [Nat.mul_add, ← Nat.add_assoc]
    congr 1
    conv => lhs; arg 1; rw [h2]
    simp only [Nat.mul_assoc, Nat.mul_left_comm]
  rw [e2, Nat.add_mul_div_left _ _ hp, Nat.add_mul_mod_self_left]
theorem and_mask {x rs : Nat} (hx : x < 4294967296) (hr : rs < 32) : (bits BinOp.and IntKind.u32 (x : Int) (((2 : Int) ^ rs - 1) % 4294967296) != 0) = decide (x % 2 ^ rs ≠ 0) := by
  have h1 : 2 ^ rs ≤ 2 ^ 31 := Nat.pow_le_pow_right (by omega) (by omega)
  have h2 := Nat.pow_pos (n := rs) (show 0 < 2 by omega)
  have e1 : (((2 : Int) ^ rs - 1) % 4294967296) = ((2 ^ rs - 1 : Nat) : Int) := by
    rw [show ((2 : Int) ^ rs) = ((2 ^ rs : Nat) : Int) by simp]
    generalize 2 ^ rs = p at *
    omega
  rw [e1, u32_and_nat x (2 ^ rs - 1) hx (by omega), Nat.and_two_pow_sub_one_eq_mod]
  generalize x % 2 ^ rs = z
  by_cases h : z = 0 <;> simp [h]
set_option maxHeartbeats 4000000 in
set_option maxRecDepth 100000 in
theorem down_calls {w : World} {ds : List Nat} {k : Nat} {a : Option Addr} {c : Nat} (hv : Reads w (.slice a ds.length c) ds.length 1 (u32s ds)) (hD : Dig 4294967296 ds) (hcn : Canon ds) (hl : ds.length ≤ 1000000) (hc : ds.length ≤ c) (hk : k ≤ 1000000) :
    Calls Tryd.prog 42 #[.slice a ds.length c, .int .i64 k] w (DownPost w (val 4294967296 ds / 2 ^ k) (decide (val 4294967296 ds % 2 ^ k ≠ 0)) ds.length) := by
  obtain ⟨wd, hwd⟩ : ∃ wd, k / 32 = wd := ⟨_, rfl⟩
  obtain ⟨rs, hrs⟩ : ∃ rs, k % 32 = rs := ⟨_, rfl⟩
  have Ew : ((k : Int) / 32) = wd := by omega
  have Er : ((k : Int) % 32) = rs := by omega
  have hdg := fun w1 (hf : Fr [] w w1) i => digit_calls (hv.fr hf) (by omega) i
  have Hdg := Lib.hid hdg
  clear hdg
  by_cases hb : ds.length ≤ wd
  · have hlt : val 4294967296 ds < 2 ^ k := by
      have h1 := val_lt hD
      have h2 := (two_split (ds := ds) hwd hrs).1
      have h3 : 4294967296 ^ ds.length ≤ 4294967296 ^ wd := Nat.pow_le_pow_right (by omega) hb
      have h4 := Nat.le_mul_of_pos_right (4294967296 ^ wd) (Nat.pow_pos (n := rs) (show 0 < 2 by omega))
      omega
    have hlost : decide (val 4294967296 ds % 2 ^ k ≠ 0) = decide (0 < ds.length) := by
      rw [Nat.mod_eq_of_lt hlt]
      by_cases h0 : ds = []
      · subst h0; rfl
      · have := canon_pos (B := 4294967296) (by omega) hcn h0
        have h1 : 0 < ds.length := List.length_pos_iff.2 h0
        rw [decide_eq_true (by omega), decide_eq_true (by omega)]
    rw [Nat.div_eq_of_lt hlt, hlost]
    obtain ⟨n, hn⟩ : ∃ n, ds.length = n := ⟨_, rfl⟩
    rw [hn] at hb hc ⊢
    have Hn := Lib.hid hn
    clear hv hlt hlost hwd hrs hn
    go_enter Tryd.func42, Tryd.ntmps42
    obtain ⟨lost, hlost⟩ : ∃ lost, decide (0 < n) = lost := ⟨_, rfl⟩
    rw [hlost]
    go_wp2
    go_ret2
    exact ⟨none, 0, [], rfl, reads_nil _, fun g hg => by simp [Value.ownBlock] at hg, Dig.nil, rfl, by simp, by simp, Fr.refl _ _⟩
  · have hcf := fun w1 (hf : Fr [] w w1) => ContainsFunc_calls (ds := ds.take wd) (v := .slice a wd c) (w := w1) (by
      have h := (Reads.take hv (by omega : wd ≤ ds.length)).fr hf
      rw [List.length_take, Nat.min_eq_left (by omega)]
      rw [u32s, ← List.map_take] at h
      exact h) (by rw [List.length_take]; omega)
    have hli := lost_iff hD hwd hrs (by omega)
    have hdd := fun i hi => down_digit hD hwd hrs (i := i) hi
    have hxl : val 4294967296 ds / 2 ^ k < 4294967296 ^ (ds.length - wd) := by
      have h1 := val_lt hD
      have h2 := (two_split (ds := ds) hwd hrs).1
      have hp := Nat.pow_pos (n := rs) (show 0 < 2 by omega)
      rw [h2]
      refine Nat.div_lt_of_lt_mul ?_
      rw [show 4294967296 ^ wd * 2 ^ rs * 4294967296 ^ (ds.length - wd) = 2 ^ rs * 4294967296 ^ (wd + (ds.length - wd)) by rw [Nat.pow_add]; simp only [Nat.mul_assoc, Nat.mul_comm, Nat.mul_left_comm], show wd + (ds.length - wd) = ds.length by omega]
      exact Nat.lt_of_lt_of_le h1 (Nat.le_mul_of_pos_left _ hp)
    have hdw : ∀ i, ds.getD i 0 < 4294967296 := fun i => hD.getD (by omega) i
    have hr32 : rs < 32 := by omega
    obtain ⟨_, _, _, e0, hav⟩ := hv
    simp only [Value.slice.injEq, true_and] at e0
    obtain ⟨rfl, rfl⟩ := e0
    obtain ⟨X, hX⟩ : ∃ X, val 4294967296 ds / 2 ^ k = X := ⟨_, rfl⟩
    simp only [hX] at hdd hxl ⊢
    obtain ⟨n, hn⟩ : ∃ n, ds.length = n := ⟨_, rfl⟩
    rw [hn] at hb hc hl hxl hav
    simp only [hn] at hdd ⊢
    have Hn := Lib.hid hn
    have Hli := Lib.hid hli
    have Hdd := Lib.hid hdd
    have Hcf := Lib.hid hcf
    have Hxl := Lib.hid hxl
    have Hav := Lib.hid hav
    have Hdw := Lib.hid hdw
    clear hli hcf hdd hX hav hcn hn hwd hrs hdw hxl
    obtain ⟨lost, hlost⟩ : ∃ lost, decide (val 4294967296 ds % 2 ^ k ≠ 0) = lost := ⟨_, rfl⟩
    rw [hlost]
    have Hlost := Lib.hid hlost
    clear hlost
    go_enter Tryd.func42, Tryd.ntmps42
    go_wp2_with fail
    refine (Hcf.out _ (Fr.refl _ _)).mono ?_
    rintro e w1 ⟨rfl, hd⟩
    have hf := hd.fr []
    obtain ⟨g, off, rfl, hg, hcc⟩ := Hav.out (by omega)
    have e1 := (hf.cell (p := ⟨g, off + wd, none⟩) hg (by simp)).trans (hcc wd _ (u32s_get (by have := Hn.out; omega)))
    have hgr : g < w1.heap.size := by have := hf.size; omega
    have ham := and_mask (Hdw.out wd) hr32
    have Hf := Lib.hid hf
    have hdl : lost = decide (¬ (val 4294967296 (ds.take wd) = 0 ∧ ds.getD wd 0 % 2 ^ rs = 0)) := by rw [← Hlost.out]; exact decide_eq_decide.2 (not_congr Hli.out)
    clear hd hf hcc
    obtain ⟨x, hx⟩ : ∃ x, ds.getD wd 0 = x := ⟨_, rfl⟩
    rw [hx] at e1 ham hdl
    clear hx
    by_cases hv0 : val 4294967296 (ds.take wd) = 0
    have hd0 : decide (val 4294967296 (ds.take wd) ≠ 0) = false := by simp [hv0]
    have hbl : decide (x % 2 ^ rs ≠ 0) = lost := by rw [hdl]; simp [hv0]
    rw [hbl] at ham
    rw [hd0]
    clear hd0 hv0 hdl hbl
    rotate_left
    have hd0 : decide (val 4294967296 (ds.take wd) ≠ 0) = true := by simp [hv0]
    obtain rfl : lost = true := by rw [hdl]; simp [hv0]
    rw [hd0]
    clear hd0 hv0 hdl ham
    rotate_left
    all_goals go_wp2_with (refine wpList_make1 rfl (t := 22) (e := 45) (n := n - wd) (z := .int .u32 0) (bytes := 4) rfl (congrArg (Value.int .i64) (by omega : (n : Int) - wd = ((n - wd : Nat) : Int))) (congrArg (Value.int .i64) (by omega : (n : Int) - wd = ((n - wd : Nat) : Int))) Tryd.underlying22 info_u32 rfl (by omega) (by unfold maxLen; omega) ?_)
    all_goals
      intro w2 ho2 hf2 hsz2
      obtain ⟨m, hm⟩ : ∃ m, n - wd = m := ⟨_, rfl⟩
      have hmi : (n : Int) - wd = m := by omega
      rw [hm] at ho2
      rw [hm, hmi]
      have hwm : wd + m = n := by omega
      have Hf2 := Lib.hid (Hf.out.trans0 hf2)
      have Ho2 := Lib.hid ho2
      have Hwm := Lib.hid hwm
      obtain ⟨q, hq⟩ : ∃ q, w1.heap.size = q := ⟨_, rfl⟩
      have hqw : w.heap.size ≤ q := by have := Hf.out.size; omega
      have Hqw := Lib.hid hqw
      rw [hq] at Ho2
      rw [hq]
      have hgq : g < q := by omega
      clear hf2 ho2 hmi hm hsz2 e1 hgr hwm hqw hq
      go_wp2_with fail
      go_loopw [46] (fun xk wl => ∃ (k : Nat) (l : List Nat), xk = .int .i64 k ∧ k ≤ m ∧ l.length = m ∧ Dig 4294967296 l ∧ (∀ j, j < k → l.getD j 0 = X / 4294967296 ^ j % 4294967296) ∧
          wl.ownsRow q 45 1 (.slice (some ⟨q, 0, none⟩) m m) m (u32s l) ∧ Fr [] w wl) (fun xk _ => m - (intOf xk).toNat)
      case atStart => exact ⟨0, List.replicate m 0, rfl, by omega, List.length_replicate, Dig.replicate (by omega) m, fun j hj => by omega, by rw [u32s_zero]; exact Ho2.out, Hf2.out⟩
      case round =>
        obtain ⟨j, l, rfl, hj, hl, hD, hdj, ho, hf⟩ := hrel
        have hol := owns_lt ho rfl
        by_cases hjm : j < m
        · have hwj : wd + j < n := by have := Hwm.out; omega
          obtain ⟨_, _, e0, _, hcc⟩ := Hav.out (by omega)
          simp only [Option.some.injEq, Addr.mk.injEq, and_true] at e0
          obtain ⟨rfl, rfl⟩ := e0
          have e2 := (hf.cell (p := ⟨g, off + (wd + j), none⟩) hg (by simp)).trans (hcc (wd + j) _ (u32s_get (by have := Hn.out; omega)))
          have hgr2 : g < wr.heap.size := by have := hf.size; omega
          have hdg := fun w2 (hf2 : Fr [] w w2) => Hdg.out w2 hf2 (wd + j + 1)
          rw [Hn.out, show (((wd + j + 1 : Nat)) : Int) = (wd : Int) + j + 1 by omega] at hdg
          have hset := fun d => owns_set ho rfl (j := j) (by rw [u32s_length]; omega) (.int .u32 d)
          have hfz := owns_frozen ho rfl j
          have e3 := owns_cell ho rfl (u32s_get (l := l) (i := j) (by omega))
          have hd1 := Hdw.out (wd + j)
          have hd2 := Hdw.out (wd + j + 1)
          have hdx := Hdd.out j hwj
          have Hset := Lib.hid hset
          have HDG := Lib.hid hdg
          have HDl := Lib.hid hD
          have Hdj := Lib.hid hdj
          have Hl := Lib.hid hl
          have Hf := Lib.hid hf
          clear ho hf hD hdj hl hset hdg hcc
          generalize ds.getD (wd + j) 0 = x at *
          generalize ds.getD (wd + j + 1) 0 = y at *
          have Ex : IntKind.u64.wrap (x : Int) = x := IntWalk.u64_in _ (by omega)
          have Ev := or_two hd1 hd2
          have hvb : val 4294967296 [x, y] < 18446744073709551616 := by simp [val]; omega
          obtain ⟨v, hv⟩ : ∃ v, val 4294967296 [x, y] = v := ⟨_, rfl⟩
          rw [hv] at Ev hvb hdx
          have Hdx := Lib.hid hdx
          have Hvb := Lib.hid hvb
          clear hd1 hd2 hv hdx hvb
          go_wp2
          refine wp_region_segs [([0, 1, 2, 3, 4, 5, 6, 7, 8, 9, 10, 11, 12], [5]), ([13, 14, 15, 16], [])] (by kernel_rfl) (by kernel_rfl) ?_
          (simp only [wpSegs, pick, Array.getD_eq_getD_getElem?, List.getElem?_toArray, List.getElem?_cons_succ, List.getElem?_cons_zero, Option.getD_some])
          go_wp2_with fail
          refine (HDG.out _ (by have := Hf.out; (repeat (first | exact Fr.refl _ _ | assumption | apply Fr.drewN | apply Fr.drew | apply Fr.alloc | refine Fr.setCell ?_ (Or.inr (by simp; try omega)) _)))).mono ?_
          rintro e w3 ⟨rfl, rfl⟩
          go_wp2
          refine Mid.intro ⟨⟨again_cell (T := 45) rfl rfl rfl Tryd.underlying45 rfl e2 rfl, trivial⟩, ?_⟩
          go_wp2
          refine Mid.intro ⟨trivial, Strict.intro rfl ?_⟩
          go_wp2
          go_roundw
          case rel =>
            refine ⟨j + 1, l.set j (v / 2 ^ rs % 4294967296), by go_num, by omega, by rw [List.length_set]; exact Hl.out, HDl.out.set (Nat.mod_lt _ (by omega)), ?_, ?_, ?_⟩
            · intro i hi
              by_cases hij : i = j
              · subst hij
                rw [List.getD_eq_getElem?_getD, List.getElem?_set_self (by have := Hl.out; omega), Hdx.out]
                rfl
              · rw [getD_set_ne hij]
                exact Hdj.out i (by omega)
            · have e : ((v / 2 ^ rs % 4294967296 : Nat) : Int) = (v : Int) / 2 ^ rs % 4294967296 := by simp
              rw [u32s_set, e]
              exact Hset.out _
            · exact (Hf.out.setCell (.inr (by have := Hqw.out; simp; omega)) _).drew
          case measure => simp [intOf]; omega
        · obtain rfl : j = m := by omega
          have hvd := val_of_digits (B := 4294967296) (X := X) (l := l) (by omega) (fun i hi => hdj i (by omega))
          rw [hl, Nat.mod_eq_of_lt (by have h := Hxl.out; have h2 := Hwm.out; rw [show n - wd = j by omega] at h; exact h)] at hvd
          have Ho := Lib.hid ho
          have Hf := Lib.hid hf
          have HDl := Lib.hid hD
          have Hvd := Lib.hid hvd
          have Hl := Lib.hid hl
          clear ho hf hD hvd hl hdj
          go_wp2
          go_ret2
          have hl := Hl.out
          subst hl
          exact ⟨_, _, l, rfl, Reads.of_owns Ho.out, fun g' hg' => (by simp [Value.ownBlock] at hg'; have := Hqw.out; omega), HDl.out, Hvd.out, by have := Hwm.out; omega, Nat.le_refl _, Hf.out⟩
end Go.Proofs.YtbacamboknmppaaDoor
