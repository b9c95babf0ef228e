/- The reference of big integers: bytes. -/
import Derived.Test.YtbacamboknmppaaDoorKa
namespace Go.Proofs.YtbacamboknmppaaDoor
open Go Go.RowKit Go.Proofs.Rg Go.Proofs.Hp Go.Proofs.Bn
set_option linter.unusedVariables false
set_option linter.unusedSimpArgs false
theorem trim_calls {w : World} {ds : List Nat} {a : Option Addr} {c : Nat} (hv : Reads w (.slice a ds.length c) ds.length 1 (i64s ds)) (hD : Dig 256 ds) (hl : ds.length ≤ 1000000) (hc : ds.length ≤ c) {A : Nat → Prop} (hlo : ∀ g, (Value.slice a ds.length c).ownBlock = some g → A g) :
    Calls Tryd.prog 60 #[.slice a ds.length c] w (ListPost w A (dg 256 (val 256 ds))) := by
  refine (trim_calls0 hv hD hl hc).mono ?_
  rintro e w1 ⟨rfl, rfl⟩
  exact ⟨a, _, ⟨Nat.le_refl _, fun g hg => hlo g (own_len a _ _ _ c ▸ hg)⟩, rfl, (reads_trim' hv hD _).1, Fr.refl _ _⟩
theorem bytes_step {B P vo x0 d2 V : Nat} (h : vo + P * d2 = V + B * x0) : vo + P * (d2 % 256) + P * 256 * (d2 / 256) = V + B * x0 := by
  have := low_high P d2
  omega
theorem pow256 (i : Nat) : 256 ^ (4 * i) = 4294967296 ^ i := by rw [Nat.pow_mul]
theorem pow_ten {a b k m : Nat} (h : a ≤ 10 ^ b) (hk : b * m ≤ k) : a ^ m ≤ 10 ^ k := by
  refine Nat.le_trans (Nat.pow_le_pow_left h m) ?_
  rw [← Nat.pow_mul]
  exact Nat.pow_le_pow_right (by omega) hk
theorem two_mono {n m : Nat} (h : n ≤ m) : 2 ^ n ≤ 2 ^ m := Nat.pow_le_pow_right (by omega) h
theorem pow_two_le {n m : Nat} (h : 32 * n ≤ m) : 4294967296 ^ n ≤ 2 ^ m := by
  rw [show (4294967296 : Nat) = 2 ^ 32 from rfl, ← Nat.pow_mul]
  exact two_mono h
theorem pow_bits (i : Nat) : 4294967296 ^ i = 2 ^ (32 * i) := by rw [Nat.pow_mul]
theorem pow_bits' {n m : Nat} (h : 32 * n = m) : 4294967296 ^ n = 2 ^ m := by subst h; exact pow_bits n
theorem div_lt_two {V a b : Nat} (h : V < 2 ^ (a + b)) : V / 2 ^ b < 2 ^ a := by
  rw [Nat.div_lt_iff_lt_mul (Nat.pow_pos (by omega)), ← Nat.pow_add]; exact h
theorem half_lt {n x y : Nat} (h : x ≤ y) (hy : y < 2 ^ n) (hz : x + 1 ≤ 2 ^ n) : x < 2 ^ n := by omega
theorem dg_len256 {V n k : Nat} (hn : n ≤ k) (h : V < 4294967296 ^ n) : (dg 256 V).length ≤ 4 * k := by
  rw [dg_length_le (by omega), pow256]
  exact Nat.lt_of_lt_of_le h (Nat.pow_le_pow_right (by omega) hn)
set_option maxHeartbeats 4000000 in
set_option maxRecDepth 100000 in
theorem bytes_calls {w : World} {neg : Bool} {ds : List Nat} {v : Value} (hv : Reads w v ds.length 1 (u32s ds)) (hD : Dig 4294967296 ds) (hl : ds.length ≤ 100000) :
    Calls Tryd.prog 39 #[.agg #[.bool neg, v]] w (ListPost w (w.heap.size < ·) (dg 256 (val 4294967296 ds))) := by
  obtain ⟨_, a, c, rfl, hav⟩ := hv
  have Hav := Lib.hid hav
  have HD := Lib.hid hD
  clear hav hD
  obtain ⟨n, hn⟩ : ∃ n, ds.length = n := ⟨_, rfl⟩
  rw [hn] at hl ⊢
  rw [hn] at Hav
  have Hn := Lib.hid hn
  clear hn
  go_enter Tryd.func39, Tryd.ntmps39
  go_wp2_with fail
  go_loopw [3, 4] (fun x3 x4 wl => ∃ (i : Nat) (L : List Nat), x4 = .int .i64 i ∧ i ≤ n ∧ Dig 256 L ∧ L.length = 4 * i ∧ val 256 L = val 4294967296 (ds.take i) ∧ wl.ownsRow (w.heap.size + 1) 3 1 x3 L.length (i64s L) ∧ Fr [] w wl ∧
    wl.heap[w.heap.size]? = some (.cells #[.bool neg, .slice a n c] 24 (0, 0))) (fun _ x4 _ => n - (intOf x4).toNat)
  case atStart => exact ⟨0, [], rfl, by omega, Dig.nil, rfl, rfl, World.ownsRow_nil _ _ _ _, by (repeat (first | exact Fr.refl _ _ | assumption | apply Fr.drewN | apply Fr.drew | apply Fr.alloc | refine Fr.setCell ?_ (Or.inr (by simp; try omega)) _)), by (repeat (first | rw [if_pos (by omega)] | rw [if_neg (by omega)] | rw [hp_drew] | rw [hp_drewN] | rw [hp_alloc_size] | rw [hp_setCell_size] | rw [hp_alloc] | rw [hp_setCell] | rw [Option.map_some] | rw [upd_cells] | rw [List.set_cons_zero] | rw [List.set_cons_succ] | rfl))⟩
  case round =>
    obtain ⟨i, L, rfl, hi, hD, hL, hv, ho, hf, hb⟩ := hrel
    obtain ⟨oa, oc, rfl, hoa, hon⟩ := owns_form ho
    have b0 := heap_eq_cell hb 0
    have b1 := heap_eq_cell hb 1
    have bl := lt_of_block hb
    have HDL := Lib.hid hD
    have HL := Lib.hid hL
    have Hv := Lib.hid hv
    have Ho := Lib.hid ho
    have Hf := Lib.hid hf
    have Hb := Lib.hid hb
    clear hoa hon hD hL hv ho hb
    by_cases hin : i < n
    · obtain ⟨g, off, rfl, hg, hc⟩ := Hav.out (by have := Hn.out; omega)
      have e1 := (hf.cell (p := ⟨g, off + i, none⟩) hg (by simp)).trans (hc i _ (u32s_get (by have := Hn.out; omega)))
      have hx : ds.getD i 0 < 4294967296 := HD.out.getD (by omega) i
      have Hvt := Lib.hid (val_take_succ 4294967296 ds i)
      clear hc hf
      generalize ds.getD i 0 = x at *
      go_wp2_with fail
      clear e1 b0 b1 bl
      go_loopw [3, 5, 6] (fun x3 x5 x6 wl => ∃ (k d2 : Nat) (L2 : List Nat), x5 = .int .u32 d2 ∧ x6 = .int .i64 k ∧ k ≤ 4 ∧ d2 < 256 ^ (4 - k) ∧ Dig 256 L2 ∧ L2.length = 4 * i + k ∧ val 256 L2 + 256 ^ (4 * i + k) * d2 = val 4294967296 (ds.take i) + 4294967296 ^ i * x ∧
        wl.ownsRow (w.heap.size + 1) 3 1 x3 L2.length (i64s L2) ∧ Fr [] w wl ∧ wl.heap[w.heap.size]? = some (.cells #[.bool neg, .slice (some ⟨g, off, none⟩) n c] 24 (0, 0))) (fun _ _ x6 _ => 4 - (intOf x6).toNat)
      case atStart => exact ⟨0, x, L, rfl, rfl, by omega, hx, HDL.out, HL.out, by rw [Hv.out, Nat.add_zero, pow256], Ho.out, Hf.out, Hb.out⟩
      case round =>
        obtain ⟨k, d2, L2, rfl, rfl, hk, hd2, hD2, hL2, hv2, ho2, hf2, hb2⟩ := hrel
        obtain ⟨oa2, oc2, rfl, hoa2, hon2⟩ := owns_form ho2
        have HD2 := Lib.hid hD2
        have HL2 := Lib.hid hL2
        have Hv2 := Lib.hid hv2
        have Ho2 := Lib.hid ho2
        have Hf2 := Lib.hid hf2
        have Hb2 := Lib.hid hb2
        have Hd2 := Lib.hid hd2
        have hd2b : d2 < 4294967296 := Nat.lt_of_lt_of_le hd2 (Nat.pow_le_pow_right (show 0 < 256 by omega) (show 4 - k ≤ 4 by omega))
        clear hoa2 hon2 hD2 hL2 hv2 ho2 hf2 hb2 hd2
        by_cases hk4 : k < 4
        · obtain ⟨r, hr⟩ : ∃ r, r = d2 % 256 := ⟨_, rfl⟩
          have Er : ((d2 : Int) % 256) = (r : Nat) := by omega
          have hr256 : r < 256 := by omega
          have Hr := Lib.hid hr
          clear hr
          go_wp2_with (at_builtin; refine append_i64 (n := L2.length) (base := w.heap.size + 1) (xs := i64s L2) (y := (r : Int)) rfl rfl rfl ?e1 rfl ?e2 ?e3 ?e4 ?_)
          case e1 => exact owns_of_block Ho2.out fun y hy => heap_alloc_else _ _ _ (owns_lt Ho2.out hy)
          case e2 => (repeat (first | rw [if_pos (by omega)] | rw [if_neg (by omega)] | rw [hp_drew] | rw [hp_drewN] | rw [hp_alloc_size] | rw [hp_setCell_size] | rw [hp_alloc] | rw [hp_setCell] | rw [Option.map_some] | rw [upd_cells] | rw [List.set_cons_zero] | rw [List.set_cons_succ] | rfl))
          case e3 => have := HL2.out; omega
          case e4 => have := Hf2.out.size; have := lt_of_block Hb2.out; (first | omega | (simp only [hp_drew, hp_drewN, hp_alloc_size]; omega) | (simp; omega))
          intro g2 cap w9 hown1 hW1 hF1 hloc1 hg1
          rw [i64s_snoc] at hown1
          have Hb9 := Lib.hid ((hW1 w.heap.size (by have := lt_of_block Hb2.out; (first | omega | (simp only [hp_drew, hp_drewN, hp_alloc_size]; omega) | (simp; omega))) (fun e => by have h := owns_ge Ho2.out e; omega)).trans ((heap_alloc_else _ _ _ (lt_of_block Hb2.out)).trans Hb2.out))
          have Hown1 := Lib.hid hown1
          have Hf9 := Lib.hid (fr_append Hf2.out (owns_base Ho2.out (Nat.le_succ _)) hF1)
          clear hown1 hW1 hF1 hloc1
          go_wp2
          go_roundw
          case rel =>
            refine ⟨k + 1, d2 / 256, L2 ++ [r], by go_num, by go_num, by omega, ?_, HD2.out.append (fun z hz => by rw [List.mem_singleton] at hz; omega), by rw [List.length_append]; have := HL2.out; simp; omega, ?_, by rw [List.length_append]; exact Hown1.out, Hf9.out, Hb9.out⟩
            · have h := Hd2.out
              rw [show 4 - k = (4 - (k + 1)) + 1 by omega, Nat.pow_succ] at h
              rw [Nat.div_lt_iff_lt_mul (by omega)]
              exact h
            · rw [val_snoc, HL2.out, Hr.out, show 4 * i + (k + 1) = 4 * i + k + 1 by omega, Nat.pow_succ]
              exact bytes_step Hv2.out
          case measure => simp [intOf]; omega
        · obtain rfl : k = 4 := by omega
          have hd0 : d2 = 0 := by have := Hd2.out; omega
          have hv9 : val 256 L2 = val 4294967296 (ds.take (i + 1)) := by have h := Hv2.out; rw [hd0, Nat.mul_zero, Nat.add_zero] at h; rw [Hvt.out]; exact h
          have Hv9 := Lib.hid hv9
          clear hv9 hd0 hd2b
          go_wp2
          go_roundw
          case rel => exact ⟨i + 1, L2, by go_num, by omega, HD2.out, by have := HL2.out; omega, Hv9.out, Ho2.out, Hf2.out, Hb2.out⟩
          case measure => simp [intOf]; omega
    · obtain rfl : i = n := by omega
      have hv := Hv.out
      rw [List.take_of_length_le (by have := Hn.out; omega)] at hv
      have ht := trim_calls (Reads.of_owns Ho.out) HDL.out (by have := HL.out; omega) (owns_cap Ho.out) (A := fun g => w.heap.size < g) (fun g hg => owns_ge Ho.out hg)
      rw [hv] at ht
      have Ht := Lib.hid ht
      clear ht hv hf
      go_wp2_with fail
      refine Ht.out.mono ?_
      rintro e w4 ⟨ra, rc, hlo, rfl, hr, hf⟩
      have Hf5 := Lib.hid (Hf.out.trans0 hf)
      have Hr := Lib.hid hr
      have Hlo := Lib.hid hlo
      clear hf hr hlo b0 b1 bl
      go_wp2
      go_ret
      exact ⟨ra, rc, Hlo.out, rfl, Hr.out, Hf5.out⟩
end Go.Proofs.YtbacamboknmppaaDoor
