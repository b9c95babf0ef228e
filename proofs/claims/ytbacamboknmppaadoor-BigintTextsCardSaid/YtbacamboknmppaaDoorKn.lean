/- The reference of big integers: parts. -/
import Derived.Test.YtbacamboknmppaaDoorKl
namespace Go.Proofs.YtbacamboknmppaaDoor
open Go Go.RowKit Go.Proofs.Rg Go.Proofs.Hp Go.Proofs.Bn
set_option linter.unusedVariables false
set_option linter.unusedSimpArgs false
theorem i64s_snoc0 (l : List Nat) : i64s l ++ [.int .i64 0] = i64s (l ++ [0]) := i64s_snoc l 0
/-- what parts leaves -/
def PartsPost (w : World) (V n : Nat) (e : Ending) (w' : World) : Prop :=
  ∃ T a c, T = dg 256 (V / n) ∧ (T.length ≤ c ∧ ∀ g, (Value.slice a T.length c).ownBlock = some g → w.heap.size ≤ g) ∧ e = .returned (.tuple #[.slice a T.length c, .int .u64 (V % n : Nat)]) ∧ Reads w' (.slice a T.length c) T.length 1 (i64s T) ∧ Fr [] w w'
set_option maxHeartbeats 4000000 in
set_option maxRecDepth 100000 in
theorem parts_calls {w : World} {ds : List Nat} {v : Value} (hv : Reads w v ds.length 1 (i64s ds)) (hD : Dig 256 ds) (hl : ds.length ≤ 10000) {n : Nat} (hn1 : 1 ≤ n) (hn2 : n ≤ 9223372036854775808) :
    Calls Tryd.prog 48 #[v, .int .u64 n] w (PartsPost w (val 256 ds) n) := by
  have hbt := fun w1 (hf : Fr [] w w1) k (hk : k ≤ 100000000) => bit_calls (hv.fr hf) hD (by omega) k (by omega)
  obtain ⟨V, hV⟩ : ∃ V, val 256 ds = V := ⟨_, rfl⟩
  have hVl : V < 2 ^ (8 * ds.length) := by rw [← hV, Nat.pow_mul]; exact val_lt hD
  rw [hV] at hbt ⊢
  have Hbt := Lib.hid hbt
  have HVl := Lib.hid hVl
  obtain ⟨_, a, c, rfl, _⟩ := hv
  obtain ⟨N, hN⟩ : ∃ N, 8 * ds.length = N := ⟨_, rfl⟩
  have EN : ((8 : Int) * ds.length) = (N : Nat) := by omega
  have hNb : N ≤ 80000 := by omega
  rw [hN] at HVl
  clear hbt hVl hV hD hN
  go_enter Tryd.func48, Tryd.ntmps48
  go_wp2_with fail
  go_loopw [6, 7] (fun x6 x7 wl => ∃ i : Nat, x7 = .int .i64 i ∧ i ≤ N ∧ wl.ownsRow w.heap.size 3 1 x6 i (i64s (List.replicate i 0)) ∧ Fr [] w wl) (fun _ x7 _ => N - (intOf x7).toNat)
  case atStart => exact ⟨0, rfl, by omega, World.ownsRow_nil _ _ _ _, Fr.refl _ _⟩
  case round =>
    obtain ⟨i, rfl, hi, ho, hf⟩ := hrel
    obtain ⟨oa, oc, rfl, hoa, hon⟩ := owns_form ho
    have Hoa := Lib.hid hoa
    have Ho := Lib.hid ho
    have Hf := Lib.hid hf
    clear hoa hon ho hf
    by_cases hin : i < N
    ·
      go_wp2_with (at_builtin; refine append_i64 (n := i) (base := w.heap.size) (xs := (i64s (List.replicate i 0))) (y := (0 : Int)) rfl rfl rfl ?e1 rfl ?e2 ?e3 ?e4 ?_)
      case e1 => exact owns_of_block Ho.out fun y hy => heap_alloc_else _ _ _ (owns_lt Ho.out hy)
      case e2 => first | (first | (rw [hp_alloc, if_pos rfl]; done) | exact (Array.getElem?_eq_some_iff.1 ((hp_alloc _ _ _).trans (if_pos rfl))).2 | (simp only [hp_drew, hp_drewN]; rw [hp_alloc, if_pos rfl]; done)) | (repeat (first | rw [if_pos (by omega)] | rw [if_neg (by omega)] | rw [hp_drew] | rw [hp_drewN] | rw [hp_alloc_size] | rw [hp_setCell_size] | rw [hp_alloc] | rw [hp_setCell] | rw [Option.map_some] | rw [upd_cells] | rw [List.set_cons_zero] | rw [List.set_cons_succ] | rfl))
      case e3 => omega
      case e4 => have := Hf.out.size; (first | omega | (simp only [hp_drew, hp_drewN, hp_alloc_size]; omega) | (simp; omega))
      intro g2 cap w9 hown1 hW1 hF1 hloc1 hg1
      rw [i64s_snoc0] at hown1
      have Hown1 := Lib.hid hown1
      have Hf9 := Lib.hid (fr_append Hf.out Ho.out hF1)
      clear hown1 hW1 hF1 hloc1
      rw [← List.replicate_succ'] at Hown1
      go_wp2
      go_roundw
      case rel => exact ⟨i + 1, by go_num, by omega, Hown1.out, Hf9.out⟩
      case measure => simp [intOf]; omega
    · obtain rfl : i = N := by omega
      obtain ⟨wo, rfl⟩ : ∃ wo : World, wo = wr := ⟨_, rfl⟩
      go_wp2_with fail
      go_loopw [8, 9] (fun x8 x9 wl => ∃ (r k : Nat) (z : Int) (l : List Nat), x8 = .int .u64 r ∧ x9 = .int .i64 z ∧ z = (k : Int) - 1 ∧ k ≤ i ∧ r < n ∧ l.length = i ∧ Dig 2 l ∧ (∀ j, j < k → l.getD j 0 = 0) ∧ V / 2 ^ k = val 2 (l.drop k) * n + r ∧
        wl.ownsRow w.heap.size 3 1 (.slice oa i oc) i (i64s l) ∧ Fr [] w wl) (fun _ x9 _ => (intOf x9 + 1).toNat)
      case atStart => exact ⟨0, i, _, List.replicate i 0, rfl, rfl, rfl, by omega, by omega, List.length_replicate, Dig.replicate (by omega) i, fun j hj => by simp [List.getD_eq_getElem?_getD, List.getElem?_replicate]; split <;> rfl, by rw [Nat.div_eq_of_lt HVl.out, List.drop_of_length_le (by simp)]; simp [val], Ho.out, Hf.out⟩
      case round =>
        obtain ⟨r, k, z, l, rfl, rfl, hz, hk, hr, hll, hDl, hzl, hv, ho, hf⟩ := hrel
        have Hll := Lib.hid hll
        have HDl := Lib.hid hDl
        have Hzl := Lib.hid hzl
        have Hv := Lib.hid hv
        have Ho2 := Lib.hid ho
        have Hf2 := Lib.hid hf
        clear hll hDl hzl hv ho hf
        cases k with
        | zero =>
          obtain rfl : z = -1 := by omega
          have hv := Hv.out
          rw [Nat.pow_zero, Nat.div_one, List.drop_zero] at hv
          have e1 : val 2 l = V / n := by
            rw [hv, Nat.mul_comm, Nat.mul_add_div (by omega), Nat.div_eq_of_lt hr]; rfl
          have e2 : r = V % n := by
            rw [hv, Nat.mul_comm, Nat.mul_add_mod, Nat.mod_eq_of_lt hr]
          have hof := ofBits_calls (w := wr) (ds := l) (v := .slice oa i oc) (by have h := Reads.of_owns Ho2.out; have hl := Hll.out; rw [← hl] at h ⊢; exact h) HDl.out (by have := Hll.out; omega)
          rw [e1] at hof
          have Hof := Lib.hid hof
          have He2 := Lib.hid e2
          clear hz hv e1 e2 hof
          go_wp2_with fail
          refine Hof.out.mono ?_
          rintro e w4 ⟨ra, rc, hlo, rfl, hr2, hf⟩
          obtain ⟨T, hT⟩ : ∃ T, T = dg 256 (V / n) := ⟨_, rfl⟩
          rw [← hT] at hlo hr2 ⊢
          have HT := Lib.hid hT
          have hs := Hf2.out.size
          have Hlo := Lib.hid (show ∀ g, (Value.slice ra T.length rc).ownBlock = some g → w.heap.size ≤ g from fun g hg => by have := hlo.2 g hg; omega)
          have Hlc := Lib.hid hlo.1
          have Hr2 := Lib.hid hr2
          have Hf5 := Lib.hid (Hf2.out.trans0 hf)
          clear hlo hr2 hf hT hs
          go_wp2
          go_ret2
          exact ⟨T, ra, rc, HT.out, ⟨Hlc.out, Hlo.out⟩, by rw [← He2.out]; rfl, Hr2.out, Hf5.out⟩
        | succ k =>
          obtain rfl : z = (k : Int) := by omega
          obtain ⟨g, rfl⟩ := Hoa.out (by omega)
          obtain ⟨b, hb⟩ : ∃ b, V / 2 ^ k % 2 = b := ⟨_, rfl⟩
          have hb2 : b < 2 := by omega
          have Hbk := Lib.hid (fun w1 hf => hb ▸ Hbt.out w1 hf k (by omega))
          have hq : V / 2 ^ k = 2 * (V / 2 ^ (k + 1)) + b := by
            rw [Nat.pow_succ, ← Nat.div_div_eq_div_mul]; omega
          rw [Hv.out] at hq
          have Hq := Lib.hid hq
          have hfz := owns_frozen Ho2.out rfl k
          have hgl := owns_lt Ho2.out rfl
          have e3 := owns_cell Ho2.out rfl (i64s_get (l := l) (i := k) (by have := Hll.out; omega))
          have Hset := Lib.hid (fun d => owns_set Ho2.out rfl (j := k) (by rw [i64s_length]; have := Hll.out; omega) (.int .i64 d))
          have hz0 : l.getD k 0 = 0 := Hzl.out k (by omega)
          rw [hz0] at e3
          have hvd : val 2 (l.drop k) = 2 * val 2 (l.drop (k + 1)) := by rw [val_drop, hz0, Nat.zero_add]
          have Hvd := Lib.hid hvd
          have Hvs := Lib.hid (show val 2 ((l.set k 1).drop k) = 1 + 2 * val 2 (l.drop (k + 1)) from val_set_drop (by have := Hll.out; omega))
          have Eb : IntKind.u64.wrap (b : Int) = b := IntWalk.u64_in _ (by omega)
          obtain ⟨r2, hr2⟩ : ∃ r2, 2 * r + b = r2 := ⟨_, rfl⟩
          have E2 : ((2 : Int) * r + b) = (r2 : Nat) := by omega
          have hr2l : r2 < 2 * n := by omega
          have hrb : r < 9223372036854775808 := by omega
          have Hr2 := Lib.hid hr2
          clear hz hb hq hvd hz0 hr2
          by_cases hge : n ≤ r2
          · have hd : decide (n ≤ r2) = true := by simpa using hge
            have hd' : decide ((n : Int) ≤ r2) = true := by rw [decide_eq_true_eq]; omega
            obtain ⟨r3, hr3⟩ : ∃ r3, r2 = n + r3 := ⟨r2 - n, by omega⟩
            have E3 : ((r2 : Int) - n) = (r3 : Nat) := by omega
            have Hr3 := Lib.hid hr3
            have hr3n : r3 < n := by omega
            clear hr3
            go_wp2_with fail
            refine (Hbk.out _ Hf2.out).mono ?_
            rintro e w5 ⟨rfl, rfl⟩
            go_wp2
            go_roundw
            case rel => 
              refine ⟨r3, k, (k : Int) - 1, l.set k 1, by go_num, by go_num, rfl, by omega, hr3n, by rw [List.length_set]; exact Hll.out, HDl.out.set (by omega), fun j hj => ?_, ?_, ?_, ?_⟩
              · have := Hzl.out j (by omega)
                rw [List.getD_eq_getElem?_getD, List.getElem?_set_ne (by omega), ← List.getD_eq_getElem?_getD]; exact this
              · rw [Hvs.out, Nat.add_mul, Nat.one_mul, Nat.mul_assoc]
                have h1 := Hq.out
                have h2 := Hr2.out
                have h3 := Hr3.out
                omega
              · rw [i64s_set]; exact Hset.out 1
              · exact Hf2.out.setCell (.inr (by have : w.heap.size ≤ g := owns_ge Ho2.out rfl; simp; omega)) _
            case measure => simp [intOf]
          · have hd : decide (n ≤ r2) = false := by simp; omega
            have hd' : decide ((n : Int) ≤ r2) = false := by rw [decide_eq_false_iff_not]; omega
            go_wp2_with fail
            refine (Hbk.out _ Hf2.out).mono ?_
            rintro e w5 ⟨rfl, rfl⟩
            go_wp2
            go_roundw
            case rel =>
              refine ⟨r2, k, (k : Int) - 1, l, by go_num, by go_num, rfl, by omega, by omega, Hll.out, HDl.out, fun j hj => Hzl.out j (by omega), ?_, Ho2.out, Hf2.out⟩
              rw [Hvd.out, Nat.mul_assoc]
              have h1 := Hq.out
              have h2 := Hr2.out
              omega
            case measure => simp [intOf]
end Go.Proofs.YtbacamboknmppaaDoor
