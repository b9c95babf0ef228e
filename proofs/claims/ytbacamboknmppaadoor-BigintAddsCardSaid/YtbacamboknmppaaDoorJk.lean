/- Big integers: by. -/
import Derived.Test.YtbacamboknmppaaDoorJi
import Derived.Test.YtbacamboknmppaaDoorJj
namespace Go.Proofs.Bn
set_option linter.unusedVariables false
set_option linter.unusedSimpArgs false
theorem val_set_drop {B : Nat} {l : List Nat} {k q : Nat} (h : k < l.length) : val B ((l.set k q).drop k) = q + B * val B (l.drop (k + 1)) := by
  rw [val_drop, List.getD_eq_getElem?_getD, List.getElem?_set_self h, List.drop_set_of_lt (by omega)]
  rfl
theorem by_step {B V n rest d N Vd Vl : Nat} (hN : N = rest * B + d) (h : Vd = Vl * n + rest) : d + B * Vd = (N / n + B * Vl) * n + N % n := by
  have h1 := Nat.mod_add_div N n
  rw [h, Nat.mul_add, Nat.add_mul, Nat.mul_assoc, ← Nat.mul_comm n (N / n)]
  have : B * rest = rest * B := Nat.mul_comm _ _
  omega
theorem by_small {n rest d N : Nat} (hn : 0 < n) (hr : rest < n) (hd : d < 4294967296) (hN : N = rest * 4294967296 + d) : N / n < 4294967296 := by
  rw [Nat.div_lt_iff_lt_mul hn, Nat.mul_comm]
  have : (rest + 1) * 4294967296 ≤ n * 4294967296 := Nat.mul_le_mul_right _ hr
  omega
end Go.Proofs.Bn
namespace Go.Proofs.YtbacamboknmppaaDoor
open Go Go.RowKit Go.Proofs.Rg Go.Proofs.Hp Go.Proofs.Bn
set_option linter.unusedVariables false
theorem lo_word {rest d : Nat} (hr : rest < 18446744073709551616) (hd : d < 4294967296) : ∃ l : Nat, bits BinOp.or IntKind.u64 (IntKind.u64.wrap ((rest : Int) * 4294967296)) (d : Int) = (l : Nat) ∧ l < 18446744073709551616 ∧ rest / 4294967296 * 18446744073709551616 + l = rest * 4294967296 + d := by
  have e : IntKind.u64.wrap ((rest : Int) * 4294967296) = ((4294967296 * (rest % 4294967296) : Nat) : Int) := by rw [wrap_u64]; omega
  have h := Nat.two_pow_add_eq_or_of_lt (i := 32) (show d < 2 ^ 32 from hd) (rest % 4294967296)
  have h' : 4294967296 * (rest % 4294967296) ||| d = 4294967296 * (rest % 4294967296) + d := h.symm
  refine ⟨4294967296 * (rest % 4294967296) + d, ?_, by omega, by omega⟩
  rw [e, u64_or_nat _ _ (by omega) (by omega), h']
/-- what by leaves -/
def ByPost (w : World) (V n len : Nat) (e : Ending) (w' : World) : Prop :=
  ∃ q os, e = .returned (.tuple #[.slice (some ⟨q, 0, none⟩) len len, .int .u64 (V % n : Nat)]) ∧ w'.ownsRow w.heap.size 45 1 (.slice (some ⟨q, 0, none⟩) len len) len (u32s os) ∧ os.length = len ∧ Dig 4294967296 os ∧ val 4294967296 os = V / n ∧ Fr [] w w'
set_option maxHeartbeats 4000000 in
set_option maxRecDepth 100000 in
theorem by_calls {w : World} {ds : List Nat} {n : Nat} {v : Value} (hv : Reads w v ds.length 1 (u32s ds)) (hD : Dig 4294967296 ds) (hl : ds.length ≤ 1000000) (hn : 1 ≤ n) (hn2 : n < 18446744073709551616) :
    Calls Tryd.prog 47 #[v, .int .u64 n] w (ByPost w (val 4294967296 ds) n ds.length) := by
  obtain ⟨_, a, c, rfl, hav⟩ := hv
  have Hav := Lib.hid hav
  have HD := Lib.hid hD
  clear hav hD
  obtain ⟨len, hlen⟩ : ∃ len, ds.length = len := ⟨_, rfl⟩
  rw [hlen] at hl ⊢
  rw [hlen] at Hav
  have Hlen := Lib.hid hlen
  clear hlen
  go_enter Tryd.func47, Tryd.ntmps47
  go_wp2_with (refine wpList_make1 rfl (t := 22) (e := 45) (n := len) (z := .int .u32 0) (bytes := 4) rfl rfl rfl Tryd.underlying22 info_u32 rfl (by omega) (by unfold maxLen; omega) ?_)
  intro w2 ho2 hf2 hsz2
  obtain ⟨q, hq⟩ : ∃ q, w.heap.size = q := ⟨_, rfl⟩
  rw [hq] at ho2
  rw [hq]
  have Hq := Lib.hid hq
  have Ho2 := Lib.hid ho2
  have Hf2 := Lib.hid hf2
  clear hq ho2 hf2 hsz2
  go_wp2_with fail
  go_loopw [7, 8] (fun x7 x8 wl => ∃ (k rest : Nat) (z : Int) (l : List Nat), x7 = .int .u64 rest ∧ x8 = .int .i64 z ∧ z = (k : Int) - 1 ∧ k ≤ len ∧ l.length = len ∧ Dig 4294967296 l ∧ rest < n ∧ val 4294967296 (ds.drop k) = val 4294967296 (l.drop k) * n + rest ∧
      wl.ownsRow q 45 1 (.slice (some ⟨q, 0, none⟩) len len) len (u32s l) ∧ Fr [] w wl) (fun _ x8 _ => (intOf x8 + 1).toNat)
  case atStart => exact ⟨len, 0, _, List.replicate len 0, rfl, rfl, rfl, by omega, List.length_replicate, Dig.replicate (by omega) len, by omega, by rw [List.drop_of_length_le (by have := Hlen.out; omega), List.drop_of_length_le (by simp)]; simp [val], by rw [u32s_zero]; exact Ho2.out, Hf2.out⟩
  case round =>
    obtain ⟨k, rest, z, l, rfl, rfl, hz, hk, hl2, hD, hr, hv, ho, hf⟩ := hrel
    have hol := owns_lt ho rfl
    have Ho := Lib.hid ho
    have HDl := Lib.hid hD
    have Hl2 := Lib.hid hl2
    have Hv := Lib.hid hv
    have Hf := Lib.hid hf
    clear ho hD hl2 hv
    cases k with
    | zero =>
      obtain rfl : z = -1 := by omega
      have Hr := Lib.hid hr
      clear hz hf hr
      go_wp2
      go_ret2
      have hv := Hv.out
      rw [List.drop_zero, List.drop_zero] at hv
      obtain ⟨e1, e2⟩ : val 4294967296 ds / n = val 4294967296 l ∧ val 4294967296 ds % n = rest := by
        rw [hv, Nat.mul_comm]
        refine ⟨?_, ?_⟩
        · rw [Nat.mul_add_div (by omega), Nat.div_eq_of_lt Hr.out]; rfl
        · rw [Nat.mul_add_mod, Nat.mod_eq_of_lt Hr.out]
      refine ⟨q, l, ?_, by rw [Hq.out]; exact Ho.out, Hl2.out, HDl.out, e1.symm, Hf.out⟩
      rw [e2]; rfl
    | succ k =>
      obtain rfl : z = (k : Int) := by omega
      obtain ⟨g1, o1, rfl, hg1, hc1⟩ := Hav.out (by omega)
      have e1 := (hf.cell (p := ⟨g1, o1 + k, none⟩) hg1 (by simp)).trans (hc1 k _ (u32s_get (by have := Hlen.out; omega)))
      have hgr : g1 < wr.heap.size := by have := hf.size; omega
      have hx : ds.getD k 0 < 4294967296 := HD.out.getD (by omega) k
      have Hset := Lib.hid (fun d => owns_set Ho.out rfl (j := k) (by rw [u32s_length]; have := Hl2.out; omega) (.int .u32 d))
      have hfz := owns_frozen Ho.out rfl k
      have e3 := owns_cell Ho.out rfl (u32s_get (l := l) (i := k) (by have := Hl2.out; omega))
      have Hvd := Lib.hid (val_drop 4294967296 ds k)
      have Hr := Lib.hid hr
      clear hz hf hc1 hr
      generalize ds.getD k 0 = x at *
      generalize l.getD k 0 = o at *
      have Ex : IntKind.u64.wrap (x : Int) = x := IntWalk.u64_in _ (by omega)
      obtain ⟨lo, El, hlo, hN⟩ := lo_word (rest := rest) (d := x) (by have := Hr.out; omega) hx
      obtain ⟨hi, hhi⟩ : ∃ hi, hi = rest / 4294967296 := ⟨_, rfl⟩
      have Eh : ((rest : Int) / 4294967296) = (hi : Nat) := by omega
      rw [← hhi] at hN
      have hdiv := fun w => Div64_calls (w := w) hlo (show hi < n by have := Hr.out; omega) hn2
      rw [hN] at hdiv
      have hsm := by_small (N := rest * 4294967296 + x) (by omega) Hr.out hx rfl
      have hlt := Nat.mod_lt (rest * 4294967296 + x) (show 0 < n by omega)
      have hst := fun Vd Vl => by_step (B := 4294967296) (V := 0) (n := n) (rest := rest) (d := x) (N := rest * 4294967296 + x) (Vd := Vd) (Vl := Vl) rfl
      have Hlt := Lib.hid hlt
      have Hst := Lib.hid hst
      have Hdiv := Lib.hid hdiv
      clear hst hdiv hN hhi hlt hlo
      generalize (rest * 4294967296 + x) / n = qq at *
      generalize (rest * 4294967296 + x) % n = rr at *
      go_wp2_with fail
      (refine wp_region_text (by kernel_rfl) (by kernel_rfl) ?_)
      go_wp2
      refine Strict.intro rfl ?_
      go_wp2_with fail
      refine (Hdiv.out _).mono ?_
      rintro e w4 ⟨rfl, nd, rfl⟩
      go_wp2
      go_roundw
      case rel =>
        refine ⟨k, rr, (k : Int) - 1, l.set k qq, by go_num, by go_num, rfl, by omega, by rw [List.length_set]; exact Hl2.out, HDl.out.set hsm, Hlt.out, ?_, ?_, ?_⟩
        · rw [Hvd.out, val_set_drop (by have := Hl2.out; omega)]
          exact Hst.out _ _ Hv.out
        · rw [u32s_set]
          exact owns_set (owns_of_block (w' := wr.drew.drewN nd) Ho.out (fun g _ => rfl)) rfl (j := k) (by rw [u32s_length]; have := Hl2.out; omega) (.int .u32 qq)
        · exact Fr.setCell (p := ⟨q, k, none⟩) (Hf.out.drewN (1 + nd)) (.inr (Nat.le_of_eq Hq.out)) _
      case measure => simp [intOf]
end Go.Proofs.YtbacamboknmppaaDoor
