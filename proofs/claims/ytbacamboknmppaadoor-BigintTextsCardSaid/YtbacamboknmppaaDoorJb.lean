/- Big integers: size, Sub32, carry, against, Clone. -/
import Derived.Test.YtbacamboknmppaaDoorJa
import Derived.Lib.SliceRun
import Derived.Maps.AppendAt
namespace Go.Proofs.Bn
set_option linter.unusedVariables false
set_option linter.unusedSimpArgs false
theorem bit31 {z : Nat} (h : z < 4294967296) : z.testBit 31 = decide (2147483648 ≤ z) := by
  rw [Nat.testBit_eq_decide_div_mod_eq, decide_eq_decide]; omega
theorem top31 {z : Nat} (h : z < 4294967296) : z / 2147483648 = (z.testBit 31).toNat := by
  rw [bit31 h]
  by_cases hz : 2147483648 ≤ z
  · rw [decide_eq_true hz]; show _ = 1; omega
  · rw [decide_eq_false hz]; show _ = 0; omega
/-- the borrow of a subtraction -/
def bor (x y b : Nat) : Nat := if x < y + b then 1 else 0
theorem bor_le (x y b : Nat) : bor x y b ≤ 1 := by unfold bor; split <;> omega
theorem sub32_bit {x y b : Nat} (hx : x < 4294967296) (hy : y < 4294967296) (hb : b ≤ 1) :
    (((4294967295 ^^^ x) &&& y) ||| ((4294967295 ^^^ (x ^^^ y)) &&& ((x + 4294967296 - y - b) % 4294967296))) / 2147483648 = bor x y b := by
  have hd : (x + 4294967296 - y - b) % 4294967296 < 4294967296 := Nat.mod_lt _ (by omega)
  have hn1 : 4294967295 ^^^ x < 4294967296 := Nat.xor_lt_two_pow (n := 32) (by omega) hx
  have hxy : x ^^^ y < 4294967296 := Nat.xor_lt_two_pow (n := 32) hx hy
  have hn2 : 4294967295 ^^^ (x ^^^ y) < 4294967296 := Nat.xor_lt_two_pow (n := 32) (by omega) hxy
  have ha1 : (4294967295 ^^^ x) &&& y < 4294967296 := Nat.lt_of_le_of_lt Nat.and_le_right hy
  have ha2 : (4294967295 ^^^ (x ^^^ y)) &&& ((x + 4294967296 - y - b) % 4294967296) < 4294967296 := Nat.lt_of_le_of_lt Nat.and_le_right hd
  rw [top31 (Nat.or_lt_two_pow (n := 32) ha1 ha2)]
  rw [Nat.testBit_or, Nat.testBit_and, Nat.testBit_and, Nat.testBit_xor, Nat.testBit_xor, Nat.testBit_xor, bit31 hx, bit31 hy, bit31 hd, bit31 (show 4294967295 < 4294967296 by omega)]
  unfold bor
  by_cases h1 : 2147483648 ≤ x <;> by_cases h2 : 2147483648 ≤ y <;> by_cases h3 : 2147483648 ≤ (x + 4294967296 - y - b) % 4294967296 <;> by_cases h4 : x < y + b <;> simp [h1, h2, h3, h4] <;> omega
end Go.Proofs.Bn
namespace Go.Proofs.YtbacamboknmppaaDoor
open Go Go.RowKit Go.Proofs.Rg Go.Proofs.Hp Go.Proofs.Bn
set_option linter.unusedVariables false
theorem ret_u64 {a b : Int} (h : a = b) : Ending.returned (.int .u64 a) = .returned (.int .u64 b) := by rw [h]
theorem wrap_u64 (n : Int) : IntKind.u64.wrap n = n % 18446744073709551616 := by simp [IntKind.wrap, IntKind.bits, IntKind.signed]
theorem wrap_u32 (n : Int) : IntKind.u32.wrap n = n % 4294967296 := by simp [IntKind.wrap, IntKind.bits, IntKind.signed]
theorem size_calls {w : World} {n : Int} (h1 : -9223372036854775808 ≤ n) (h2 : n < 9223372036854775808) :
    Calls Tryd.prog 37 #[.int .i64 n] w fun e w' => e = .returned (.int .u64 (n.natAbs : Nat)) ∧ w = w' := by
  by_cases h : n < 0
  · have hd : decide (n < 0) = true := by simpa using h
    go_enter Tryd.func37, Tryd.ntmps37
    go_wp2
    go_ret
    exact ⟨ret_u64 (by show IntKind.u64.wrap (-IntKind.u64.wrap n) = _; rw [wrap_u64, wrap_u64]; omega), rfl⟩
  · have hd : decide (n < 0) = false := by simpa using h
    go_enter Tryd.func37, Tryd.ntmps37
    go_wp2
    go_ret
    exact ⟨ret_u64 (by show n = _; omega), rfl⟩
theorem Sub32_calls {w : World} {x y b : Nat} (hx : x < 4294967296) (hy : y < 4294967296) (hb : b ≤ 1) :
    Calls Tryd.prog 65 #[.int .u32 x, .int .u32 y, .int .u32 b] w fun e w' => e = .returned (.tuple #[.int .u32 ((x + 4294967296 - y - b) % 4294967296 : Nat), .int .u32 (bor x y b : Nat)]) ∧ w = w' := by
  have hbit := sub32_bit hx hy hb
  obtain ⟨d, hdd⟩ : ∃ d, d = (x + 4294967296 - y - b) % 4294967296 := ⟨_, rfl⟩
  have hd : ((x : Int) - y - b) % 4294967296 = (d : Nat) := by omega
  have hdl : d < 4294967296 := by omega
  rw [← hdd] at hbit ⊢
  have e1 : bits BinOp.xor IntKind.u32 IntKind.u32.max (x : Int) = ((4294967295 ^^^ x : Nat) : Int) := u32_xor_nat 4294967295 x (by omega) hx
  have e2 : bits BinOp.xor IntKind.u32 (x : Int) (y : Int) = ((x ^^^ y : Nat) : Int) := u32_xor_nat x y hx hy
  have hn1 : 4294967295 ^^^ x < 4294967296 := Nat.xor_lt_two_pow (n := 32) (by omega) hx
  have hxy : x ^^^ y < 4294967296 := Nat.xor_lt_two_pow (n := 32) hx hy
  have hn2 : 4294967295 ^^^ (x ^^^ y) < 4294967296 := Nat.xor_lt_two_pow (n := 32) (by omega) hxy
  have e3 : bits BinOp.xor IntKind.u32 IntKind.u32.max ((x ^^^ y : Nat) : Int) = ((4294967295 ^^^ (x ^^^ y) : Nat) : Int) := u32_xor_nat 4294967295 (x ^^^ y) (by omega) hxy
  have ha1 : (4294967295 ^^^ x) &&& y < 4294967296 := Nat.lt_of_le_of_lt Nat.and_le_right hy
  have ha2 : (4294967295 ^^^ (x ^^^ y)) &&& d < 4294967296 := Nat.lt_of_le_of_lt Nat.and_le_right hdl
  have e4 : bits BinOp.and IntKind.u32 ((4294967295 ^^^ x : Nat) : Int) (y : Int) = (((4294967295 ^^^ x) &&& y : Nat) : Int) := u32_and_nat _ _ hn1 hy
  have e5 : bits BinOp.and IntKind.u32 ((4294967295 ^^^ (x ^^^ y) : Nat) : Int) (d : Int) = (((4294967295 ^^^ (x ^^^ y)) &&& d : Nat) : Int) := u32_and_nat _ _ hn2 hdl
  have e6 : bits BinOp.or IntKind.u32 (((4294967295 ^^^ x) &&& y : Nat) : Int) (((4294967295 ^^^ (x ^^^ y)) &&& d : Nat) : Int) = ((((4294967295 ^^^ x) &&& y) ||| ((4294967295 ^^^ (x ^^^ y)) &&& d) : Nat) : Int) := u32_or_nat _ _ ha1 ha2
  have hres : bits BinOp.or IntKind.u32 (bits BinOp.and IntKind.u32 (bits BinOp.xor IntKind.u32 IntKind.u32.max (x : Int)) y) (bits BinOp.and IntKind.u32 (bits BinOp.xor IntKind.u32 IntKind.u32.max (bits BinOp.xor IntKind.u32 (x : Int) y)) (((x : Int) - y - b) % 4294967296)) / 2147483648 = (bor x y b : Nat) := by
    rw [hd, e1, e2, e3, e4, e5, e6]; omega
  have Hres := Lib.hid hres
  have Hd := Lib.hid hd
  generalize bor x y b = bb at *
  clear hbit hdd hd hdl e1 e2 hn1 hxy hn2 e3 ha1 ha2 e4 e5 e6 hres
  go_enter Tryd.func65, Tryd.ntmps65
  go_wp2
  go_ret2
  exact ⟨by rw [← Hres.out, ← Hd.out]; rfl, rfl⟩
theorem carry_calls {w : World} {c x y : Nat} {b : Nat} (hc : c < 4294967296) (hx : x < 4294967296) (hy : y < 4294967296) (hb : w.heap[b]? = some (.cells #[.int .u32 x, .int .u32 y] 45 (0, 0))) :
    Calls Tryd.prog 63 #[.int .u64 c, .slice (some ⟨b, 0, none⟩) 2 2] w fun e w' => e = .returned (.tuple #[.int .u32 ((c + x + y) % 4294967296 : Nat), .int .u64 ((c + x + y) / 4294967296 : Nat)]) ∧ w = w' := by
  have b0 := heap_eq_cell hb 0
  have b1 := heap_eq_cell hb 1
  have hl := lt_of_block hb
  have e1 : ((((c + x + y) % 4294967296 : Nat)) : Int) = ((c : Int) + x + y) % 4294967296 := by omega
  have e2 : ((((c + x + y) / 4294967296 : Nat)) : Int) = ((c : Int) + x + y) / 4294967296 := by omega
  have E := Lib.hid (And.intro e1 e2)
  clear hb e1 e2
  go_enter Tryd.func63, Tryd.ntmps63
  go_wp2
  refine wp_loop_rounds 3 ?_
  iterate 3 (rw [rounds_succ]; go_wp2)
  go_ret2
  exact ⟨by rw [E.out.1, E.out.2]; rfl, rfl⟩
/-- how two numbers compare -/
def cmpN (a b : Nat) : Int := if a < b then -1 else if b < a then 1 else 0
set_option maxHeartbeats 2000000 in
set_option maxRecDepth 100000 in
theorem against_calls {w : World} {da db : List Nat} {va vb : Value} (ha : Reads w va da.length 1 (u32s da)) (hb : Reads w vb db.length 1 (u32s db)) (hDa : Dig 4294967296 da) (hDb : Dig 4294967296 db) (ca : Canon da) (cb : Canon db) (hla : da.length ≤ 1000000) (hlb : db.length ≤ 1000000) :
    Calls Tryd.prog 49 #[va, vb] w fun e w' => e = .returned (.int .i64 (cmpN (val 4294967296 da) (val 4294967296 db))) ∧ Drew w w' := by
  obtain ⟨_, a, ac, rfl, haa⟩ := ha
  obtain ⟨_, b, bc, rfl, hbb⟩ := hb
  have Ha := Lib.hid haa
  have Hb := Lib.hid hbb
  clear haa hbb
  obtain ⟨r, hr0⟩ : ∃ r, cmpN (val 4294967296 da) (val 4294967296 db) = r := ⟨_, rfl⟩
  rw [hr0]
  have Hr0 := Lib.hid hr0
  clear hr0
  by_cases hne : da.length = db.length
  rotate_left
  · have hd : ((da.length : Int) != (db.length : Int)) = true := by simp; omega
    by_cases hlt : da.length < db.length
    · have hd2 : decide (da.length < db.length) = true := by simpa using hlt
      have hr := val_lt_len (by omega) hDa hDb cb hlt
      have hc : cmpN (val 4294967296 da) (val 4294967296 db) = -1 := by unfold cmpN; rw [if_pos hr]
      have Hc := Lib.hid hc
      clear hc hr hDa hDb ca cb hne hlt
      go_enter Tryd.func49, Tryd.ntmps49
      go_wp2
      go_ret
      exact ⟨by rw [← Hr0.out, Hc.out]; rfl, Drew.refl _⟩
    · have hd2 : decide (da.length < db.length) = false := by simpa using hlt
      have hr := val_lt_len (by omega) hDb hDa ca (by omega)
      have hc : cmpN (val 4294967296 da) (val 4294967296 db) = 1 := by unfold cmpN; rw [if_neg (by omega), if_pos hr]
      have Hc := Lib.hid hc
      clear hc hr hDa hDb ca cb hne hlt
      go_enter Tryd.func49, Tryd.ntmps49
      go_wp2
      go_ret
      exact ⟨by rw [← Hr0.out, Hc.out]; rfl, Drew.refl _⟩
  · have hd : ((da.length : Int) != (db.length : Int)) = false := by simp; omega
    have HDa := Lib.hid hDa
    have HDb := Lib.hid hDb
    have Hne := Lib.hid hne
    clear hDa hDb ca cb hne
    go_enter Tryd.func49, Tryd.ntmps49
    go_wp2
    go_loopw [5] (fun x wr => ∃ (k : Nat) (z : Int), x = .int .i64 z ∧ z = (k : Int) - 1 ∧ k ≤ da.length ∧ da.drop k = db.drop k ∧ Drew w wr) (fun x _ => (intOf x + 1).toNat)
    case atStart => exact ⟨da.length, _, rfl, rfl, Nat.le_refl _, by rw [List.drop_length, Hne.out, List.drop_length], Drew.refl _⟩
    case round =>
      obtain ⟨k, z, rfl, hz, hk, hdr, m, rfl⟩ := hrel
      have Hdr := Lib.hid hdr
      clear hdr
      cases k with
      | zero =>
        have hz' : z = -1 := by omega
        subst hz'
        clear hz
        have heq := Hdr.out
        rw [List.drop_zero, List.drop_zero] at heq
        have hc : cmpN (val 4294967296 da) (val 4294967296 db) = 0 := by rw [heq]; unfold cmpN; rw [if_neg (by omega), if_neg (by omega)]
        have Hc := Lib.hid hc
        clear hc heq
        go_wp2
        go_ret
        exact ⟨by rw [← Hr0.out, Hc.out]; rfl, m, rfl⟩
      | succ k =>
        obtain rfl : z = (k : Int) := by omega
        clear hz
        have hkb : k < db.length := by have := Hne.out; omega
        obtain ⟨g1, off1, rfl, hg1, hc1⟩ := Ha.out (by omega)
        obtain ⟨g2, off2, rfl, hg2, hc2⟩ := Hb.out (by omega)
        have e1 := hc1 k _ (u32s_get (by omega))
        have e2 := hc2 k _ (u32s_get hkb)
        have hxl := HDa.out.getD (by omega) k
        have hyl := HDb.out.getD (by omega) k
        have htop := fun h => val_lt_top (B := 4294967296) (by omega) HDa.out HDb.out (i := k) (by omega) Hne.out Hdr.out h
        have htop2 := fun h => val_lt_top (B := 4294967296) (by omega) HDb.out HDa.out (i := k) (by omega) Hne.out.symm Hdr.out.symm h
        have hde := drop_eq_succ (i := k) (by omega) Hne.out Hdr.out
        have Htop := Lib.hid htop
        have Htop2 := Lib.hid htop2
        have Hde := Lib.hid hde
        clear hc1 hc2 htop htop2 hde hxl hyl
        generalize da.getD k 0 = x at *
        generalize db.getD k 0 = y at *
        rcases Nat.lt_trichotomy x y with hxy | hxy | hxy
        · have hd1 : decide (x < y) = true := by simpa using hxy
          have hc : cmpN (val 4294967296 da) (val 4294967296 db) = -1 := by unfold cmpN; rw [if_pos (Htop.out hxy)]
          have Hc := Lib.hid hc
          clear hc hxy
          go_wp2
          (refine wp_region_text (by kernel_rfl) (by kernel_rfl) ?_)
          go_wp2
          refine Strict.intro rfl ?_
          go_wp2
          go_ret
          exact ⟨by rw [← Hr0.out, Hc.out]; rfl, m + 1, rfl⟩
        · subst hxy
          go_wp2
          (refine wp_region_text (by kernel_rfl) (by kernel_rfl) ?_)
          go_wp2
          refine Strict.intro rfl ?_
          go_wp2
          (refine wp_region_text (by kernel_rfl) (by kernel_rfl) ?_)
          go_wp2
          refine Strict.intro rfl ?_
          go_wp2
          go_roundw
          case rel => exact ⟨k, _, rfl, rfl, by omega, Hde.out (by first | rfl | trivial), m + 1 + 1, rfl⟩
          case measure => first | (simp [intOf]; done) | (simp [intOf]; omega)
        · have hd1 : decide (x < y) = false := by simp; omega
          have hd2 : decide (y < x) = true := by simpa using hxy
          have hc : cmpN (val 4294967296 da) (val 4294967296 db) = 1 := by unfold cmpN; rw [if_neg (by have := Htop2.out hxy; omega), if_pos (Htop2.out hxy)]
          have Hc := Lib.hid hc
          clear hc hxy
          go_wp2
          (refine wp_region_text (by kernel_rfl) (by kernel_rfl) ?_)
          go_wp2
          refine Strict.intro rfl ?_
          go_wp2
          (refine wp_region_text (by kernel_rfl) (by kernel_rfl) ?_)
          go_wp2
          refine Strict.intro rfl ?_
          go_wp2
          go_ret
          exact ⟨by rw [← Hr0.out, Hc.out]; rfl, m + 1 + 1, rfl⟩
theorem info_u32 : (Tryd.prog.info? 45).map (fun i => (i.zero, i.size, i.bytes)) = some (some (.int .u32 0), 1, 4) := by kernel_rfl
theorem u32s_one (l : List Nat) : ∀ u ∈ u32s l, u.oneCell' = true := by
  intro u hu
  simp only [u32s, List.mem_map] at hu
  obtain ⟨n, _, rfl⟩ := hu
  rfl
/-- a copy of digits -/
theorem Clone_calls {w : World} {ds : List Nat} {v : Value} (hv : Reads w v ds.length 1 (u32s ds)) (hl : ds.length ≤ 1000000) (hz : ∀ n c, v = .slice none n c → c = 0) :
    Calls Tryd.prog 59 #[v] w fun e w' => ∃ a c, e = .returned (.slice a ds.length c) ∧ w'.ownsRow w.heap.size 45 1 (.slice a ds.length c) ds.length (u32s ds) ∧ Fr [] w w' := by
  obtain ⟨_, a, c, rfl, hav⟩ := hv
  cases a with
  | none =>
    have h0 : ds.length = 0 := by
      rcases Nat.eq_zero_or_pos ds.length with h | h
      · exact h
      · obtain ⟨g, off, hh, _⟩ := hav h; cases hh
    obtain rfl := List.eq_nil_of_length_eq_zero h0
    have h1 := fun w : World => Lib.run_eql_slice_nil (P := Tryd.prog) w 22 45 none 0 c 0 0 Tryd.underlying22
    clear hav h0 hz
    go_enter Tryd.func59, Tryd.ntmps59
    go_wp2
    go_ret
    exact ⟨none, 0, rfl, World.ownsRow_nil _ _ _ _, Fr.refl _ _⟩
  | some ad =>
    have hnil := fun w : World => Lib.run_eql_slice_nil (P := Tryd.prog) w 22 45 (some ad) ds.length c 0 0 Tryd.underlying22
    obtain ⟨i0, hi0, hi1, hi2, hi3⟩ := info_parts info_u32
    have Hav := Lib.hid hav
    clear hav hz
    go_enter Tryd.func59, Tryd.ntmps59
    go_wp2_with (at_builtin; refine wpList_append_own_at _ rfl _ _ 22 rfl w.heap.size 45 i0 _ 1 4 Tryd.underlying22 hi0 hi1 hi2 hi3 rfl (by decide) _ 0 [] rfl ?e1 ad ds.length c (u32s ds) rfl (by simp [u32s]) ?e2 (u32s_one _) ?e3 ?e4 ?e5 ?_)
    case e1 => exact ⟨rfl, .inr ⟨w.heap.size, 0, #[], rfl, Nat.le_refl _, by rw [hp_alloc, if_pos rfl], Nat.le_refl _, Nat.zero_le _, rfl, rfl⟩⟩
    case e2 =>
      intro j u hj
      have hjl : j < ds.length := by have := (List.getElem?_eq_some_iff.1 hj).1; rwa [u32s_length] at this
      obtain ⟨g, off, hh, hg, hc⟩ := Hav.out (by omega)
      cases hh
      have ha : (⟨g, off, none⟩ : Addr).add j = ⟨g, off + j, none⟩ := by
        unfold Addr.add
        split
        · rename_i h0; rw [h0]; rfl
        · rfl
      rw [ha, World.cell?_alloc_past _ _ _ hg]
      exact hc j u hj
    case e3 => unfold maxLen; omega
    case e4 => omega
    case e5 => rw [hp_alloc_size]; omega
    intro v' w1 hown hgrow _ hloc
    try simp only [Nat.zero_add, List.nil_append] at hown
    obtain ⟨na, nc, rfl, _, _⟩ := owns_form hown
    go_wp2
    go_ret
    exact ⟨na, nc, rfl, hown, ((Fr.refl _ _).alloc _).grown hgrow (by intro x hx; simp [Value.ownBlock] at hx; omega)⟩
end Go.Proofs.YtbacamboknmppaaDoor
