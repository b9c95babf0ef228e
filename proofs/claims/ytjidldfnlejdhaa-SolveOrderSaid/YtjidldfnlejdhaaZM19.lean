/- Own texts of this claim, part 20: no condition. -/
import Derived.Deep.RegionHeld3
import Derived.Deep.DeepCutAuto
import Derived.Test.YtjidldfnlejdhaaZM4
import Derived.Test.YtjidldfnlejdhaaZM5
import Derived.Test.YtjidldfnlejdhaaZM6
import Derived.Test.YtjidldfnlejdhaaZM8
import Derived.Test.YtjidldfnlejdhaaZM9
import Derived.Test.YtjidldfnlejdhaaZM10
import Derived.Test.YtjidldfnlejdhaaZM18
set_option linter.unusedVariables false
set_option linter.unusedSimpArgs false
section
/- Natural numbers as big integers among things, and where they overflow. -/
namespace Go.Proofs.Ytjidldfnlejdhaa
open Go Go.RowKit Go.Proofs.Rg Go.Proofs.Hp Go.Proofs.Bn
set_option linter.unusedVariables false
set_option linter.unusedSimpArgs false
/-- what a big integer has room for -/
def limB : Nat := 4294967296 ^ 64
theorem pow_lim (a b c n : Nat) (h : c = 2 ^ a) : 2 ^ n < c ^ b ↔ n < a * b := by
  subst h
  rw [← Nat.pow_mul]
  exact Nat.pow_lt_pow_iff_right (by omega)
theorem lim_pow (n : Nat) : 2 ^ n < limB ↔ n < 2048 := pow_lim 32 64 4294967296 n rfl
theorem zok_lim {v : Nat} (h : v < limB) : Zok (v : Int) := by unfold Zok; rw [Int.natAbs_natCast]; exact h
def bgv (v : Nat) (a : Option Addr) (c : Nat) : Value := .agg #[.bool false, .slice a (zd (v : Int)).length c]
/-- a number in blocks of its own -/
def natR (v : Nat) (a : Option Addr) (c : Nat) : Res where
  holds w F := ((zd (v : Int)).length ≤ c ∧ Reads w (.slice a (zd (v : Int)).length c) (zd (v : Int)).length 1 (u32s (zd (v : Int)))) ∧ F = if (zd (v : Int)).length = 0 then [] else (Value.slice a (zd (v : Int)).length c).ownBlock.toList
  keep := fun {w w' F} ⟨⟨h1, h3⟩, h2⟩ hk => by
    refine ⟨⟨h1, ?_⟩, h2⟩
    by_cases h0 : (zd (v : Int)).length = 0
    · exact ⟨h3.1, a, c, rfl, fun h => by omega⟩
    · rw [if_neg h0] at h2
      exact h3.keep fun x hx _ => hk x (by rw [h2]; simpa using hx)
  lt := fun {w F} ⟨⟨h1, h3⟩, h2⟩ x hx => by
    by_cases h0 : (zd (v : Int)).length = 0
    · rw [h2, if_pos h0] at hx; cases hx
    · rw [h2, if_neg h0] at hx
      obtain ⟨_, a', c', he, h4⟩ := h3
      cases he
      obtain ⟨g, off, rfl, hg, _⟩ := h4 (by omega)
      simp [Value.ownBlock] at hx
      omega
theorem nat_z {W w : World} {Ps : List Res} {v : Nat} {a : Option Addr} {c : Nat} (h : Has W w Ps) (hm : natR v a c ∈ Ps) : BigZ w (fun _ => True) (bgv v a c) (v : Int) := by
  obtain ⟨q1, q2, rfl⟩ := List.append_of_mem hm
  obtain ⟨F, ⟨⟨h1, h3⟩, _⟩⟩ := (h.perm List.perm_middle).head
  exact ⟨a, c, by unfold bgv; rw [show decide ((v : Int) < 0) = false by simp], h1, fun _ _ => trivial, h3⟩
theorem mkN_lim (z : Nat) : mkN false z = if z = 0 then (false, [], 0) else if z < limB then (false, dg 4294967296 z, 0) else (false, [], 6) := rfl
def NatRes (W : World) (Ps : List Res) (z : Nat) (e : Ending) (w' : World) : Prop :=
  ∃ (v : Nat) (er : Int) (a : Option Addr) (c : Nat), e = .returned (.tuple #[bgv v a c, .int .i64 er]) ∧ Has W w' (natR v a c :: Ps) ∧ v < limB ∧ ((z < limB ∧ er = 0 ∧ v = z) ∨ (limB ≤ z ∧ er = 6))
theorem zd_dg (v : Nat) : zd (v : Int) = dg 4294967296 v := rfl
theorem zd_none : zd ((0 : Nat) : Int) = [] := by rw [zd_dg, dg_zero]
theorem zd_none_i : zd (0 : Int) = [] := zd_none
theorem has_nat {W w w' : World} {Ps : List Res} (h : Has W w Ps) {v : Nat} {a : Option Addr} {c : Nat} (hf : Fr [] w w') (h1 : (zd (v : Int)).length ≤ c) (h2 : ∀ g, (Value.slice a (zd (v : Int)).length c).ownBlock = some g → w.heap.size ≤ g)
    (h3 : Reads w' (.slice a (zd (v : Int)).length c) (zd (v : Int)).length 1 (u32s (zd (v : Int)))) : Has W w' (natR v a c :: Ps) :=
  h.new hf (F := if (zd (v : Int)).length = 0 then [] else (Value.slice a (zd (v : Int)).length c).ownBlock.toList) ⟨⟨h1, h3⟩, rfl⟩ fun x hx => by
    split at hx
    · cases hx
    · exact h2 x (by simpa using hx)
theorem nat_post {W w w' : World} {Ps : List Res} {z : Nat} {e : Ending} (h : Has W w Ps) (hp : BigPost w (w.heap.size ≤ ·) (mkN false z) e w') : NatRes W Ps z e w' := by
  obtain ⟨a, c, ⟨h1, h2⟩, rfl, h3, hf⟩ := hp
  have hl0 : 0 < limB := Nat.pow_pos (by omega)
  by_cases h0 : z = 0
  · subst h0
    have e1 : mkN false 0 = (false, [], 0) := rfl
    rw [e1] at h1 h2 h3 ⊢
    refine ⟨0, 0, a, c, by unfold bgv; rw [zd_none], ?_, hl0, .inl ⟨hl0, rfl, rfl⟩⟩
    refine has_nat h hf ?_ ?_ ?_ <;> rw [zd_none]
    · exact h1
    · exact h2
    · exact h3
  · by_cases hz : z < limB
    · have e1 : mkN false z = (false, zd (z : Int), 0) := by rw [mkN_lim, if_neg h0, if_pos hz]; rfl
      rw [e1] at h1 h2 h3 ⊢
      exact ⟨z, 0, a, c, rfl, has_nat h hf h1 h2 h3, hz, .inl ⟨hz, rfl, rfl⟩⟩
    · have e1 : mkN false z = (false, [], 6) := by rw [mkN_lim, if_neg h0, if_neg hz]
      rw [e1] at h1 h2 h3 ⊢
      refine ⟨0, 6, a, c, by unfold bgv; rw [zd_none], ?_, hl0, .inr ⟨by omega, rfl⟩⟩
      refine has_nat h hf ?_ ?_ ?_ <;> rw [zd_none]
      · exact h1
      · exact h2
      · exact h3
theorem addS_nat {x y : Nat} (hx : x < limB) (hy : y < limB) : addS false (zd (x : Int)) false (zd (y : Int)) = mkN false (x + y) := by
  have h1 := zd_right (zok_lim hx)
  have h2 := zd_right (zok_lim hy)
  rw [show decide ((x : Int) < 0) = false by simp] at h1
  rw [show decide ((y : Int) < 0) = false by simp] at h2
  unfold addS
  rw [h1, h2, if_neg (by decide), if_pos rfl, zd_val, zd_val, Int.natAbs_natCast, Int.natAbs_natCast]
theorem zd_one : zd 1 = [1] := by
  unfold zd
  rw [show (1 : Int).natAbs = 1 from rfl, dg_succ (by omega) (by omega), show 1 / 4294967296 = 0 from rfl, dg_zero]
theorem shiftS_one (n : Nat) : shiftS false (zd 1) n = mkN false (2 ^ n) := by
  unfold shiftS
  rw [zd_one, if_neg (by simp [RightB]), if_neg (by simp), if_neg (by omega)]
  by_cases h : 2048 < n
  · rw [if_pos (by omega)]
    have h1 : ¬ 2 ^ n < limB := by rw [lim_pow]; omega
    rw [mkN_lim, if_neg (Nat.pos_iff_ne_zero.1 (Nat.pow_pos (by omega))), if_neg h1]
  · rw [if_neg (by omega)]
    congr 1
    simp [val]
section
variable {W w : World} {Ps : List Res} {A B : Nat → Prop} {va vb : Value}
theorem Add_n {x y : Nat} (h : Has W w Ps) (ha : BigZ w A va x) (hb : BigZ w B vb y) (hx : x < limB) (hy : y < limB) : Calls Try.prog 43 #[va, vb] w (NatRes W Ps (x + y)) := by
  obtain ⟨a, c, rfl, _, _, h3⟩ := ha
  obtain ⟨a', c', rfl, _, _, k3⟩ := hb
  refine (Add_calls h3 k3 (zd_dig _) (zd_dig _) (by have := zd_len (zok_lim hx); omega) (by have := zd_len (zok_lim hy); omega)).mono ?_
  rw [show decide ((x : Int) < 0) = false by simp, show decide ((y : Int) < 0) = false by simp, addS_nat hx hy]
  exact fun e w' hp => nat_post h hp
theorem RAdd_n {x y : Nat} (h : Has W w Ps) (ha : BigZ w A va x) (hb : BigZ w B vb y) (hx : x < limB) (hy : y < limB) : Calls Try.prog 45 #[va, vb] w (NatRes W Ps (x + y)) := by
  obtain ⟨a, c, rfl, _, _, h3⟩ := ha
  obtain ⟨a', c', rfl, _, _, k3⟩ := hb
  refine (RAdd_calls h3 k3 (zd_dig _) (zd_dig _) (by have := zd_len (zok_lim hx); omega) (by have := zd_len (zok_lim hy); omega)).mono ?_
  rw [show decide ((x : Int) < 0) = false by simp, show decide ((y : Int) < 0) = false by simp, addS_nat hx hy]
  exact fun e w' hp => nat_post h hp
theorem Shift_n {n : Nat} (h : Has W w Ps) (ha : BigZ w A va 1) (hn : n ≤ 1000000) : Calls Try.prog 42 #[va, .int .i64 n] w (NatRes W Ps (2 ^ n)) := by
  obtain ⟨a, c, rfl, h1, _, h3⟩ := ha
  refine (Shift_calls (neg := decide ((1 : Int) < 0)) h3 (zd_dig 1) (by rw [zd_one]; simp) h1 (by omega) (by omega)).mono ?_
  rw [show decide ((1 : Int) < 0) = false from rfl, shiftS_one]
  exact fun e w' hp => nat_post h hp
theorem one_res {x : Nat} {e : Ending} {w' : World} (h : Has W w Ps) (hz : Zok (x : Int)) (hp : BigPost1 w (w.heap.size ≤ ·) (fromS (x : Int)) e w') : ∃ a c, e = .returned (bgv x a c) ∧ Has W w' (natR x a c :: Ps) := by
  rw [fromS_z hz] at hp
  obtain ⟨a, c, ⟨h1, h2⟩, rfl, h3, hf⟩ := hp
  exact ⟨a, c, by unfold bgv; rw [show decide ((x : Int) < 0) = false by simp], has_nat h hf h1 h2 h3⟩
theorem From_n {x : Nat} (h : Has W w Ps) (hx : x < 9223372036854775808) : Calls Try.prog 37 #[.int .i64 x] w fun e w' => ∃ a c, e = .returned (bgv x a c) ∧ Has W w' (natR x a c :: Ps) :=
  (From_calls (n := (x : Int)) (by omega) (by omega)).mono fun e w' hp => one_res h (zok_int (by omega) (by omega)) hp
theorem RFrom_n {x : Nat} (h : Has W w Ps) (hx : x < 9223372036854775808) : Calls Try.prog 24 #[.int .i64 x] w fun e w' => ∃ a c, e = .returned (bgv x a c) ∧ Has W w' (natR x a c :: Ps) :=
  (RFrom_calls (n := (x : Int)) (by omega) (by omega)).mono fun e w' hp => one_res h (zok_int (by omega) (by omega)) hp
theorem RCompare_n {x y : Int} (ha : BigZ w A va x) (hb : BigZ w B vb y) (hx : Zok x) (hy : Zok y) : Calls Try.prog 22 #[va, vb] w fun e w' => e = .returned (.int .i64 (cmpI x y)) ∧ Fr [] w w' := by
  obtain ⟨a, c, rfl, _, _, h3⟩ := ha
  obtain ⟨a', c', rfl, _, _, k3⟩ := hb
  have := RCompare_calls (na := decide (x < 0)) (nb := decide (y < 0)) h3 k3 (zd_dig x) (zd_dig y) (by have := zd_len hx; omega) (by have := zd_len hy; omega)
  rwa [cmpS_z hx hy] at this
end
end Go.Proofs.Ytjidldfnlejdhaa
end

section
/- The reference's number. -/
namespace Go.Proofs.Ytjidldfnlejdhaa
open Go Go.RowKit Go.Proofs.Rg Go.Proofs.Mp Go.Proofs.Hp Go.Proofs.Sv Go.Proofs.Bn
set_option linter.unusedVariables false
set_option linter.unusedSimpArgs false
theorem Seps.join4 {w : World} : ∀ {Qs Ps : List Res} {G F : List Nat}, Seps w Qs G → Seps w Ps F → (∀ x ∈ G, x ∉ F) → Seps w (Qs ++ Ps) (G ++ F) := fun h1 h2 h3 => Seps.append.2 ⟨_, _, h1, h2, h3, rfl⟩
/-- things side by side, joined -/
theorem has_join4 {W w w' : World} {Ps Qs : List Res} (h : Has W w Ps) (k : Has w w' Qs) : Has W w' (Qs ++ Ps) := by
  obtain ⟨F, h1, h2, h3⟩ := h
  obtain ⟨G, k1, k2, k3⟩ := k
  refine ⟨G ++ F, Seps.join4 k1 (h1.keep fun x hx => k2.block x (h1.lt x hx) (by simp)) fun x hx hx' => ?_, h2.trans0 k2, fun x hx => ?_⟩
  · have := k3 x hx; have := h1.lt x hx'; omega
  · rcases List.mem_append.1 hx with hx | hx
    · have := k3 x hx; have := h2.size; omega
    · exact h3 x hx
theorem numR_le (cs : List (List Int)) : ∀ (k : Nat) (l : List Bool), numR cs k l ≤ 2 ^ k
  | 0, l => by unfold numR; split <;> simp
  | k + 1, l => by
    have h1 := numR_le cs k (l ++ [false])
    have h2 := numR_le cs k (l ++ [true])
    unfold numR
    rw [Nat.pow_succ]
    split <;> omega
theorem numR_lim {cs : List (List Int)} {k : Nat} (hk : k ≤ 1000) (l : List Bool) : numR cs k l < limB := by
  have h1 := numR_le cs k l
  have h2 : 2 ^ k < limB := by rw [lim_pow]; omega
  omega
def NumAt (V : Nat) (a : Option Addr) (c : Nat) (cs : List (List Int)) (k : Nat) : Prop :=
  ∀ ⦃w : World⦄ (hF : FormAt w a c cs) ⦃la : Option Addr⦄ ⦃lc : Nat⦄ ⦃l : List Bool⦄ (hl : BoolsAt w (.slice la l.length lc) l) (hc : l.length ≤ lc) (hk : l.length + k = V),
    Calls Try.prog 44 #[.agg #[.int .i64 (V : Int), .slice a cs.length c], .slice la l.length lc] w fun e w' => ∃ a c, e = .returned (bgv (numR cs k l) a c) ∧ Has w w' [natR (numR cs k l) a c]
theorem nat_zero {W w : World} {Ps : List Res} (h : Has W w Ps) : Has W w (natR 0 none 0 :: Ps) := by
  refine has_nat h (Fr.refl [] _) ?_ ?_ ?_ <;> rw [zd_none]
  · simp
  · intro g hg; simp [Value.ownBlock] at hg
  · exact reads_nil w
set_option maxHeartbeats 8000000 in
theorem Rnumber_zero {V : Nat} {a : Option Addr} {c : Nat} {cs : List (List Int)} (hz : LitsOk cs) (hn6 : cs.length ≤ 262144) (hV : V ≤ 1000) : NumAt V a c cs 0 := by
  intro w hF la lc l hl hc hk
  have HZ := Lib.hid (And.intro hz (And.intro hn6 hV))
  have hkv : ((l.length : Int) == (V : Int)) = true := by simp; omega
  clear hz hn6 hV
  have h1 := (Has.nil (Fr.refl [] w)).newBlk (.cells #[.int .i64 (V : Int), .slice a cs.length c] 24 (0, 0))
  have h2 := h1.newBlk (.cells #[.bool false, .slice none 0 0] 41 (0, 0))
  rw [hp_alloc_size] at h2
  have HF := Lib.hid hF
  have HL := Lib.hid (And.intro hl hc)
  have HK := Lib.hid hk
  obtain ⟨R, hR⟩ : ∃ R, hold cs l = R := ⟨_, rfl⟩
  have HR := Lib.hid hR
  obtain ⟨NR, hNR⟩ : ∃ N, numR cs 0 l = N := ⟨_, rfl⟩
  rw [hNR]
  have HNR := Lib.hid hNR
  have H1 := Lib.hid h2
  clear hF hl hc hR hk h1 h2 hNR
  go_enter Try.func44, Try.ntmps44
  go_wp2_with fail
  refine (Rholds_calls (HF.out.fr H1.out.fr) HZ.out.1 HZ.out.2.1 (HL.out.1.fr H1.out.fr) (by have := HK.out; have := HZ.out.2.2; omega)).mono ?_
  rw [HR.out]
  rintro e w2 ⟨rfl, hf2⟩
  have H2 := Lib.hid (H1.out.step hf2)
  obtain ⟨fb, hfb⟩ : ∃ b, w.heap.size = b := ⟨_, rfl⟩
  rw [hfb] at H2 ⊢
  obtain ⟨rb, hrb⟩ : ∃ b, fb + 1 = b := ⟨_, rfl⟩
  rw [hrb] at H2 ⊢
  have hb := H2.out.blk
  have r0 : _ = some _ := heap_eq_cell hb 0
  have r1 : _ = some _ := heap_eq_cell hb 1
  have rz0 := heap_eq_frozen hb 0
  have rz1 := heap_eq_frozen hb 1
  have rl := lt_of_block hb
  have hb := (H2.out.bring 1).blk
  have c0 : w2.cell? ⟨fb, 0, none⟩ = some _ := heap_eq_cell hb 0
  have c1 : w2.cell? ⟨fb, 1, none⟩ = some _ := heap_eq_cell hb 1
  have cl := lt_of_block hb
  clear hf2 H1 hb hfb hrb
  cases R with
  | false =>
    have HE := Lib.hid (show NR = 0 by rw [← HNR.out]; unfold numR; rw [if_neg (by rw [HR.out]; simp)])
    have H3 := Lib.hid ((H2.out.blkSet 0 (.bool false)).blkSet 1 (.slice none 0 0))
    clear H2
    go_wp2
    refine bodyPost_ret (big_result1 rfl (b := rb) (x := .bool false) (y := .slice none 0 0) rfl ?_) rfl ⟨none, 0, ?_, ?_⟩
    · exact H3.out.blk
    · rw [HE.out]; unfold bgv; rw [zd_none]; rfl
    · rw [HE.out]; exact nat_zero H3.out.drop.drop
  | true =>
    have HE := Lib.hid (show NR = 1 by rw [← HNR.out]; unfold numR; rw [if_pos HR.out])
    go_wp2_with fail
    refine (RFrom_n (x := 1) (H2.out.step (by (repeat first | exact Fr.refl _ _ | assumption | apply Fr.n | apply Fr.d | apply Fr.a | refine Fr.s ?_ (.inr (by simp; try omega)) _))) (by omega)).mono ?_
    rintro e w3 ⟨a3, c3, rfl, h3⟩
    have hb := (h3.bring 1).blk
    clear r0 r1 rz0 rz1 rl
    have r0 : _ = some _ := heap_eq_cell hb 0
    have r1 : _ = some _ := heap_eq_cell hb 1
    have rz0 := heap_eq_frozen hb 0
    have rz1 := heap_eq_frozen hb 1
    have rl := lt_of_block hb
    have H3 := Lib.hid (((h3.bring 1).blkSet 0 (.bool false)).blkSet 1 (.slice a3 (zd ((1 : Nat) : Int)).length c3))
    clear h3 hb H2
    unfold bgv
    go_wp2
    refine bodyPost_ret (big_result1 rfl (b := rb) (x := .bool false) (y := .slice a3 (zd ((1 : Nat) : Int)).length c3) rfl ?_) rfl ⟨a3, c3, by rw [HE.out]; rfl, ?_⟩
    · exact H3.out.blk
    · rw [HE.out]; exact H3.out.ord 3 [1]
theorem held_size {w w' : World} (h : Fr [] w w') {n : Nat} (hn : n < w.heap.size) : n < w'.heap.size := Nat.lt_of_lt_of_le hn h.size
set_option maxHeartbeats 16000000 in
set_option maxRecDepth 100000 in
theorem Rnumber_succ {V : Nat} {a : Option Addr} {c : Nat} {cs : List (List Int)} (hz : LitsOk cs) (hn6 : cs.length ≤ 262144) (hV : V ≤ 1000) {k : Nat} (ih : NumAt V a c cs k) : NumAt V a c cs (k + 1) := by
  intro w hF la lc l hl hc hk
  have HZ := Lib.hid (And.intro hz (And.intro hn6 hV))
  have IH := Lib.hid (show NumAt V a c cs k from ih)
  have hkv : ((l.length : Int) == (V : Int)) = false := by simp; omega
  clear hz hn6 hV ih
  have h1 := (Has.nil (Fr.refl [] w)).newBlk (.cells #[.int .i64 (V : Int), .slice a cs.length c] 24 (0, 0))
  have h2 := h1.newBlk (.cells #[.bool false, .slice none 0 0] 41 (0, 0))
  rw [hp_alloc_size] at h2
  have HF := Lib.hid hF
  have HL := Lib.hid (And.intro hl hc)
  have HK := Lib.hid hk
  obtain ⟨R, hR⟩ : ∃ R, hold cs l = R := ⟨_, rfl⟩
  have HR := Lib.hid hR
  obtain ⟨NR, hNR⟩ : ∃ N, numR cs (k+1) l = N := ⟨_, rfl⟩
  rw [hNR]
  have HNR := Lib.hid hNR
  have H1 := Lib.hid h2
  clear hF hl hc hR hk h1 h2 hNR
  go_enter Try.func44, Try.ntmps44
  go_wp2_with fail
  refine (Rholds_calls (HF.out.fr H1.out.fr) HZ.out.1 HZ.out.2.1 (HL.out.1.fr H1.out.fr) (by have := HK.out; have := HZ.out.2.2; omega)).mono ?_
  rw [HR.out]
  rintro e w2 ⟨rfl, hf2⟩
  have H2 := Lib.hid (H1.out.step hf2)
  obtain ⟨fb, hfb⟩ : ∃ b, w.heap.size = b := ⟨_, rfl⟩
  rw [hfb] at H2 ⊢
  obtain ⟨rb, hrb⟩ : ∃ b, fb + 1 = b := ⟨_, rfl⟩
  rw [hrb] at H2 ⊢
  have hb := H2.out.blk
  have r0 : _ = some _ := heap_eq_cell hb 0
  have r1 : _ = some _ := heap_eq_cell hb 1
  have rz0 := heap_eq_frozen hb 0
  have rz1 := heap_eq_frozen hb 1
  have rl := lt_of_block hb
  have hb := (H2.out.bring 1).blk
  have c0 : w2.cell? ⟨fb, 0, none⟩ = some _ := heap_eq_cell hb 0
  have c1 : w2.cell? ⟨fb, 1, none⟩ = some _ := heap_eq_cell hb 1
  have cl := lt_of_block hb
  clear hf2 H1 hb hfb hrb
  cases R with
  | false =>
    have HE := Lib.hid (show NR = 0 by rw [← HNR.out]; unfold numR; rw [if_neg (by rw [HR.out]; simp)])
    have H3 := Lib.hid ((H2.out.blkSet 0 (.bool false)).blkSet 1 (.slice none 0 0))
    clear H2
    go_wp2
    refine bodyPost_ret (big_result1 rfl (b := rb) (x := .bool false) (y := .slice none 0 0) rfl ?_) rfl ⟨none, 0, ?_, ?_⟩
    · exact H3.out.blk
    · rw [HE.out]; unfold bgv; rw [zd_none]; rfl
    · rw [HE.out]; exact nat_zero H3.out.drop.drop
  | true =>
    have HE := Lib.hid (show NR = numR cs k (l ++ [false]) + numR cs k (l ++ [true]) by rw [← HNR.out, numR, if_pos HR.out])
    obtain ⟨x, hx⟩ : ∃ x, numR cs k (l ++ [false]) = x := ⟨_, rfl⟩
    obtain ⟨y, hy⟩ : ∃ y, numR cs k (l ++ [true]) = y := ⟨_, rfl⟩
    obtain ⟨xy, hxy⟩ : ∃ z, x + y = z := ⟨_, rfl⟩
    have HXY := Lib.hid (show x < limB ∧ y < limB ∧ xy < limB from by
      refine ⟨hx ▸ numR_lim (by have := HK.out; have := HZ.out.2.2; omega) _, hy ▸ numR_lim (by have := HK.out; have := HZ.out.2.2; omega) _, ?_⟩
      rw [← hxy, ← hx, ← hy, ← HE.out, ← HNR.out]
      exact numR_lim (by have := HK.out; have := HZ.out.2.2; omega) _)
    have HNXY := Lib.hid (show NR = xy by rw [HE.out, hx, hy, hxy])
    have HW := Lib.hid (fun (b : Bool) w1 (hf : Fr [] w2 w1) => Rwith_h (Has.nil (Fr.refl [] w1)) (BoolsSrc.base (HL.out.1.fr (H2.out.fr.trans0 hf)) HL.out.2) (by have := HK.out; have := HZ.out.2.2; omega) b)
    have key : ∀ (b : Bool) w1 a3 c3, Fr [] w2 w1 → Has w1 w1 [] → BoolsAt w1 (.slice a3 (l.length + 1) c3) (l ++ [b]) → l.length + 1 ≤ c3 → Calls Try.prog 44 #[.agg #[.int .i64 (V : Int), .slice a cs.length c], .slice a3 (l.length + 1) c3] w1 fun e w' => ∃ a c, e = .returned (bgv (numR cs k (l ++ [b])) a c) ∧ Has w1 w' [natR (numR cs k (l ++ [b])) a c] := by
      intro b w1 a3 c3 hf _ hb1 hc1
      have e1 : (l ++ [b]).length = l.length + 1 := by simp
      have := IH.out (HF.out.fr (H2.out.fr.trans0 hf)) (la := a3) (lc := c3) (l := l ++ [b]) (by rw [e1]; exact hb1) (by rw [e1]; exact hc1) (by rw [e1]; have := HK.out; omega)
      rwa [e1] at this
    have HNF := Lib.hid (hx ▸ fun w1 a3 c3 (hf : Fr [] w2 w1) hb hc => key false w1 a3 c3 hf (Has.nil (Fr.refl [] _)) hb hc)
    have HNT := Lib.hid (hy ▸ fun w1 a3 c3 (hf : Fr [] w2 w1) hb hc => key true w1 a3 c3 hf (Has.nil (Fr.refl [] _)) hb hc)
    have HADD := Lib.hid (fun w1 a4 c4 a6 c6 (h4 : BigZ w1 (fun _ => True) (bgv x a4 c4) x) (h6 : BigZ w1 (fun _ => True) (bgv y a6 c6) y) => show Calls Try.prog 45 #[bgv x a4 c4, bgv y a6 c6] w1 (fun e w' => ∃ a c, e = .returned (.tuple #[.agg #[.bool false, .slice a (zd (xy : Int)).length c], .int .i64 0]) ∧ Has w1 w' [natR xy a c]) from by
      refine (RAdd_n (Has.nil (Fr.refl [] w1)) h4 h6 HXY.out.1 HXY.out.2.1).mono ?_
      rw [hxy]
      rintro e w7 ⟨v, er, a7, c7, rfl, h7, hv, hor⟩
      obtain ⟨rfl, rfl⟩ : er = 0 ∧ v = xy := by
        rcases hor with ⟨_, h1, h2⟩ | ⟨h1, _⟩
        · exact ⟨h1, h2⟩
        · have := HXY.out.2.2; omega
      exact ⟨a7, c7, rfl, h7⟩)
    have HBA := Lib.hid (fun (b : Bool) w1 w3 (a3 : Option Addr) (c3 : Nat) (h : Has w1 w3 [Hp.row 4 1 (.slice a3 (l.length + 1) c3) (l.length + 1) (bv (l ++ [b]))]) => show BoolsAt w3 (.slice a3 (l.length + 1) c3) (l ++ [b]) ∧ l.length + 1 ≤ c3 from by
      have e1 : (l ++ [b]).length = l.length + 1 := by simp
      have := (BoolsSrc.row (W := w1) (a := a3) (c := c3) (Ps := [Hp.row 4 1 (.slice a3 (l.length + 1) c3) (l.length + 1) (bv (l ++ [b]))]) (l := l ++ [b]) e1 (by simp)) _ _ h fun P hP => hP
      rwa [e1] at this)
    have ne0 := World.new_ne w2 _ c0
    clear hx hy hxy r0 r1 rz0 rz1 rl key
    go_wp2
    go_cut [5] (fun s5 wx => ∃ (nb : Nat) (a7 : Option Addr) (c7 : Nat), s5 = .pointer (some ⟨nb, 0, none⟩) ∧ Hid (Has w wx (Hp.blk nb (.cells #[.bool false, .slice a7 (zd (xy : Int)).length c7] 41 (0, 0)) :: Hp.blk rb (.cells #[.bool false, .slice none 0 0] 41 (0, 0)) :: natR xy a7 c7 :: [])))
    case first =>
      go_region_held3 (fun w' => w'.cell? ⟨fb, 0, none⟩ = some (.int .i64 (V : Int)) ∧ w'.cell? ⟨fb, 1, none⟩ = some (.slice a cs.length c)) (first | go_keep | exact ⟨kA0, kA1⟩ | exact ⟨kB0, kB1⟩ | exact ⟨kC0, kC1⟩ | exact ⟨kD0, kD1⟩ | exact ⟨kE0, kE1⟩)
        (first | (have hmk := KD; clear hmk; go_at_call 45; refine (HADD.out _ a4 c4 a6 c6 ?_ ?_).mono ?_; (· exact (nat_z KB.out (by simp)).fr0 (by (repeat first | exact Fr.refl _ _ | assumption | apply Fr.n | apply Fr.d | apply Fr.a | refine Fr.s ?_ (.inl (by simp)) _))); (· exact (nat_z KD.out (by simp)).fr0 (by (repeat first | exact Fr.refl _ _ | assumption | apply Fr.n | apply Fr.d | apply Fr.a | refine Fr.s ?_ (.inl (by simp)) _))); rintro e wE ⟨a7, c7, rfl, kE⟩; have KE := Lib.hid kE; have hfE := kE.fr; clear kE; have hrE : Fr [] w2 wE := Fr.trans0 (by (repeat first | exact Fr.refl _ _ | assumption | apply Fr.n | apply Fr.d | apply Fr.a | refine Fr.s ?_ (.inl (by simp)) _)) hfE; have kE0 := (hrE.cell (p := ⟨fb, 0, none⟩) cl (by simp)).trans c0; have kE1 := (hrE.cell (p := ⟨fb, 1, none⟩) cl (by simp)).trans c1; have nE0 := World.new_ne wE _ kE0; obtain ⟨cE, zE⟩ := frcell hfE; (try (have sE : w2.heap.size < wE.heap.size := by have h := hfE.size; (try simp at h); omega)); (try (have sEA : wA.heap.size < wE.heap.size := by have h := hfE.size; (try simp at h); omega)); (try (have sEB : wB.heap.size < wE.heap.size := by have h := hfE.size; (try simp at h); omega)); (try (have sEC : wC.heap.size < wE.heap.size := by have h := hfE.size; (try simp at h); omega)); (try (have sED : wD.heap.size < wE.heap.size := by have h := hfE.size; (try simp at h); omega)))  | (have hmk := KC; clear hmk; go_at_call 44; refine (HNT.out _ a5 c5 ?_ ?_ ?_).mono ?_; (· (repeat first | exact Fr.refl _ _ | assumption | apply Fr.n | apply Fr.d | apply Fr.a | refine Fr.s ?_ (.inl (by simp)) _)); (· exact (HBA.out true _ _ _ _ KC.out).1.fr (by (repeat first | exact Fr.refl _ _ | assumption | apply Fr.n | apply Fr.d | apply Fr.a | refine Fr.s ?_ (.inl (by simp)) _))); (· exact (HBA.out true _ _ _ _ KC.out).2); rintro e wD ⟨a6, c6, rfl, kD⟩; have KD := Lib.hid kD; have hfD := kD.fr; clear kD; have hrD : Fr [] w2 wD := Fr.trans0 (by (repeat first | exact Fr.refl _ _ | assumption | apply Fr.n | apply Fr.d | apply Fr.a | refine Fr.s ?_ (.inl (by simp)) _)) hfD; have qBD : Fr [] wB wD := Fr.trans0 (Fr.trans0 qBC (by (repeat first | exact Fr.refl _ _ | assumption | apply Fr.n | apply Fr.d | apply Fr.a | refine Fr.s ?_ (.inl (by simp)) _))) hfD; have kD0 := (hrD.cell (p := ⟨fb, 0, none⟩) cl (by simp)).trans c0; have kD1 := (hrD.cell (p := ⟨fb, 1, none⟩) cl (by simp)).trans c1; have nD0 := World.new_ne wD _ kD0; obtain ⟨cD, zD⟩ := frcell hfD; (try (have sD : w2.heap.size < wD.heap.size := by have h := hfD.size; (try simp at h); omega)); (try (have sDA : wA.heap.size < wD.heap.size := by have h := hfD.size; (try simp at h); omega)); (try (have sDB : wB.heap.size < wD.heap.size := by have h := hfD.size; (try simp at h); omega)); (try (have sDC : wC.heap.size < wD.heap.size := by have h := hfD.size; (try simp at h); omega)))  | (have hmk := KB; clear hmk; go_at_call 34; refine (HW.out true _ ?_).mono ?_; (· (repeat first | exact Fr.refl _ _ | assumption | apply Fr.n | apply Fr.d | apply Fr.a | refine Fr.s ?_ (.inl (by simp)) _)); rintro e wC ⟨a5, c5, rfl, kC⟩; have KC := Lib.hid kC; have hfC := kC.fr; clear kC; have hrC : Fr [] w2 wC := Fr.trans0 (by (repeat first | exact Fr.refl _ _ | assumption | apply Fr.n | apply Fr.d | apply Fr.a | refine Fr.s ?_ (.inl (by simp)) _)) hfC; have qBC : Fr [] wB wC := Fr.trans0 (by (repeat first | exact Fr.refl _ _ | assumption | apply Fr.n | apply Fr.d | apply Fr.a | refine Fr.s ?_ (.inl (by simp)) _)) hfC; have kC0 := (hrC.cell (p := ⟨fb, 0, none⟩) cl (by simp)).trans c0; have kC1 := (hrC.cell (p := ⟨fb, 1, none⟩) cl (by simp)).trans c1; have nC0 := World.new_ne wC _ kC0; obtain ⟨cC, zC⟩ := frcell hfC; (try (have sC : w2.heap.size < wC.heap.size := by have h := hfC.size; (try simp at h); omega)); (try (have sCA : wA.heap.size < wC.heap.size := by have h := hfC.size; (try simp at h); omega)); (try (have sCB : wB.heap.size < wC.heap.size := by have h := hfC.size; (try simp at h); omega)))  | (have hmk := KA; clear hmk; go_at_call 44; refine (HNF.out _ a3 c3 ?_ ?_ ?_).mono ?_; (· (repeat first | exact Fr.refl _ _ | assumption | apply Fr.n | apply Fr.d | apply Fr.a | refine Fr.s ?_ (.inl (by simp)) _)); (· exact (HBA.out false _ _ _ _ KA.out).1.fr (by (repeat first | exact Fr.refl _ _ | assumption | apply Fr.n | apply Fr.d | apply Fr.a | refine Fr.s ?_ (.inl (by simp)) _))); (· exact (HBA.out false _ _ _ _ KA.out).2); rintro e wB ⟨a4, c4, rfl, kB⟩; have KB := Lib.hid kB; have hfB := kB.fr; clear kB; have hrB : Fr [] w2 wB := Fr.trans0 (by (repeat first | exact Fr.refl _ _ | assumption | apply Fr.n | apply Fr.d | apply Fr.a | refine Fr.s ?_ (.inl (by simp)) _)) hfB; have kB0 := (hrB.cell (p := ⟨fb, 0, none⟩) cl (by simp)).trans c0; have kB1 := (hrB.cell (p := ⟨fb, 1, none⟩) cl (by simp)).trans c1; have nB0 := World.new_ne wB _ kB0; obtain ⟨cB, zB⟩ := frcell hfB; (try (have sB : w2.heap.size < wB.heap.size := by have h := hfB.size; (try simp at h); omega)); (try (have sBA : wA.heap.size < wB.heap.size := by have h := hfB.size; (try simp at h); omega)))  | (go_at_call 34; refine (HW.out false _ ?_).mono ?_; (· (repeat first | exact Fr.refl _ _ | assumption | apply Fr.n | apply Fr.d | apply Fr.a | refine Fr.s ?_ (.inl (by simp)) _)); rintro e wA ⟨a3, c3, rfl, kA⟩; have KA := Lib.hid kA; have hfA := kA.fr; clear kA; have hrA : Fr [] w2 wA := Fr.trans0 (by (repeat first | exact Fr.refl _ _ | assumption | apply Fr.n | apply Fr.d | apply Fr.a | refine Fr.s ?_ (.inl (by simp)) _)) hfA; have kA0 := (hrA.cell (p := ⟨fb, 0, none⟩) cl (by simp)).trans c0; have kA1 := (hrA.cell (p := ⟨fb, 1, none⟩) cl (by simp)).trans c1; have nA0 := World.new_ne wA _ kA0; obtain ⟨cA, zA⟩ := frcell hfA; (try (have sA : w2.heap.size < wA.heap.size := by have h := hfA.size; (try simp at h); omega))))
      all_goals go_wp2_with fail
      all_goals go_meet
      · have k1 := has_join4 ((H2.out.ord 2 [0]).step (by (repeat first | exact Fr.refl _ _ | assumption | apply Fr.n | apply Fr.d | apply Fr.a | refine Fr.s ?_ (.inl (by simp)) _))) KE.out
        have k2 := (k1.newBlk (.cells #[.bool false, .slice a7 (zd (xy : Int)).length c7] 41 (0, 0))).ord 3 [0, 2, 1]
        exact ⟨_, a7, c7, rfl, Lib.hid k2⟩
      · have k0 := (H2.out.ord 2 [0]).step (hrD)
        have k1 := k0.newBlk (.cells #[.bool false, .slice none 0 0] 41 (0, 0))
        have k2 := (has_join4 (k1.step (by (repeat first | exact Fr.refl _ _ | assumption | apply Fr.n | apply Fr.d | apply Fr.a | refine Fr.s ?_ (.inl (by simp)) _))) KE.out).ord 3 [1, 2, 0]
        have k3 := (k2.blkSet 0 (.bool false)).blkSet 1 (.slice a7 (zd (xy : Int)).length c7)
        exact ⟨_, a7, c7, rfl, Lib.hid k3⟩
      · have k0 := (H2.out.ord 2 [0]).step (hrC)
        have k1 := k0.newBlk (.cells #[.bool false, .slice none 0 0] 41 (0, 0))
        have k2 := (has_join4 (k1.step (hfD.trans0 (by (repeat first | exact Fr.refl _ _ | assumption | apply Fr.n | apply Fr.d | apply Fr.a | refine Fr.s ?_ (.inl (by simp)) _)))) KE.out).ord 3 [1, 2, 0]
        have k3 := (k2.blkSet 0 (.bool false)).blkSet 1 (.slice a7 (zd (xy : Int)).length c7)
        exact ⟨_, a7, c7, rfl, Lib.hid k3⟩
      · have k0 := (H2.out.ord 2 [0]).step (hrB)
        have k1 := k0.newBlk (.cells #[.bool false, .slice none 0 0] 41 (0, 0))
        have k2 := (has_join4 (k1.step (hfC.trans0 (Fr.trans0 (by (repeat first | exact Fr.refl _ _ | assumption | apply Fr.n | apply Fr.d | apply Fr.a | refine Fr.s ?_ (.inl (by simp)) _)) (hfD.trans0 (by (repeat first | exact Fr.refl _ _ | assumption | apply Fr.n | apply Fr.d | apply Fr.a | refine Fr.s ?_ (.inl (by simp)) _)))))) KE.out).ord 3 [1, 2, 0]
        have k3 := (k2.blkSet 0 (.bool false)).blkSet 1 (.slice a7 (zd (xy : Int)).length c7)
        exact ⟨_, a7, c7, rfl, Lib.hid k3⟩
      · have k0 := (H2.out.ord 2 [0]).step (hrA)
        have k1 := k0.newBlk (.cells #[.bool false, .slice none 0 0] 41 (0, 0))
        have k2 := (has_join4 (k1.step (hfB.trans0 (Fr.trans0 (by (repeat first | exact Fr.refl _ _ | assumption | apply Fr.n | apply Fr.d | apply Fr.a | refine Fr.s ?_ (.inl (by simp)) _)) (hfC.trans0 (Fr.trans0 (by (repeat first | exact Fr.refl _ _ | assumption | apply Fr.n | apply Fr.d | apply Fr.a | refine Fr.s ?_ (.inl (by simp)) _)) (hfD.trans0 (by (repeat first | exact Fr.refl _ _ | assumption | apply Fr.n | apply Fr.d | apply Fr.a | refine Fr.s ?_ (.inl (by simp)) _)))))))) KE.out).ord 3 [1, 2, 0]
        have k3 := (k2.blkSet 0 (.bool false)).blkSet 1 (.slice a7 (zd (xy : Int)).length c7)
        exact ⟨_, a7, c7, rfl, Lib.hid k3⟩
      · have k0 := (H2.out.ord 2 [0]).step (by (repeat first | exact Fr.refl _ _ | assumption | apply Fr.n | apply Fr.d | apply Fr.a | refine Fr.s ?_ (.inl (by simp)) _))
        have k1 := k0.newBlk (.cells #[.bool false, .slice none 0 0] 41 (0, 0))
        have k2 := (has_join4 (k1.step (Fr.trans0 (by (repeat first | exact Fr.refl _ _ | assumption | apply Fr.n | apply Fr.d | apply Fr.a | refine Fr.s ?_ (.inl (by simp)) _)) (hfA.trans0 (Fr.trans0 (by (repeat first | exact Fr.refl _ _ | assumption | apply Fr.n | apply Fr.d | apply Fr.a | refine Fr.s ?_ (.inl (by simp)) _)) (hfB.trans0 (Fr.trans0 (by (repeat first | exact Fr.refl _ _ | assumption | apply Fr.n | apply Fr.d | apply Fr.a | refine Fr.s ?_ (.inl (by simp)) _)) (hfC.trans0 (Fr.trans0 (by (repeat first | exact Fr.refl _ _ | assumption | apply Fr.n | apply Fr.d | apply Fr.a | refine Fr.s ?_ (.inl (by simp)) _)) (hfD.trans0 (by (repeat first | exact Fr.refl _ _ | assumption | apply Fr.n | apply Fr.d | apply Fr.a | refine Fr.s ?_ (.inl (by simp)) _))))))))))) KE.out).ord 3 [1, 2, 0]
        have k3 := (k2.blkSet 0 (.bool false)).blkSet 1 (.slice a7 (zd (xy : Int)).length c7)
        exact ⟨_, a7, c7, rfl, Lib.hid k3⟩
    case rest =>
      obtain ⟨nb, a7, c7, rfl, HC⟩ := hcut
      have hb := HC.out.blk
      have n0 : _ = some _ := heap_eq_cell hb 0
      have n1 : _ = some _ := heap_eq_cell hb 1
      have nl := lt_of_block hb
      have hb := (HC.out.bring 1).blk
      have r0 : _ = some _ := heap_eq_cell hb 0
      have r1 : _ = some _ := heap_eq_cell hb 1
      have rz0 := heap_eq_frozen hb 0
      have rz1 := heap_eq_frozen hb 1
      have rl := lt_of_block hb
      have H3 := Lib.hid (((HC.out.bring 1).blkSet 0 (.bool false)).blkSet 1 (.slice a7 (zd (xy : Int)).length c7))
      clear hb HC c0 c1 cl
      go_wp2
      refine bodyPost_ret (big_result1 rfl (b := rb) (x := .bool false) (y := .slice a7 (zd (xy : Int)).length c7) rfl ?_) rfl ⟨a7, c7, by rw [HNXY.out]; rfl, ?_⟩
      · exact H3.out.blk
      · rw [HNXY.out]; exact H3.out.ord 3 [2]
theorem Rnumber_calls {V : Nat} {a : Option Addr} {c : Nat} {cs : List (List Int)} (hz : LitsOk cs) (hn6 : cs.length ≤ 262144) (hV : V ≤ 1000) : ∀ k, NumAt V a c cs k
  | 0 => Rnumber_zero hz hn6 hV
  | k + 1 => Rnumber_succ hz hn6 hV (Rnumber_calls hz hn6 hV k)
end Go.Proofs.Ytjidldfnlejdhaa
end
