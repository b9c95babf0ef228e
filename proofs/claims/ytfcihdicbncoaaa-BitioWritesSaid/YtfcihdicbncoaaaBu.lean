/- Calls of a writer and of a reader: what is written is read again; plain. Lists of calls that came in, opened. -/
import Derived.Test.YtfcihdicbncoaaaBo
namespace Go.Proofs.Ytfcihdicbncoaaa
open Go Go.ChangeShapes Go.WideShapes Go.RowKit Go.Proofs.Rg Go.Proofs.Hp Go.Proofs.Bp Go.Proofs.Lw
structure Cl where
  kd : Int
  n : Int
  k : Int
  v : Nat
def Cl.ok (c : Cl) : Prop := -9223372036854775808 ≤ c.k ∧ c.k ≤ 9223372036854775807 ∧ c.v < 18446744073709551616
def clCells (c : Cl) : List Value := [.int .i64 c.kd, .int .i64 c.n, .int .i64 c.k, .int .u64 c.v]
/-- the bits of a call -/
def enc (c : Cl) : List Bool := if c.kd = 0 then digits c.v c.n.toNat else if c.kd = 1 then gcode (c.k.toNat + 1) else gcode ((fold c.k).toNat + 1)
/-- a call that a writer takes -/
def Good (c : Cl) : Prop := c.kd = 0 ∧ 0 ≤ c.n ∧ c.n ≤ 64 ∧ c.v < 2 ^ c.n.toNat ∨ c.kd = 1 ∧ 0 ≤ c.k ∧ c.k ≤ 9223372036854775807 ∨ c.kd = 2 ∧ -4611686018427387904 ≤ c.k ∧ c.k ≤ 4611686018427387903
theorem wBits_zero {bs bs' : List Bool} {v : Nat} {n : Int} (h : wBits bs v n = (bs', 0)) : 0 ≤ n ∧ n ≤ 64 ∧ v < 2 ^ n.toNat ∧ bs' = bs ++ digits v n.toNat := by
  unfold wBits at h
  split at h
  · simp at h
  · split at h
    · simp at h
    · split at h
      · simp at h
      · simp at h
        exact ⟨by omega, by omega, by omega, h.symm⟩
theorem wBits_else {bs bs' : List Bool} {v : Nat} {n x : Int} (h : wBits bs v n = (bs', x)) (hx : x ≠ 0) : bs' = bs := by
  unfold wBits at h
  split at h
  · simp at h; exact h.1.symm
  · split at h
    · simp at h; exact h.1.symm
    · split at h
      · simp at h; exact h.1.symm
      · simp at h; exact absurd h.2.symm hx
theorem wCode_zero {bs bs' : List Bool} {m : Nat} (h : wCode bs m = (bs', 0)) : bs' = bs ++ gcode m := by
  unfold wCode at h
  split at h
  · simp at h
  · simp at h; exact h.symm
theorem wCode_else {bs bs' : List Bool} {m : Nat} {x : Int} (h : wCode bs m = (bs', x)) (hx : x ≠ 0) : bs' = bs := by
  unfold wCode at h
  split at h
  · simp at h; exact h.1.symm
  · simp at h; exact absurd h.2.symm hx
theorem wGamma_zero {bs bs' : List Bool} {n : Int} (h : wGamma bs n = (bs', 0)) : 0 ≤ n ∧ bs' = bs ++ gcode (n.toNat + 1) := by
  unfold wGamma at h
  split at h
  · simp at h
  · exact ⟨by omega, wCode_zero h⟩
theorem wGamma_else {bs bs' : List Bool} {n x : Int} (h : wGamma bs n = (bs', x)) (hx : x ≠ 0) : bs' = bs := by
  unfold wGamma at h
  split at h
  · simp at h; exact h.1.symm
  · exact wCode_else h hx
theorem wSigned_zero {bs bs' : List Bool} {n : Int} (h : wSigned bs n = (bs', 0)) : -4611686018427387904 ≤ n ∧ n ≤ 4611686018427387903 ∧ bs' = bs ++ gcode ((fold n).toNat + 1) := by
  unfold wSigned at h
  split at h
  · simp at h
  · exact ⟨by omega, by omega, wCode_zero h⟩
theorem wSigned_else {bs bs' : List Bool} {n x : Int} (h : wSigned bs n = (bs', x)) (hx : x ≠ 0) : bs' = bs := by
  unfold wSigned at h
  split at h
  · simp at h; exact h.1.symm
  · exact wCode_else h hx
theorem unfold_fold (k : Int) : unfold2 (fold k) = k := by
  unfold unfold2 fold
  split <;> split <;> omega
theorem rBits_enc {pre post : List Bool} {v : Nat} {n : Int} (h0 : 0 ≤ n) (h1 : n ≤ 64) (hv : v < 2 ^ n.toNat) : rBits (pre ++ (digits v n.toNat ++ post)) pre.length n = ((v, 0), pre.length + n.toNat) := by
  unfold rBits
  rw [if_neg (by omega), if_neg (by simp [digits_length]; omega), List.drop_append_of_le_length (Nat.le_refl _), List.drop_length, List.nil_append, List.take_append_of_le_length (by rw [digits_length]; omega), List.take_of_length_le (by rw [digits_length]; omega), num_digits _ _ hv]
theorem zeros_app {z : Nat} {l : List Bool} : zeros (List.replicate z false ++ true :: l) = z :=
  zeros_eq (fun j hj => by rw [List.getElem?_append_left (by simpa using hj), List.getElem?_replicate, if_pos hj]) (by rw [List.getElem?_append_right (by simp)]; simp)
theorem digits_head {m : Nat} (hm : 1 ≤ m) : digits m (m.log2 + 1) = true :: (digits m (m.log2 + 1)).tail := by
  have h := digits_get (v := m) (n := m.log2 + 1) (i := 0) (by omega)
  have ht : m.testBit (m.log2 + 1 - 1 - 0) = true := by
    rw [Nat.sub_zero, Nat.add_sub_cancel]
    exact Nat.testBit_log2 (by omega)
  rw [ht] at h
  cases hd : digits m (m.log2 + 1) with
  | nil => rw [hd] at h; cases h
  | cons x l => rw [hd] at h; simp at h; rw [h]; rfl
theorem rGamma_enc {pre post : List Bool} {m : Nat} (h1 : 1 ≤ m) (h2 : m ≤ 9223372036854775808) : rGamma (pre ++ (gcode m ++ post)) pre.length = (((m : Int) - 1, 0), pre.length + (2 * m.log2 + 1)) := by
  have hlg : m.log2 < 64 := (Nat.log2_lt (by omega)).2 (by show m < 2 ^ 64; omega)
  have hd : (pre ++ (gcode m ++ post)).drop pre.length = gcode m ++ post := by rw [List.drop_append_of_le_length (Nat.le_refl _), List.drop_length, List.nil_append]
  have hz : zeros ((pre ++ (gcode m ++ post)).drop pre.length) = m.log2 := by
    rw [hd, gcode, List.append_assoc, digits_head h1]
    exact zeros_app
  have ht : ((pre ++ (gcode m ++ post)).drop (pre.length + m.log2)).take (m.log2 + 1) = digits m (m.log2 + 1) := by
    rw [← List.drop_drop, hd, gcode, List.append_assoc, List.drop_append_of_le_length (by simp), List.drop_of_length_le (by simp), List.nil_append, List.take_append_of_le_length (by rw [digits_length]; omega), List.take_of_length_le (by rw [digits_length]; omega)]
  unfold rGamma
  rw [hz, ht, num_digits _ _ (Nat.lt_log2_self), if_neg (by omega), if_neg (by simp [gcode_length]), if_neg (by omega)]
theorem rSigned_enc {pre post : List Bool} {k : Int} (h1 : -4611686018427387904 ≤ k) (h2 : k ≤ 4611686018427387903) :
    rSigned (pre ++ (gcode ((fold k).toNat + 1) ++ post)) pre.length = ((k, 0), pre.length + (2 * ((fold k).toNat + 1).log2 + 1)) := by
  have hf := fold_nonneg k
  have hf2 : fold k ≤ 9223372036854775807 := by unfold fold; split <;> omega
  unfold rSigned
  rw [rGamma_enc (by omega) (by omega)]
  simp only
  rw [show (((fold k).toNat + 1 : Nat) : Int) - 1 = fold k by omega, unfold_fold]
theorem rEnd_zeros {bs : List Bool} {z : Nat} (h : z < 8) : rEnd (bs ++ List.replicate z false) bs.length = true := by
  unfold rEnd
  rw [List.drop_append_of_le_length (Nat.le_refl _), List.drop_length, List.nil_append]
  simp
  omega
/-! ### Calls that came in -/
theorem open_call {H : Type} {enc : TypeId × Value → H} {W : World} {fuel : Nat} {cs : List Value} {x : DataW H × List MemPlace} (h : DataW.trod enc Try.prog W 0 (fun _ => true) true fuel 35 cs = some x) :
    ∃ c : Cl, cs = clCells c ∧ c.ok := by
  obtain ⟨xs, n, rfl, _, hl, hn, hf⟩ := DataW.trod_struct Try.underlying35 h
  have hl5 : cs.length = 4 := hl.trans (by kernel_rfl)
  have hx5 : xs.length = 4 := hn
  have hc1 : Try.prog.cellsOf 3 = 1 := by kernel_rfl
  have hc2 : Try.prog.cellsOf 33 = 1 := by kernel_rfl
  have h0 := hf 0 _ rfl
  have h1 := hf 1 _ rfl
  have h2 := hf 2 _ rfl
  have h3 := hf 3 _ rfl
  rw [List.getElem?_eq_getElem (by omega)] at h0 h1 h2 h3
  match cs, hl5 with
  | [c0, c1, c2, c3], _ =>
    change DataW.trod enc Try.prog W 0 (fun _ => true) true n 3 (([c0, c1, c2, c3].drop 0).take (Try.prog.cellsOf 3)) = some _ at h0
    change DataW.trod enc Try.prog W 0 (fun _ => true) true n 3 (([c0, c1, c2, c3].drop 1).take (Try.prog.cellsOf 3)) = some _ at h1
    change DataW.trod enc Try.prog W 0 (fun _ => true) true n 3 (([c0, c1, c2, c3].drop 2).take (Try.prog.cellsOf 3)) = some _ at h2
    change DataW.trod enc Try.prog W 0 (fun _ => true) true n 33 (([c0, c1, c2, c3].drop 3).take (Try.prog.cellsOf 33)) = some _ at h3
    rw [hc1] at h0 h1 h2
    rw [hc2] at h3
    simp only [List.drop_zero, List.drop_succ_cons, List.take_succ_cons, List.take_zero] at h0 h1 h2 h3
    obtain ⟨a, ha, _⟩ := DataW.trod_int Try.underlying3 h0
    obtain ⟨b, hb, _⟩ := DataW.trod_int Try.underlying3 h1
    obtain ⟨c, hc, _, wc⟩ := DataW.trod_int Try.underlying3 h2
    obtain ⟨d, hd, _, wd⟩ := DataW.trod_int Try.underlying33 h3
    simp at ha hb hc hd
    have bc : -9223372036854775808 ≤ c ∧ c ≤ 9223372036854775807 := by simpa [Lit.wf, IntKind.min, IntKind.max, IntKind.signed, IntKind.bits] using wc
    have bd : 0 ≤ d ∧ d ≤ 18446744073709551615 := by simpa [Lit.wf, IntKind.min, IntKind.max, IntKind.signed, IntKind.bits] using wd
    refine ⟨⟨a, b, c, d.toNat⟩, ?_, bc.1, bc.2, by show d.toNat < _; omega⟩
    rw [ha, hb, hc, hd, clCells]
    simp only
    rw [Int.toNat_of_nonneg bd.1]
theorem cls_length (l : List Cl) : (l.map clCells).flatten.length = l.length * 4 := by
  induction l with
  | nil => rfl
  | cons x l ih =>
    rw [List.map_cons, List.flatten_cons, List.length_append, ih]
    show 4 + l.length * 4 = (l.length + 1) * 4
    omega
theorem cls_get {l : List Cl} {i : Nat} {c : Cl} (h : l[i]? = some c) :
    (l.map clCells).flatten[4 * i]? = some (.int .i64 c.kd) ∧ (l.map clCells).flatten[4 * i + 1]? = some (.int .i64 c.n) ∧ (l.map clCells).flatten[4 * i + 2]? = some (.int .i64 c.k) ∧ (l.map clCells).flatten[4 * i + 3]? = some (.int .u64 c.v) := by
  induction l generalizing i with
  | nil => cases h
  | cons x l ih =>
    cases i with
    | zero =>
      simp at h
      subst h
      exact ⟨rfl, rfl, rfl, rfl⟩
    | succ i =>
      obtain ⟨a0, a1, a2, a3⟩ := ih (i := i) (by simpa using h)
      have e : ∀ j, ((x :: l).map clCells).flatten[4 * (i + 1) + j]? = (l.map clCells).flatten[4 * i + j]? := fun j => by
        rw [List.map_cons, List.flatten_cons, List.getElem?_append_right (by show 4 ≤ _; omega)]
        congr 1
        show 4 * (i + 1) + j - 4 = _
        omega
      exact ⟨(e 0).trans a0, (e 1).trans a1, (e 2).trans a2, (e 3).trans a3⟩
theorem map_of_all2 {α β : Type} {f : β → α} {p : β → Prop} : ∀ {xs : List α}, (∀ x ∈ xs, ∃ k, x = f k ∧ p k) → ∃ ks : List β, xs = ks.map f ∧ ∀ x ∈ ks, p x
  | [], _ => ⟨[], rfl, by simp⟩
  | x :: xs, h => by
    obtain ⟨k, rfl, hk⟩ := h x (by simp)
    obtain ⟨ks, rfl, hks⟩ := map_of_all2 (xs := xs) fun y hy => h y (by simp [hy])
    exact ⟨k :: ks, rfl, fun x hx => by rw [List.mem_cons] at hx; rcases hx with rfl | hx; exact hk; exact hks x hx⟩
theorem open_cls {H : Type} {enc : TypeId × Value → H} {W : World} {base : Nat} {v : Value} {d : DataW H} {ps : List MemPlace} (hval : Value.okWide Try.prog W .any base 22 v)
    (h : DataW.Trod enc Try.prog W 0 (fun _ => true) true 22 v d ps) :
    ∃ (a : Option Addr) (c : Nat) (l : List Cl), v = .slice a l.length c ∧ Reads W (.slice a l.length c) l.length 4 (l.map clCells).flatten ∧ ∀ x ∈ l, x.ok := by
  obtain ⟨a, n, c, rfl⟩ := okWide_slice Try.underlying22 hval
  obtain ⟨fuel, hf⟩ := h
  obtain ⟨_, _, xs, hxl, hxs, _, hcell⟩ := open_rows Try.underlying22 (sz := 4) (by kernel_rfl) (by omega) hf
  obtain ⟨l, rfl, hl⟩ := map_of_all2 (f := clCells) (p := Cl.ok) fun x hx => by
    obtain ⟨_, fuel, y, hy⟩ := hxs x hx
    exact open_call hy
  obtain rfl : l.length = n := by simpa using hxl
  exact ⟨a, c, l, rfl, ⟨cls_length l, a, c, rfl, hcell⟩, hl⟩
end Go.Proofs.Ytfcihdicbncoaaa
