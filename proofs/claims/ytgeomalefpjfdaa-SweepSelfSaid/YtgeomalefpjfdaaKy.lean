/- Arrays of integers as keys, and their comparing. No condition on a program. -/
import Derived.Test.YtgeomalefpjfdaaMp
namespace Go.Proofs.Mp
open Go
set_option linter.unusedVariables false
section
variable {P : Program} {T E : TypeId} {q : IntKind} {n : Nat}
/-- the cells of a list of integers -/
def ints (q : IntKind) (xs : List Int) : Array Value := (xs.map (Value.int q)).toArray
theorem run_underlying' {t : TypeId} {d : TypeDesc} (h : P.underlying t = some d) (w : World) : (Go.underlying t).run P w = .ok d w := by unfold Go.underlying; simp [h]
theorem run_sizeOf' {t : TypeId} {s : Nat} (h : (P.info? t).map (·.size) = some s) (w : World) : (Go.sizeOf t).run P w = .ok s w := by
  unfold Go.sizeOf Go.typeInfo
  cases hi : P.info? t with
  | none => rw [hi] at h; cases h
  | some i => rw [hi] at h; simp at h; simp [hi, h]
theorem run_part_int (hE : P.underlying E = some (.int q)) {cs : Array Value} {off : Nat} {v : Value} (hv : cs[off]? = some v) (w : World) : (Go.part E cs off).run P w = .ok v w := by
  unfold Go.part Go.isAgg
  rw [Sem.run_bind, Sem.run_bind, run_underlying' hE]
  simp [hv]
theorem ints_get {xs : List Int} {i : Nat} (h : i < xs.length) : (ints q xs)[i]? = some (.int q (xs[i])) := by simp [ints, h]
theorem run_equal_int (hE : P.underlying E = some (.int q)) (d : Nat) (x y : Int) (w : World) : (Op.equalIn (d + 1) E (.int q x) (.int q y)).run P w = .ok (x == y) w := by
  unfold Op.equalIn
  rw [Sem.run_bind, run_underlying' hE]
  simp
theorem eq_loop (hE : P.underlying E = some (.int q)) (hs : (P.info? E).map (·.size) = some 1) (d : Nat) (xs ys : List Int) (hl : xs.length = ys.length) : ∀ (m i : Nat) (w : World), i + m = xs.length →
    (forIn (List.range' i m) ((none : Option Bool), ()) (fun i s => do
      let a ← Go.part E (ints q xs) (i * 1)
      let b ← Go.part E (ints q ys) (i * 1)
      let r ← Op.equalIn (d + 1) E a b
      if (!r) = true then pure (ForInStep.done (some false, ())) else pure (ForInStep.yield (none, ())) : Nat → Option Bool × Unit → Sem (ForInStep (Option Bool × Unit)))).run P w =
      .ok (if xs.drop i = ys.drop i then none else some false, ()) w
  | 0, i, w, h => by
    rw [List.drop_of_length_le (by omega), List.drop_of_length_le (by omega)]
    rfl
  | m + 1, i, w, h => by
    rw [List.range'_succ, List.forIn_cons, Sem.run_bind, Sem.run_bind, run_part_int hE (by rw [Nat.mul_one]; exact ints_get (by omega))]
    simp only [Result.andThen_ok]
    rw [Sem.run_bind, run_part_int hE (by rw [Nat.mul_one]; exact ints_get (by omega))]
    simp only [Result.andThen_ok]
    rw [Sem.run_bind, run_equal_int hE]
    simp only [Result.andThen_ok]
    have ex : xs.drop i = xs[i] :: xs.drop (i + 1) := List.drop_eq_getElem_cons (by omega)
    have ey : ys.drop i = ys[i] :: ys.drop (i + 1) := List.drop_eq_getElem_cons (by omega)
    rw [ex, ey]
    by_cases hxy : xs[i] = ys[i]
    · simp only [hxy, beq_self_eq_true, Bool.not_true, Bool.false_eq_true, if_false, Sem.run_pure, Result.andThen_ok, List.cons.injEq, true_and]
      exact eq_loop hE hs d xs ys hl m (i + 1) w (by omega)
    · have hb : (xs[i] == ys[i]) = false := by simpa using hxy
      have hn : ¬ (xs[i] :: xs.drop (i + 1) = ys[i] :: ys.drop (i + 1)) := fun e => hxy (List.cons.inj e).1
      rw [if_neg hn]
      simp [hb]
theorem run_equalIn_ints (hT : P.underlying T = some (.array n E)) (hE : P.underlying E = some (.int q)) (hs : (P.info? E).map (·.size) = some 1) (d : Nat) (xs ys : List Int) (hx : xs.length = n) (hy : ys.length = n) (w : World) :
    (Op.equalIn (d + 2) T (.agg (ints q xs)) (.agg (ints q ys))).run P w = .ok (decide (xs = ys)) w := by
  show Sem.run P (Op.equalIn ((d + 1) + 1) _ _ _) w = _
  unfold Op.equalIn
  rw [Sem.run_bind, run_underlying' hT]
  simp only [Result.andThen_ok]
  rw [Sem.run_bind, run_sizeOf' hs]
  simp only [Result.andThen_ok]
  rw [Sem.run_bind, Std.Legacy.Range.forIn_eq_forIn_range']
  have hl : List.range' [:n].start [:n].size [:n].step = List.range' 0 n := by simp [Std.Legacy.Range.size]
  rw [hl]
  have := eq_loop hE hs d xs ys (by omega) n 0 w (by omega)
  rw [this]
  simp only [List.drop_zero, Result.andThen_ok]
  by_cases h : xs = ys <;> simp [h]
theorem check_loop (hE : P.underlying E = some (.int q)) (hs : (P.info? E).map (·.size) = some 1) (d : Nat) (e : Bool) (xs : List Int) : ∀ (m i : Nat) (w : World), i + m = xs.length →
    (forIn (List.range' i m) () (fun i s => do
      let n ← Go.sizeOf E
      let a ← Go.part E (ints q xs) (i * n)
      Instr.checkKey e (d + 1) E a
      pure (ForInStep.yield ()) : Nat → Unit → Sem (ForInStep Unit))).run P w = .ok () w
  | 0, i, w, h => rfl
  | m + 1, i, w, h => by
    have hc : ∀ x : Int, (Instr.checkKey e (d + 1) E (.int q x)).run P w = .ok () w := by
      intro x
      unfold Instr.checkKey
      rw [Sem.run_bind, run_underlying' hE]
      simp
    rw [List.range'_succ, List.forIn_cons, Sem.run_bind, Sem.run_bind, run_sizeOf' hs]
    simp only [Result.andThen_ok]
    rw [Sem.run_bind, run_part_int hE (by rw [Nat.mul_one]; exact ints_get (by omega))]
    simp only [Result.andThen_ok]
    rw [Sem.run_bind, hc]
    simp only [Result.andThen_ok, Sem.run_pure]
    exact check_loop hE hs d e xs m (i + 1) w (by omega)
theorem run_checkKey_ints (hT : P.underlying T = some (.array n E)) (hE : P.underlying E = some (.int q)) (hs : (P.info? E).map (·.size) = some 1) (d : Nat) (e : Bool) (xs : List Int) (hx : xs.length = n) (w : World) :
    (Instr.checkKey e (d + 2) T (.agg (ints q xs))).run P w = .ok () w := by
  show Sem.run P (Instr.checkKey e ((d + 1) + 1) _ _) w = _
  unfold Instr.checkKey
  rw [Sem.run_bind, run_underlying' hT]
  simp only [Result.andThen_ok]
  rw [Std.Legacy.Range.forIn_eq_forIn_range']
  have hl : List.range' [:n].start [:n].size [:n].step = List.range' 0 n := by simp [Std.Legacy.Range.size]
  rw [hl]
  rw [Sem.run_bind, check_loop hE hs d e xs n 0 w (by omega)]
  rfl
theorem sameBits_int (d : Nat) (x : Int) : Instr.sameBits d (.int q x) (.int q x) = true := by cases d <;> simp [Instr.sameBits]
theorem zip_same : ∀ (l : List Value), (∀ v ∈ l, ∀ d, Instr.sameBits d v v = true) → ∀ d, (l.zip l).all (fun p => Instr.sameBits d p.1 p.2) = true
  | [], _, _ => rfl
  | v :: l, h, d => by
    simp only [List.zip_cons_cons, List.all_cons, Bool.and_eq_true]
    exact ⟨h v (by simp) d, zip_same l (fun u hu => h u (by simp [hu])) d⟩
theorem sameBits_ints (d : Nat) (xs : List Int) : Instr.sameBits (d + 1) (.agg (ints q xs)) (.agg (ints q xs)) = true := by
  unfold Instr.sameBits
  simp only [beq_self_eq_true, Bool.true_and, ints]
  exact zip_same _ (fun v hv d => by obtain ⟨x, _, rfl⟩ := List.mem_map.1 hv; exact sameBits_int d x) d
/-- keys that are arrays of n integers, spelled by a function to lists -/
theorem KeysBy.ints {κ : Type} [DecidableEq κ] (f : κ → List Int) (hf : ∀ a b, f a = f b → a = b) (hn : ∀ a, (f a).length = n) (hT : P.underlying T = some (.array n E)) (hE : P.underlying E = some (.int q)) (hs : (P.info? E).map (·.size) = some 1) :
    KeysBy P T (fun k => Value.agg (Mp.ints q (f k))) := by
  refine KeysBy.deep hT (fun k v => rfl) (fun a b w => ?_) (fun e k w => run_checkKey_ints hT hE hs 9998 e (f k) (hn k) w) fun k => sameBits_ints 9999 (f k)
  have := run_equalIn_ints hT hE hs 9998 (f a) (f b) (hn a) (hn b) w
  show (Op.equalIn 10000 T _ _).run P w = _
  rw [this]
  congr 1
  by_cases h : a = b
  · simp [h]
  · have : ¬ f a = f b := fun e => h (hf a b e)
    simp [h, this]
end
end Go.Proofs.Mp
