/- Own texts of this claim, part 4: no condition. -/
import Derived.Maps.OwnOps
import Derived.WalkKit
import Derived.WalkSpells
import Derived.WalkLawsBesides
import Derived.Deep.AppendLies
import Derived.Deep.Draws
import Derived.Test.YtppmnmheodimoaaZM2
set_option linter.unusedVariables false
set_option linter.unusedSimpArgs false
section
/- Maps in the heap as lists of pairs, in the order in which the keys came; whatever keys are compared by their plain values. No condition on a program. -/
namespace Go.Proofs.Mp
open Go
set_option linter.unusedVariables false
set_option linter.unusedSimpArgs false

/-- One operation whose run is known. -/
theorem wpList_run {P : Program} {ops : Array Oper} {rest : List Oper} {o : Oper} {a : Act} {w w' : World} {v : Value} {Q : Exit → Act → World → Prop} (hg : o.guard = none)
    (hrun : (execOp a.eval o).run P w = .ok (.value v) w') (h : wpList P ops Q rest (a.put o.dst v) w') : wpList P ops Q (o :: rest) a w :=
  wpList_plain hg fun K hK => by unfold Oper.wp; rw [hrun]; exact hK _ _ h
theorem wpList_run_skip {P : Program} {ops : Array Oper} {rest : List Oper} {o : Oper} {a : Act} {w w' : World} {Q : Exit → Act → World → Prop} (hg : o.guard = none)
    (hrun : (execOp a.eval o).run P w = .ok .skip w') (h : wpList P ops Q rest (a.put o.dst undef) w') : wpList P ops Q (o :: rest) a w :=
  wpList_plain hg fun K hK => by unfold Oper.wp; rw [hrun]; exact hK _ _ h

/-- How the keys of a type are compared: 'f' spells a key as a value. -/
structure KeysBy (P : Program) (K : TypeId) {κ : Type} [DecidableEq κ] (f : κ → Value) : Prop where
  check : ∀ (e : Bool) (k : κ) (w : World), (Instr.checkKey e 10000 K (f k)).run P w = .ok () w
  find : ∀ (k : κ) (es : List MapEntry) (ks : List κ) (w : World), es.map (·.key) = ks.map f → (Instr.findKey K (f k) es).run P w = .ok ((ks.idxOf? k).bind fun i => (es[i]?).map fun e => (i, e.val)) w
  same : ∀ k, Instr.sameBits 10000 (f k) (f k) = true

section
variable {P : Program} {κ : Type} [DecidableEq κ] {f : κ → Value}
theorem idxOf?_cons (k x : κ) (l : List κ) : (x :: l).idxOf? k = if x = k then some 0 else (l.idxOf? k).map (· + 1) := by
  rw [List.idxOf?_cons]
  by_cases h : x = k
  · simp [h]
  · simp [h]
theorem findAsking_eq {K : TypeId} (heq : ∀ a b w, (Op.equal K (f a) (f b)).run P w = .ok (decide (a = b)) w) (k : κ) : ∀ (es : List MapEntry) (ks : List κ) (i : Nat) (w : World), es.map (·.key) = ks.map f →
    (Instr.findAsking K (f k) es i).run P w = .ok ((ks.idxOf? k).bind fun j => (es[j]?).map fun e => (i + j, e.val)) w
  | [], ks, i, w, h => by
    cases ks with
    | nil => rfl
    | cons => simp at h
  | e :: es, ks, i, w, h => by
    cases ks with
    | nil => simp at h
    | cons x ks =>
      simp only [List.map_cons, List.cons.injEq] at h
      unfold Instr.findAsking
      rw [Sem.run_bind, h.1, heq]
      simp only [Result.andThen_ok]
      rw [idxOf?_cons]
      by_cases hx : k = x
      · subst hx; simp
      · have hx' : ¬ x = k := fun e => hx e.symm
        simp only [hx, hx', decide_false, Bool.false_eq_true, if_false]
        rw [findAsking_eq heq k es ks (i + 1) w h.2]
        cases ks.idxOf? k with
        | none => rfl
        | some j => simp [Nat.add_assoc, Nat.add_comm 1 j]
theorem KeysBy.deep {K : TypeId} {d : TypeDesc} (hu : P.underlying K = some d) (hnow : ∀ k v, Instr.sameNow d (f k) v = none) (heq : ∀ a b w, (Op.equal K (f a) (f b)).run P w = .ok (decide (a = b)) w)
    (hcheck : ∀ (e : Bool) (k : κ) (w : World), (Instr.checkKey e 10000 K (f k)).run P w = .ok () w) (hsame : ∀ k, Instr.sameBits 10000 (f k) (f k) = true) : KeysBy P K f where
  check := hcheck
  same := hsame
  find := fun k es ks w h => by
    unfold Instr.findKey
    have hr : (Go.underlying K).run P w = .ok d w := by unfold Go.underlying; simp [hu]
    rw [Sem.run_bind, hr]
    simp only [Result.andThen_ok]
    cases es with
    | nil =>
      cases ks with
      | nil => rfl
      | cons => simp at h
    | cons e es =>
      simp only [Instr.findNow, hnow]
      have := findAsking_eq heq k (e :: es) ks 0 w h
      simpa using this
theorem findNow_eq {d : TypeDesc} (hnow : ∀ a b, Instr.sameNow d (f a) (f b) = some (decide (a = b))) (k : κ) : ∀ (es : List MapEntry) (ks : List κ) (i : Nat), es.map (·.key) = ks.map f →
    Instr.findNow d (f k) es i = some ((ks.idxOf? k).bind fun j => (es[j]?).map fun e => (i + j, e.val))
  | [], ks, i, h => by
    cases ks with
    | nil => rfl
    | cons => simp at h
  | e :: es, ks, i, h => by
    cases ks with
    | nil => simp at h
    | cons x ks =>
      simp only [List.map_cons, List.cons.injEq] at h
      unfold Instr.findNow
      rw [h.1, hnow, idxOf?_cons]
      by_cases hx : k = x
      · subst hx; simp
      · have hx' : ¬ x = k := fun e => hx e.symm
        simp only [hx, hx', decide_false, if_false]
        rw [findNow_eq hnow k es ks (i + 1) h.2]
        cases ks.idxOf? k with
        | none => rfl
        | some j => simp [Nat.add_assoc, Nat.add_comm 1 j]
theorem KeysBy.now {K : TypeId} {d : TypeDesc} (hu : P.underlying K = some d) (hnow : ∀ a b, Instr.sameNow d (f a) (f b) = some (decide (a = b)))
    (hcheck : ∀ (e : Bool) (k : κ) (w : World), (Instr.checkKey e 10000 K (f k)).run P w = .ok () w) (hsame : ∀ k, Instr.sameBits 10000 (f k) (f k) = true) : KeysBy P K f where
  check := hcheck
  same := hsame
  find := fun k es ks w h => by
    unfold Instr.findKey
    have hr : (Go.underlying K).run P w = .ok d w := by unfold Go.underlying; simp [hu]
    rw [Sem.run_bind, hr]
    simp only [Result.andThen_ok]
    rw [findNow_eq hnow k es ks 0 h]
    simp

/-- Integer keys. -/
theorem KeysBy.int {K : TypeId} {q : IntKind} (hu : P.underlying K = some (.int q)) : KeysBy P K (fun n : Int => Value.int q n) := by
  refine KeysBy.now hu (fun a b => ?_) (fun e k w => ?_) fun k => ?_
  · show (if q = q then some (a == b) else none) = _
    rw [if_pos rfl]; congr 1
  · unfold Instr.checkKey Go.underlying
    simp [hu]
  · simp [Instr.sameBits]

end
/-! ### The map in the heap -/
section
variable {κ ν : Type} {f : κ → Value} {g : ν → Value}
/-- block b is a map that holds the pairs l, in the order of their coming -/
def MapIs (w : World) (b : Nat) (f : κ → Value) (g : ν → Value) (l : List (κ × ν)) : Prop :=
  ∃ es clock, w.heap[b]? = some (.map es clock) ∧ es.toList.map (fun e => (e.key, e.val)) = l.map fun p => (f p.1, g p.2)
theorem MapIs.keys {es : Array MapEntry} {l : List (κ × ν)} (h : es.toList.map (fun e => (e.key, e.val)) = l.map fun p => (f p.1, g p.2)) : es.toList.map (·.key) = (l.map (·.1)).map f := by
  have := congrArg (List.map Prod.fst) h
  simpa [List.map_map, Function.comp_def] using this
theorem MapIs.val {es : Array MapEntry} {l : List (κ × ν)} (h : es.toList.map (fun e => (e.key, e.val)) = l.map fun p => (f p.1, g p.2)) (i : Nat) : (es.toList[i]?).map (·.val) = (l[i]?).map fun p => g p.2 := by
  have := congrArg (fun x : List (Value × Value) => (x[i]?).map Prod.snd) h
  simpa [List.getElem?_map, Option.map_map, Function.comp_def] using this
theorem MapIs.made (w : World) : MapIs { w with heap := w.heap.push (.map #[] 0) } w.heap.size f g [] := ⟨#[], 0, by simp, rfl⟩
theorem MapIs.of_block {w w' : World} {b : Nat} {l : List (κ × ν)} (h : MapIs w b f g l) (he : w'.heap[b]? = w.heap[b]?) : MapIs w' b f g l := by
  obtain ⟨es, clock, hb, hl⟩ := h
  exact ⟨es, clock, he.trans hb, hl⟩
theorem MapIs.lt {w : World} {b : Nat} {l : List (κ × ν)} (h : MapIs w b f g l) : b < w.heap.size := by
  obtain ⟨es, clock, hb, hl⟩ := h
  exact (Array.getElem?_eq_some_iff.1 hb).1
end
section
variable {P : Program} {κ : Type} [DecidableEq κ] {f : κ → Value} {ν : Type} {g : ν → Value}
/-- the pairs with one more, or with another value at a key -/
def put (l : List (κ × ν)) (k : κ) (v : ν) : List (κ × ν) :=
  match (l.map (·.1)).idxOf? k with
  | some i => l.set i (k, v)
  | none => l ++ [(k, v)]
/-- the value at a key -/
def get? (l : List (κ × ν)) (k : κ) : Option ν := ((l.map (·.1)).idxOf? k).bind fun i => (l[i]?).map (·.2)
theorem MapIs.lookup {T K E : TypeId} {w : World} {b : Nat} {l : List (κ × ν)} (h : MapIs w b f g l) (hT : P.underlying T = some (.map K E)) (hK : KeysBy P K f) {z : Value}
    (hz : (zeroValue E).run P w = .ok z w) (k : κ) (c : Bool) :
    (Instr.lookup T (.map (some b)) (f k) c).run P w = .ok (if c then .tuple #[((get? l k).map g).getD z, .bool (get? l k).isSome] else ((get? l k).map g).getD z) w := by
  obtain ⟨es, clock, hb, hl⟩ := h
  unfold Instr.lookup
  have hr : (Go.underlying T).run P w = .ok (.map K E) w := by unfold Go.underlying; simp [hT]
  have hg : (Go.getObj b).run P w = .ok (.map es clock) w := by simp [Go.getObj, Sem.run, hb]
  rw [Sem.run_bind, hr]
  simp only [Result.andThen_ok]
  rw [Sem.run_bind, hg]
  simp only [Result.andThen_ok]
  rw [Sem.run_bind, Sem.run_pure]
  simp only [Result.andThen_ok]
  rw [Sem.run_bind, hK.check]
  simp only [Result.andThen_ok]
  rw [Sem.run_bind, hK.find k es.toList (l.map (·.1)) w (MapIs.keys hl)]
  simp only [Result.andThen_ok]
  unfold get?
  cases hi : (l.map (·.1)).idxOf? k with
  | none => simp [hz]
  | some i =>
    have hv := MapIs.val hl i
    cases he : es.toList[i]? with
    | none =>
      rw [he] at hv
      cases hli : l[i]? with
      | none => simp only [Option.bind_some, he, hli, Option.map_none]; rw [Sem.run_bind, hz]; simp
      | some p => rw [hli] at hv; simp at hv
    | some e =>
      rw [he] at hv
      cases hli : l[i]? with
      | none => rw [hli] at hv; simp at hv
      | some p => rw [hli] at hv; simp at hv; simp only [Option.bind_some, he, hli, Option.map_some]; simp [hv]
theorem MapIs.update {T K E : TypeId} {w : World} {b : Nat} {l : List (κ × ν)} (h : MapIs w b f g l) (hT : P.underlying T = some (.map K E)) (hK : KeysBy P K f) (k : κ) (v : ν) :
    ∃ w', (Instr.mapUpdate T (.map (some b)) (f k) (g v)).run P w = .ok () w' ∧ MapIs w' b f g (put l k v) ∧ (∃ o, w' = { w with heap := w.heap.setIfInBounds b o }) := by
  obtain ⟨es, clock, hb, hl⟩ := h
  have hlt : b < w.heap.size := (Array.getElem?_eq_some_iff.1 hb).1
  unfold Instr.mapUpdate
  have hr : (Go.underlying T).run P w = .ok (.map K E) w := by unfold Go.underlying; simp [hT]
  have hg : (Go.getObj b).run P w = .ok (.map es clock) w := by simp [Go.getObj, Sem.run, hb]
  have hset : ∀ o, (Go.setObj b o).run P w = .ok () { w with heap := w.heap.setIfInBounds b o } := fun o => by simp [Go.setObj, Sem.run, hb]
  rw [Sem.run_bind, hr]
  simp only [Result.andThen_ok]
  rw [Sem.run_bind, hg]
  simp only [Result.andThen_ok]
  rw [Sem.run_bind, hK.check]
  simp only [Result.andThen_ok]
  rw [Sem.run_bind, hK.find k es.toList (l.map (·.1)) w (MapIs.keys hl)]
  simp only [Result.andThen_ok]
  have push : ∃ w', (Go.setObj b (.map (es.push { key := f k, val := g v, born := clock }) (clock + 1))).run P w = .ok () w' ∧ MapIs w' b f g (l ++ [(k, v)]) ∧ (∃ o, w' = { w with heap := w.heap.setIfInBounds b o }) := by
    refine ⟨_, hset _, ⟨_, _, by rw [Array.getElem?_setIfInBounds_self_of_lt hlt], ?_⟩, _, rfl⟩
    simp [hl]
  unfold put
  cases hi : (l.map (·.1)).idxOf? k with
  | none => exact push
  | some i =>
    have hkeys := MapIs.keys hl
    have hsz : es.size = l.length := by have := congrArg List.length hl; simpa using this
    obtain ⟨hil, hki⟩ : ∃ h : i < l.length, (l[i]).1 = k := by
      rw [List.idxOf?_eq_some_iff] at hi
      obtain ⟨h1, h2, _⟩ := hi
      simp at h1 h2
      exact ⟨h1, h2⟩
    have hil' : i < es.toList.length := by simpa [hsz] using hil
    have he : es.toList[i]? = some es.toList[i] := List.getElem?_eq_getElem hil'
    have hke : (es.toList[i]).key = f k := by
      have := congrArg (fun x : List Value => x[i]?) hkeys
      simp only [List.getElem?_map, he] at this
      simp [hil, hki] at this
      simpa using this
    simp only [Option.bind_some, he, Option.map_some]
    have hke' : ((es[i]?).map (·.key)).getD (f k) = f k := by
      have hi3 : i < es.size := by omega
      simp [hi3]
      have := hke
      simpa using this
    rw [Sem.run_bind, hke']
    unfold Instr.keyThatStays
    rw [if_pos (hK.same k)]
    simp only [Sem.run_pure, Result.andThen_ok]
    refine ⟨_, hset _, ⟨_, _, by rw [Array.getElem?_setIfInBounds_self_of_lt hlt], ?_⟩, _, rfl⟩
    simp only [Array.toList_modify, List.map_set]
    apply List.ext_getElem?
    intro j
    have hj := congrArg (fun x : List (Value × Value) => x[j]?) hl
    simp only [List.getElem?_map] at hj ⊢
    rw [List.getElem?_modify, List.getElem?_set]
    by_cases hij : i = j
    · subst hij
      have hi3 : i < es.size := by omega
      simp [hil, hi3]
    · simp only [hij, if_false]
      simp only [List.getElem?_map]
      simpa using hj
end
section
variable {P : Program} {κ ν : Type} {f : κ → Value} {g : ν → Value}
theorem MapIs.len {w : World} {b : Nat} {l : List (κ × ν)} (h : MapIs w b f g l) {T K E : TypeId} (hT : P.underlying T = some (.map K E)) (ty : TypeId) :
    (Builtin.len_ #[T] ty #[.map (some b)]).run P w = .ok (.int .i64 l.length) w := by
  obtain ⟨es, clock, hb, hl⟩ := h
  have hsz : es.size = l.length := by have := congrArg List.length hl; simpa using this
  have hg : (Go.getObj b).run P w = .ok (.map es clock) w := by simp [Go.getObj, Sem.run, hb]
  have hr : (Go.underlying T).run P w = .ok (.map K E) w := by unfold Go.underlying; simp [hT]
  unfold Builtin.len_
  show Sem.run P (Go.underlying T >>= _) w = _
  rw [Sem.run_bind, hr]
  simp only [Result.andThen_ok]
  show Sem.run P (Go.getObj b >>= _) w = _
  rw [Sem.run_bind, hg]
  simp [goInt, hsz]
end
/-! ### At the operations -/
section
variable {P : Program} {κ : Type} [DecidableEq κ] {f : κ → Value} {ν : Type} {g : ν → Value} {ops : Array Oper} {rest : List Oper} {o : Oper} {a : Act} {w : World} {Q : Exit → Act → World → Prop}
theorem exec_lookup {ρ : Operand → Value} {T : TypeId} {m x : Operand} {c : Bool} (ho : o.op = .lookup T m x c) : (execOp ρ o).run P w = ((Instr.lookup T (ρ m) (ρ x) c).run P w).andThen fun v w' => .ok (.value v) w' := by
  unfold execOp; simp only [ho, Sem.run_bind]; rfl
theorem wpList_lookup_hit {T K E : TypeId} {m x : Operand} {b : Nat} {l : List (κ × ν)} {k : κ} {v : ν} {z : Value} {c : Bool} (hg : o.guard = none) (ho : o.op = .lookup T m x c) (hm : a.eval m = .map (some b)) (hx : a.eval x = f k) (h : MapIs w b f g l)
    (hT : P.underlying T = some (.map K E)) (hK : KeysBy P K f) (hz : (zeroValue E).run P w = .ok z w) (hv : get? l k = some v) (hnext : wpList P ops Q rest (a.put o.dst (if c then .tuple #[g v, .bool true] else g v)) w) : wpList P ops Q (o :: rest) a w := by
  refine wpList_run hg ?_ hnext
  rw [exec_lookup ho, hm, hx, h.lookup hT hK hz k c, hv]
  rfl
theorem wpList_lookup_miss {T K E : TypeId} {m x : Operand} {b : Nat} {l : List (κ × ν)} {k : κ} {z : Value} {c : Bool} (hg : o.guard = none) (ho : o.op = .lookup T m x c) (hm : a.eval m = .map (some b)) (hx : a.eval x = f k) (h : MapIs w b f g l)
    (hT : P.underlying T = some (.map K E)) (hK : KeysBy P K f) (hz : (zeroValue E).run P w = .ok z w) (hv : get? l k = none) (hnext : wpList P ops Q rest (a.put o.dst (if c then .tuple #[z, .bool false] else z)) w) : wpList P ops Q (o :: rest) a w := by
  refine wpList_run hg ?_ hnext
  rw [exec_lookup ho, hm, hx, h.lookup hT hK hz k c, hv]
  rfl
theorem wpList_update_is {T K E : TypeId} {m x u : Operand} {b : Nat} {l : List (κ × ν)} {k : κ} {v : ν} (hg : o.guard = none) (ho : o.op = .mapUpdate T m x u) (hm : a.eval m = .map (some b)) (hx : a.eval x = f k) (hu : a.eval u = g v) (h : MapIs w b f g l)
    (hT : P.underlying T = some (.map K E)) (hK : KeysBy P K f) (hnext : ∀ q, MapIs { w with heap := w.heap.setIfInBounds b q } b f g (put l k v) → wpList P ops Q rest (a.put o.dst undef) { w with heap := w.heap.setIfInBounds b q }) : wpList P ops Q (o :: rest) a w := by
  obtain ⟨w', hr, hi, q, rfl⟩ := h.update hT hK k v
  refine wpList_run_skip hg ?_ (hnext q hi)
  unfold execOp
  simp only [ho, hm, hx, hu, Sem.run_bind, hr]
  rfl
end
end Go.Proofs.Mp
end

section
/- What of the heap a call may turn: the blocks of a list, and new ones. No condition on a program. -/
namespace Go.Proofs.Hp
open Go Go.RowKit
set_option linter.unusedVariables false
set_option linter.unusedSimpArgs false

/-- w' is w but for the blocks of F, and for new ones. -/
structure Fr (F : List Nat) (w w' : World) : Prop where
  os : w'.os = w.os
  tape : w'.tape = w.tape
  output : w'.output = w.output
  size : w.heap.size ≤ w'.heap.size
  block : ∀ b, b < w.heap.size → b ∉ F → w'.heap[b]? = w.heap[b]?
theorem Fr.refl (F : List Nat) (w : World) : Fr F w w := ⟨rfl, rfl, rfl, Nat.le_refl _, fun _ _ _ => rfl⟩
theorem Fr.mono {F G : List Nat} {w w' : World} (h : Fr F w w') (hs : ∀ x ∈ F, x ∈ G) : Fr G w w' := ⟨h.os, h.tape, h.output, h.size, fun b hb hn => h.block b hb fun hx => hn (hs b hx)⟩
theorem Fr.trans {F G : List Nat} {a b c : World} (h : Fr F a b) (k : Fr G b c) (hG : ∀ x ∈ G, x ∈ F ∨ a.heap.size ≤ x) : Fr F a c :=
  ⟨k.os.trans h.os, k.tape.trans h.tape, k.output.trans h.output, Nat.le_trans h.size k.size, fun i hi hn =>
    (k.block i (Nat.lt_of_lt_of_le hi h.size) fun hx => by rcases hG i hx with h1 | h1 <;> first | exact hn h1 | omega).trans (h.block i hi hn)⟩
theorem Fr.trans0 {F : List Nat} {a b c : World} (h : Fr F a b) (k : Fr [] b c) : Fr F a c := h.trans k (by simp)
theorem Fr.drew {F : List Nat} {a w : World} (h : Fr F a w) : Fr F a w.drew := ⟨h.os, h.tape, h.output, h.size, h.block⟩
theorem Fr.drewN {F : List Nat} {a w : World} (h : Fr F a w) (n : Nat) : Fr F a (w.drewN n) := ⟨h.os, h.tape, h.output, h.size, h.block⟩
theorem Fr.alloc {F : List Nat} {a w : World} (h : Fr F a w) (o : Obj) : Fr F a (w.alloc o) :=
  h.trans (G := []) ⟨rfl, rfl, rfl, by simp, fun k hk _ => Below.heap_alloc _ _ _ hk⟩ (by simp)
theorem Fr.setCell {F : List Nat} {a w : World} (h : Fr F a w) {p : Addr} (hp : p.block ∈ F ∨ a.heap.size ≤ p.block) (u : Value) : Fr F a (w.setCell p u) :=
  h.trans (G := [p.block]) ⟨rfl, rfl, rfl, by simp [World.setCell], fun k hk hn => Below.heap_setCell _ _ _ _ (by simpa using hn)⟩ (by simpa using hp)
theorem Fr.grown {F : List Nat} {a w w' : World} {row : Option Nat} (h : Fr F a w) (hg : w.grownBy w' row) (hr : ∀ k, row = some k → k ∈ F ∨ a.heap.size ≤ k) : Fr F a w' :=
  h.trans (G := row.toList) ⟨hg.os, hg.tape, hg.output, hg.size, fun k hk hn => hg.block k hk fun e => hn (by simp [← e])⟩ (by intro x hx; exact hr x (by simpa using hx))
theorem Fr.setBlock {F : List Nat} {a w : World} (h : Fr F a w) {b : Nat} (hp : b ∈ F ∨ a.heap.size ≤ b) (o : Obj) : Fr F a { w with heap := w.heap.setIfInBounds b o } :=
  h.trans (G := [b]) ⟨rfl, rfl, rfl, by simp, fun k hk hn => by
    show (w.heap.setIfInBounds b o)[k]? = _
    rw [Array.getElem?_setIfInBounds_ne (by simpa using fun e : b = k => hn (by simp [e]))]⟩ (by simpa using hp)
theorem Fr.below {w w' : World} (h : Fr [] w w') : Below w.heap.size w w' := ⟨h.os, h.tape, h.output, h.size, fun k hk => h.block k hk (by simp)⟩
theorem Fr.cell {F : List Nat} {w w' : World} (h : Fr F w w') {p : Addr} (hp : p.block < w.heap.size) (hn : p.block ∉ F) : w'.cell? p = w.cell? p := World.cell?_of_block (w := w) (h.block p.block hp hn)
theorem Fr.frozen {F : List Nat} {w w' : World} (h : Fr F w w') {p : Addr} (hp : p.block < w.heap.size) (hn : p.block ∉ F) : w'.frozen? p = w.frozen? p := World.frozen?_of_block (w := w) (h.block p.block hp hn)

theorem lt_of_block {w : World} {b : Nat} {o : Obj} (h : w.heap[b]? = some o) : b < w.heap.size := (Array.getElem?_eq_some_iff.1 h).1
theorem owns_of_block {w w' : World} {base e size n : Nat} {v : Value} {xs : List Value} (h : w.ownsRow base e size v n xs) (hb : ∀ g, v.ownBlock = some g → w'.heap[g]? = w.heap[g]?) : w'.ownsRow base e size v n xs := by
  obtain ⟨h1, h2⟩ := h
  refine ⟨h1, ?_⟩
  rcases h2 with h2 | ⟨g, cap, cur, hv, hg, hh, r⟩
  · exact .inl h2
  · exact .inr ⟨g, cap, cur, hv, hg, by rw [hb g (by rw [hv]; rfl)]; exact hh, r⟩
theorem owns_lt {w : World} {base e size n : Nat} {v : Value} {xs : List Value} (h : w.ownsRow base e size v n xs) {g : Nat} (hg : v.ownBlock = some g) : g < w.heap.size := by
  rcases h.2 with ⟨h2, _⟩ | ⟨g', cap, cur, hv, _, hh, _⟩
  · rw [h2] at hg; cases hg
  · rw [hv] at hg; cases hg; exact lt_of_block hh
/-- what a slice value looks like that owns n elements -/
theorem owns_form {w : World} {base e size n : Nat} {v : Value} {xs : List Value} (h : w.ownsRow base e size v n xs) : ∃ a cap, v = .slice a n cap ∧ (0 < n → ∃ g, a = some ⟨g, 0, none⟩) ∧ (a = none → n = 0 ∧ cap = 0) := by
  rcases h.2 with ⟨h2, h0⟩ | ⟨g, cap, cur, hv, _⟩
  · exact ⟨none, 0, by rw [h2, h0], by omega, by omega⟩
  · exact ⟨_, cap, hv, fun _ => ⟨g, rfl⟩, by simp⟩
theorem owns_cell {w : World} {base e size n : Nat} {v : Value} {xs : List Value} (h : w.ownsRow base e size v n xs) {g cap : Nat} (hv : v = .slice (some ⟨g, 0, none⟩) n cap) {j : Nat} {u : Value} (hj : xs[j]? = some u) :
    w.cell? ⟨g, j, none⟩ = some u := by
  rcases h.2 with ⟨h2, h0⟩ | ⟨g', cap', cur, hv', _, hh, _, _, hs, ht⟩
  · rw [h2] at hv; cases hv
  · rw [hv'] at hv
    cases hv
    have hjl : j < xs.length := (List.getElem?_eq_some_iff.1 hj).1
    rw [← ht] at hj
    unfold World.cell?
    rw [hh]
    simp only [Option.isSome_none, Bool.false_eq_true, if_false]
    rw [List.getElem?_take] at hj
    split at hj
    · simpa using hj
    · cases hj
theorem heap_eq_cell {w : World} {b : Nat} {cs : Array Value} {t : TypeId} {fr : Nat × Nat} (h : w.heap[b]? = some (.cells cs t fr)) (j : Nat) : w.cell? ⟨b, j, none⟩ = cs[j]? := by
  unfold World.cell?; rw [h]; rfl
theorem cell_row_add {w : World} {b : Nat} {cs : Array Value} {t : TypeId} {fr : Nat × Nat} (h : w.heap[b]? = some (.cells cs t fr)) (j : Nat) : w.cell? ((⟨b, 0, none⟩ : Addr).add j) = cs[j]? := by
  rw [← heap_eq_cell h j]
  congr 1
  unfold Addr.add
  split
  · rename_i h0; rw [h0]
  · simp
theorem heap_eq_frozen {w : World} {b : Nat} {cs : Array Value} {t : TypeId} (h : w.heap[b]? = some (.cells cs t (0, 0))) (j : Nat) : w.frozen? ⟨b, j, none⟩ = false := by
  unfold World.frozen?; rw [h]; simp
theorem heap_setCell_here {w : World} {b : Nat} {cs : Array Value} {t : TypeId} {fr : Nat × Nat} (h : w.heap[b]? = some (.cells cs t fr)) (j : Nat) (v : Value) : (w.setCell ⟨b, j, none⟩ v).heap[b]? = some (.cells (cs.setIfInBounds j v) t fr) := by
  simp only [World.setCell, Array.getElem?_modify, if_true, h]
  rfl
theorem heap_setCell_else (w : World) (a : Addr) (u : Value) (k : Nat) (h : k ≠ a.block) : (w.setCell a u).heap[k]? = w.heap[k]? := Below.heap_setCell _ _ _ _ h
theorem heap_alloc_else (w : World) (o : Obj) (k : Nat) (h : k < w.heap.size) : (w.alloc o).heap[k]? = w.heap[k]? := Below.heap_alloc _ _ _ h
theorem owns_ge {w : World} {base e size n : Nat} {v : Value} {xs : List Value} (h : w.ownsRow base e size v n xs) {g : Nat} (hg : v.ownBlock = some g) : base ≤ g := by
  rcases h.2 with ⟨h2, _⟩ | ⟨g', cap, cur, hv, hb, _⟩
  · rw [h2] at hg; cases hg
  · rw [hv] at hg; cases hg; exact hb
theorem owns_base {w : World} {base base' e size n : Nat} {v : Value} {xs : List Value} (h : w.ownsRow base e size v n xs) (hb : base' ≤ base) : w.ownsRow base' e size v n xs := by
  obtain ⟨h1, h2⟩ := h
  refine ⟨h1, ?_⟩
  rcases h2 with h2 | ⟨g, cap, cur, hv, hg, r⟩
  · exact .inl h2
  · exact .inr ⟨g, cap, cur, hv, Nat.le_trans hb hg, r⟩
theorem heap_setCell2 (w : World) (g i j : Nat) (u v : Value) {x : Nat} (h : x ≠ g) : ((w.setCell ⟨g, i, none⟩ u).setCell ⟨g, j, none⟩ v).heap[x]? = w.heap[x]? := by
  rw [Below.heap_setCell _ _ _ _ h, Below.heap_setCell _ _ _ _ h]
/-! ### Blocks behind what a call does: for simp only -/
def upd (off : Nat) (v : Value) : Obj → Obj
  | .cells c e f => .cells (c.setIfInBounds off v) e f
  | o => o
theorem hp_drew (w : World) : w.drew.heap = w.heap := rfl
theorem hp_drewN (w : World) (n : Nat) : (w.drewN n).heap = w.heap := rfl
theorem hp_alloc_size (w : World) (o : Obj) : (w.alloc o).heap.size = w.heap.size + 1 := by simp
theorem hp_setCell_size (w : World) (a : Addr) (u : Value) : (w.setCell a u).heap.size = w.heap.size := by simp [World.setCell]
theorem hp_alloc (w : World) (o : Obj) (b : Nat) : (w.alloc o).heap[b]? = if b = w.heap.size then some o else w.heap[b]? := by
  show (w.heap.push o)[b]? = _
  rw [Array.getElem?_push]
theorem hp_setCell (w : World) (g j : Nat) (u : Value) (b : Nat) : (w.setCell ⟨g, j, none⟩ u).heap[b]? = if b = g then (w.heap[b]?).map (upd j u) else w.heap[b]? := by
  simp only [World.setCell, Array.getElem?_modify]
  by_cases h : g = b
  · subst h
    simp only [if_true]
    cases w.heap[g]? with
    | none => rfl
    | some o => cases o <;> rfl
  · rw [if_neg h, if_neg fun e => h e.symm]
theorem upd_cells (off : Nat) (v : Value) (l : List Value) (e : TypeId) (f : Nat × Nat) : upd off v (.cells l.toArray e f) = .cells (l.set off v).toArray e f := by simp [upd]
/-- append of one element that was laid into a block of its own -/
theorem append_new {P : Program} {ops : Array Oper} {rest : List Oper} {o : Oper} {a : Act} {W : World} {Q : Exit → Act → World → Prop} (hgd : o.guard = none) {s x : Operand} {t : TypeId}
    (ho : o.op = .call { callee := .builtin .append, args := #[s, x], argTypes := #[t, t] }) {base e : Nat} {z : Value} {size bytes : Nat} (ht : P.underlying t = some (.slice e)) (hinfo : (P.info? e).map (fun i => (i.zero, i.size, i.bytes)) = some (some z, size, bytes))
    (hzs : z.cells.size = size) (hsz : 0 < size) {v : Value} {n : Nat} {xs : List Value} (hs : a.eval s = v) (hown : W.ownsRow base e size v n xs) {nb c : Nat} {news : List Value} {fr : Nat × Nat} (hx : a.eval x = .slice (some ⟨nb, 0, none⟩) 1 c)
    (hnb : W.heap[nb]? = some (.cells news.toArray e fr)) (hl : news.length = size) (h1 : ∀ u ∈ news, u.oneCell' = true) (h63 : n + 1 ≤ maxLen) (hbytes : (n + 1) * bytes ≤ 140737488355328) (hbase : base ≤ W.heap.size)
    (h : ∀ g cap w', w'.ownsRow base e size (.slice (some ⟨g, 0, none⟩) (n + 1) cap) (n + 1) (xs ++ news) → (∀ b, b < W.heap.size → v.ownBlock ≠ some b → w'.heap[b]? = W.heap[b]?) → Fr v.ownBlock.toList W w' → (v.ownBlock = some g ∨ g = W.heap.size) → g < w'.heap.size →
      wpList P ops Q rest (a.put o.dst (.slice (some ⟨g, 0, none⟩) (n + 1) cap)) w') : wpList P ops Q (o :: rest) a W := by
  obtain ⟨i, hi, hz0, hz1, hz2⟩ := info_parts hinfo
  refine wpList_append_lies W hgd s x t ho base e i z size bytes ht hi hz0 hz1 hz2 hzs hsz v n xs hs hown ⟨nb, 0, none⟩ 1 c news hx (by omega) (fun j u hj => ?_) h1 (by decide) h63 hbytes hbase _ rfl fun g cap w' h1 h2 h3 h4 => h g cap w' h1 (fun b hb hn => h2.block b hb fun e => hn e.symm) ((Fr.refl _ _).grown h2 fun k hk => .inl (by simp [hk])) h3 h4
  rw [cell_row_add hnb j]
  simpa using hj
/-- from here on the world is a letter, of which F is known -/
theorem abs_world {P : Program} {c : Code} {Q : Exit → Act → World → Prop} {a : Act} {w : World} (F : World → Prop) (h : F w) (k : ∀ w, F w → c.wp P Q a w) : c.wp P Q a w := k w h
/-- the world behind reads alone -/
def Drew (w w' : World) : Prop := ∃ n, w' = w.drewN n
theorem Drew.refl (w : World) : Drew w w := ⟨0, rfl⟩
theorem Drew.drew {a w : World} (h : Drew a w) : Drew a w.drew := by obtain ⟨n, rfl⟩ := h; exact ⟨n + 1, rfl⟩
theorem Drew.drewN {a w : World} (h : Drew a w) (n : Nat) : Drew a (w.drewN n) := by obtain ⟨m, rfl⟩ := h; exact ⟨m + n, World.drewN_drewN _ _ _⟩
theorem Drew.trans {a b c : World} (h : Drew a b) (k : Drew b c) : Drew a c := by obtain ⟨n, rfl⟩ := k; exact h.drewN n
theorem Drew.heap {a w : World} (h : Drew a w) : w.heap = a.heap := by obtain ⟨n, rfl⟩ := h; rfl
theorem Drew.fr {a w : World} (h : Drew a w) (F : List Nat) : Fr F a w := by obtain ⟨n, rfl⟩ := h; exact (Fr.refl _ _).drewN n
end Go.Proofs.Hp
end
