/- Maps in the heap as lists of pairs, in the order in which the keys came; whatever keys are compared by their plain values. No condition on a program. -/
import Derived.Test.YtbacamboknmppaaDoorRgD
import Derived.Maps.OwnOps
namespace Go.Proofs.Mp
open Go
set_option linter.unusedVariables false
set_option linter.unusedSimpArgs false

/-- One operation whose run is known. -/
theorem wpList_run {P : Program} {ops : Array Oper} {rest : List Oper} {o : Oper} {a : Act} {w w' : World} {v : Value} {Q : Exit → Act → World → Prop} (hg : o.guard = none)
    (hrun : (execOp a.eval o).run P w = .ok (.value v) w') (h : wpList P ops Q rest (a.put o.dst v) w') : wpList P ops Q (o :: rest) a w :=
  wpList_plain hg fun K hK => by unfold Oper.wp; rw [hrun]; exact hK _ _ h
theorem wpList_run_skip {P : Program} {ops : Array Oper} {rest : List Oper} {o : Oper} {a : Act} {w w' : World} {Q : Exit → Act → World → Prop} (hg : o.guard = none)
    (hrun : (execOp a.eval o).run P w = .ok .skip w') (h : wpList P ops Q rest (a.put o.dst undef) w') : wpList P ops Q (o :: rest) a w :=
  wpList_plain hg fun K hK => by unfold Oper.wp; rw [hrun]; exact hK _ _ h

/-- How the keys of a type are compared: 'f' spells a key as a value. -/
structure KeysBy (P : Program) (K : TypeId) {κ : Type} [DecidableEq κ] (f : κ → Value) : Prop where
  check : ∀ (e : Bool) (k : κ) (w : World), (Instr.checkKey e 10000 K (f k)).run P w = .ok () w
  find : ∀ (k : κ) (es : List MapEntry) (ks : List κ) (w : World), es.map (·.key) = ks.map f → (Instr.findKey K (f k) es).run P w = .ok ((ks.idxOf? k).bind fun i => (es[i]?).map fun e => (i, e.val)) w
  same : ∀ k, Instr.sameBits 10000 (f k) (f k) = true

section
variable {P : Program} {κ : Type} [DecidableEq κ] {f : κ → Value}
theorem idxOf?_cons (k x : κ) (l : List κ) : (x :: l).idxOf? k = if x = k then some 0 else (l.idxOf? k).map (· + 1) := by
  rw [List.idxOf?_cons]
  by_cases h : x = k
  · simp [h]
  · simp [h]
theorem findAsking_eq {K : TypeId} (heq : ∀ a b w, (Op.equal K (f a) (f b)).run P w = .ok (decide (a = b)) w) (k : κ) : ∀ (es : List MapEntry) (ks : List κ) (i : Nat) (w : World), es.map (·.key) = ks.map f →
    (Instr.findAsking K (f k) es i).run P w = .ok ((ks.idxOf? k).bind fun j => (es[j]?).map fun e => (i + j, e.val)) w
  | [], ks, i, w, h => by
    cases ks with
    | nil => rfl
    | cons => simp at h
  | e :: es, ks, i, w, h => by
    cases ks with
    | nil => simp at h
    | cons x ks =>
      simp only [List.map_cons, List.cons.injEq] at h
      unfold Instr.findAsking
      rw [Sem.run_bind, h.1, heq]
      simp only [Result.andThen_ok]
      rw [idxOf?_cons]
      by_cases hx : k = x
      · subst hx; simp
      · have hx' : ¬ x = k := fun e => hx e.symm
        simp only [hx, hx', decide_false, Bool.false_eq_true, if_false]
        rw [findAsking_eq heq k es ks (i + 1) w h.2]
        cases ks.idxOf? k with
        | none => rfl
        | some j => simp [Nat.add_assoc, Nat.add_comm 1 j]
theorem KeysBy.deep {K : TypeId} {d : TypeDesc} (hu : P.underlying K = some d) (hnow : ∀ k v, Instr.sameNow d (f k) v = none) (heq : ∀ a b w, (Op.equal K (f a) (f b)).run P w = .ok (decide (a = b)) w)
    (hcheck : ∀ (e : Bool) (k : κ) (w : World), (Instr.checkKey e 10000 K (f k)).run P w = .ok () w) (hsame : ∀ k, Instr.sameBits 10000 (f k) (f k) = true) : KeysBy P K f where
  check := hcheck
  same := hsame
  find := fun k es ks w h => by
    unfold Instr.findKey
    have hr : (Go.underlying K).run P w = .ok d w := by unfold Go.underlying; simp [hu]
    rw [Sem.run_bind, hr]
    simp only [Result.andThen_ok]
    cases es with
    | nil =>
      cases ks with
      | nil => rfl
      | cons => simp at h
    | cons e es =>
      simp only [Instr.findNow, hnow]
      have := findAsking_eq heq k (e :: es) ks 0 w h
      simpa using this
theorem findNow_eq {d : TypeDesc} (hnow : ∀ a b, Instr.sameNow d (f a) (f b) = some (decide (a = b))) (k : κ) : ∀ (es : List MapEntry) (ks : List κ) (i : Nat), es.map (·.key) = ks.map f →
    Instr.findNow d (f k) es i = some ((ks.idxOf? k).bind fun j => (es[j]?).map fun e => (i + j, e.val))
  | [], ks, i, h => by
    cases ks with
    | nil => rfl
    | cons => simp at h
  | e :: es, ks, i, h => by
    cases ks with
    | nil => simp at h
    | cons x ks =>
      simp only [List.map_cons, List.cons.injEq] at h
      unfold Instr.findNow
      rw [h.1, hnow, idxOf?_cons]
      by_cases hx : k = x
      · subst hx; simp
      · have hx' : ¬ x = k := fun e => hx e.symm
        simp only [hx, hx', decide_false, if_false]
        rw [findNow_eq hnow k es ks (i + 1) h.2]
        cases ks.idxOf? k with
        | none => rfl
        | some j => simp [Nat.add_assoc, Nat.add_comm 1 j]
theorem KeysBy.now {K : TypeId} {d : TypeDesc} (hu : P.underlying K = some d) (hnow : ∀ a b, Instr.sameNow d (f a) (f b) = some (decide (a = b)))
    (hcheck : ∀ (e : Bool) (k : κ) (w : World), (Instr.checkKey e 10000 K (f k)).run P w = .ok () w) (hsame : ∀ k, Instr.sameBits 10000 (f k) (f k) = true) : KeysBy P K f where
  check := hcheck
  same := hsame
  find := fun k es ks w h => by
    unfold Instr.findKey
    have hr : (Go.underlying K).run P w = .ok d w := by unfold Go.underlying; simp [hu]
    rw [Sem.run_bind, hr]
    simp only [Result.andThen_ok]
    rw [findNow_eq hnow k es ks 0 h]
    simp

/-- Integer keys. -/
theorem KeysBy.int {K : TypeId} {q : IntKind} (hu : P.underlying K = some (.int q)) : KeysBy P K (fun n : Int => Value.int q n) := by
  refine KeysBy.now hu (fun a b => ?_) (fun e k w => ?_) fun k => ?_
  · show (if q = q then some (a == b) else none) = _
    rw [if_pos rfl]; congr 1
  · unfold Instr.checkKey Go.underlying
    simp [hu]
  · simp [Instr.sameBits]

end
/-! ### The map in the heap -/
section
variable {κ ν : Type} {f : κ → Value} {g : ν → Value}
/-- block b is a map that holds the pairs l, in the order of their coming -/
def MapIs (w : World) (b : Nat) (f : κ → Value) (g : ν → Value) (l : List (κ × ν)) : Prop :=
  ∃ es clock, w.heap[b]? = some (.map es clock) ∧ es.toList.map (fun e => (e.key, e.val)) = l.map fun p => (f p.1, g p.2)
theorem MapIs.keys {es : Array MapEntry} {l : List (κ × ν)} (h : es.toList.map (fun e => (e.key, e.val)) = l.map fun p => (f p.1, g p.2)) : es.toList.map (·.key) = (l.map (·.1)).map f := by
  have := congrArg (List.map Prod.fst) h
  simpa [List.map_map, Function.comp_def] using this
theorem MapIs.val {es : Array MapEntry} {l : List (κ × ν)} (h : es.toList.map (fun e => (e.key, e.val)) = l.map fun p => (f p.1, g p.2)) (i : Nat) : (es.toList[i]?).map (·.val) = (l[i]?).map fun p => g p.2 := by
  have := congrArg (fun x : List (Value × Value) => (x[i]?).map Prod.snd) h
  simpa [List.getElem?_map, Option.map_map, Function.comp_def] using this
theorem MapIs.made (w : World) : MapIs { w with heap := w.heap.push (.map #[] 0) } w.heap.size f g [] := ⟨#[], 0, by simp, rfl⟩
theorem MapIs.of_block {w w' : World} {b : Nat} {l : List (κ × ν)} (h : MapIs w b f g l) (he : w'.heap[b]? = w.heap[b]?) : MapIs w' b f g l := by
  obtain ⟨es, clock, hb, hl⟩ := h
  exact ⟨es, clock, he.trans hb, hl⟩
theorem MapIs.lt {w : World} {b : Nat} {l : List (κ × ν)} (h : MapIs w b f g l) : b < w.heap.size := by
  obtain ⟨es, clock, hb, hl⟩ := h
  exact (Array.getElem?_eq_some_iff.1 hb).1
end
section
variable {P : Program} {κ : Type} [DecidableEq κ] {f : κ → Value} {ν : Type} {g : ν → Value}
/-- the pairs with one more, or with another value at a key -/
def put (l : List (κ × ν)) (k : κ) (v : ν) : List (κ × ν) :=
  match (l.map (·.1)).idxOf? k with
  | some i => l.set i (k, v)
  | none => l ++ [(k, v)]
/-- the value at a key -/
def get? (l : List (κ × ν)) (k : κ) : Option ν := ((l.map (·.1)).idxOf? k).bind fun i => (l[i]?).map (·.2)
theorem MapIs.lookup {T K E : TypeId} {w : World} {b : Nat} {l : List (κ × ν)} (h : MapIs w b f g l) (hT : P.underlying T = some (.map K E)) (hK : KeysBy P K f) {z : Value}
    (hz : (zeroValue E).run P w = .ok z w) (k : κ) (c : Bool) :
    (Instr.lookup T (.map (some b)) (f k) c).run P w = .ok (if c then .tuple #[((get? l k).map g).getD z, .bool (get? l k).isSome] else ((get? l k).map g).getD z) w := by
  obtain ⟨es, clock, hb, hl⟩ := h
  unfold Instr.lookup
  have hr : (Go.underlying T).run P w = .ok (.map K E) w := by unfold Go.underlying; simp [hT]
  have hg : (Go.getObj b).run P w = .ok (.map es clock) w := by simp [Go.getObj, Sem.run, hb]
  rw [Sem.run_bind, hr]
  simp only [Result.andThen_ok]
  rw [Sem.run_bind, hg]
  simp only [Result.andThen_ok]
  rw [Sem.run_bind, Sem.run_pure]
  simp only [Result.andThen_ok]
  rw [Sem.run_bind, hK.check]
  simp only [Result.andThen_ok]
  rw [Sem.run_bind, hK.find k es.toList (l.map (·.1)) w (MapIs.keys hl)]
  simp only [Result.andThen_ok]
  unfold get?
  cases hi : (l.map (·.1)).idxOf? k with
  | none => simp [hz]
  | some i =>
    have hv := MapIs.val hl i
    cases he : es.toList[i]? with
    | none =>
      rw [he] at hv
      cases hli : l[i]? with
      | none => simp only [Option.bind_some, he, hli, Option.map_none]; rw [Sem.run_bind, hz]; simp
      | some p => rw [hli] at hv; simp at hv
    | some e =>
      rw [he] at hv
      cases hli : l[i]? with
      | none => rw [hli] at hv; simp at hv
      | some p => rw [hli] at hv; simp at hv; simp only [Option.bind_some, he, hli, Option.map_some]; simp [hv]
theorem MapIs.update {T K E : TypeId} {w : World} {b : Nat} {l : List (κ × ν)} (h : MapIs w b f g l) (hT : P.underlying T = some (.map K E)) (hK : KeysBy P K f) (k : κ) (v : ν) :
    ∃ w', (Instr.mapUpdate T (.map (some b)) (f k) (g v)).run P w = .ok () w' ∧ MapIs w' b f g (put l k v) ∧ (∃ o, w' = { w with heap := w.heap.setIfInBounds b o }) := by
  obtain ⟨es, clock, hb, hl⟩ := h
  have hlt : b < w.heap.size := (Array.getElem?_eq_some_iff.1 hb).1
  unfold Instr.mapUpdate
  have hr : (Go.underlying T).run P w = .ok (.map K E) w := by unfold Go.underlying; simp [hT]
  have hg : (Go.getObj b).run P w = .ok (.map es clock) w := by simp [Go.getObj, Sem.run, hb]
  have hset : ∀ o, (Go.setObj b o).run P w = .ok () { w with heap := w.heap.setIfInBounds b o } := fun o => by simp [Go.setObj, Sem.run, hb]
  rw [Sem.run_bind, hr]
  simp only [Result.andThen_ok]
  rw [Sem.run_bind, hg]
  simp only [Result.andThen_ok]
  rw [Sem.run_bind, hK.check]
  simp only [Result.andThen_ok]
  rw [Sem.run_bind, hK.find k es.toList (l.map (·.1)) w (MapIs.keys hl)]
  simp only [Result.andThen_ok]
  have push : ∃ w', (Go.setObj b (.map (es.push { key := f k, val := g v, born := clock }) (clock + 1))).run P w = .ok () w' ∧ MapIs w' b f g (l ++ [(k, v)]) ∧ (∃ o, w' = { w with heap := w.heap.setIfInBounds b o }) := by
    refine ⟨_, hset _, ⟨_, _, by rw [Array.getElem?_setIfInBounds_self_of_lt hlt], ?_⟩, _, rfl⟩
    simp [hl]
  unfold put
  cases hi : (l.map (·.1)).idxOf? k with
  | none => exact push
  | some i =>
    have hkeys := MapIs.keys hl
    have hsz : es.size = l.length := by have := congrArg List.length hl; simpa using this
    obtain ⟨hil, hki⟩ : ∃ h : i < l.length, (l[i]).1 = k := by
      rw [List.idxOf?_eq_some_iff] at hi
      obtain ⟨h1, h2, _⟩ := hi
      simp at h1 h2
      exact ⟨h1, h2⟩
    have hil' : i < es.toList.length := by simpa [hsz] using hil
    have he : es.toList[i]? = some es.toList[i] := List.getElem?_eq_getElem hil'
    have hke : (es.toList[i]).key = f k := by
      have := congrArg (fun x : List Value => x[i]?) hkeys
      simp only [List.getElem?_map, he] at this
      simp [hil, hki] at this
      simpa using this
    simp only [Option.bind_some, he, Option.map_some]
    have hke' : ((es[i]?).map (·.key)).getD (f k) = f k := by
      have hi3 : i < es.size := by omega
      simp [hi3]
      have := hke
      simpa using this
    rw [Sem.run_bind, hke']
    unfold Instr.keyThatStays
    rw [if_pos (hK.same k)]
    simp only [Sem.run_pure, Result.andThen_ok]
    refine ⟨_, hset _, ⟨_, _, by rw [Array.getElem?_setIfInBounds_self_of_lt hlt], ?_⟩, _, rfl⟩
    simp only [Array.toList_modify, List.map_set]
    apply List.ext_getElem?
    intro j
    have hj := congrArg (fun x : List (Value × Value) => x[j]?) hl
    simp only [List.getElem?_map] at hj ⊢
    rw [List.getElem?_modify, List.getElem?_set]
    by_cases hij : i = j
    · subst hij
      have hi3 : i < es.size := by omega
      simp [hil, hi3]
    · simp only [hij, if_false]
      simp only [List.getElem?_map]
      simpa using hj
end
section
variable {P : Program} {κ ν : Type} {f : κ → Value} {g : ν → Value}
theorem MapIs.len {w : World} {b : Nat} {l : List (κ × ν)} (h : MapIs w b f g l) {T K E : TypeId} (hT : P.underlying T = some (.map K E)) (ty : TypeId) :
    (Builtin.len_ #[T] ty #[.map (some b)]).run P w = .ok (.int .i64 l.length) w := by
  obtain ⟨es, clock, hb, hl⟩ := h
  have hsz : es.size = l.length := by have := congrArg List.length hl; simpa using this
  have hg : (Go.getObj b).run P w = .ok (.map es clock) w := by simp [Go.getObj, Sem.run, hb]
  have hr : (Go.underlying T).run P w = .ok (.map K E) w := by unfold Go.underlying; simp [hT]
  unfold Builtin.len_
  show Sem.run P (Go.underlying T >>= _) w = _
  rw [Sem.run_bind, hr]
  simp only [Result.andThen_ok]
  show Sem.run P (Go.getObj b >>= _) w = _
  rw [Sem.run_bind, hg]
  simp [goInt, hsz]
end
/-! ### At the operations -/
section
variable {P : Program} {κ : Type} [DecidableEq κ] {f : κ → Value} {ν : Type} {g : ν → Value} {ops : Array Oper} {rest : List Oper} {o : Oper} {a : Act} {w : World} {Q : Exit → Act → World → Prop}
theorem exec_lookup {ρ : Operand → Value} {T : TypeId} {m x : Operand} {c : Bool} (ho : o.op = .lookup T m x c) : (execOp ρ o).run P w = ((Instr.lookup T (ρ m) (ρ x) c).run P w).andThen fun v w' => .ok (.value v) w' := by
  unfold execOp; simp only [ho, Sem.run_bind]; rfl
theorem wpList_lookup_hit {T K E : TypeId} {m x : Operand} {b : Nat} {l : List (κ × ν)} {k : κ} {v : ν} {z : Value} {c : Bool} (hg : o.guard = none) (ho : o.op = .lookup T m x c) (hm : a.eval m = .map (some b)) (hx : a.eval x = f k) (h : MapIs w b f g l)
    (hT : P.underlying T = some (.map K E)) (hK : KeysBy P K f) (hz : (zeroValue E).run P w = .ok z w) (hv : get? l k = some v) (hnext : wpList P ops Q rest (a.put o.dst (if c then .tuple #[g v, .bool true] else g v)) w) : wpList P ops Q (o :: rest) a w := by
  refine wpList_run hg ?_ hnext
  rw [exec_lookup ho, hm, hx, h.lookup hT hK hz k c, hv]
  rfl
theorem wpList_lookup_miss {T K E : TypeId} {m x : Operand} {b : Nat} {l : List (κ × ν)} {k : κ} {z : Value} {c : Bool} (hg : o.guard = none) (ho : o.op = .lookup T m x c) (hm : a.eval m = .map (some b)) (hx : a.eval x = f k) (h : MapIs w b f g l)
    (hT : P.underlying T = some (.map K E)) (hK : KeysBy P K f) (hz : (zeroValue E).run P w = .ok z w) (hv : get? l k = none) (hnext : wpList P ops Q rest (a.put o.dst (if c then .tuple #[z, .bool false] else z)) w) : wpList P ops Q (o :: rest) a w := by
  refine wpList_run hg ?_ hnext
  rw [exec_lookup ho, hm, hx, h.lookup hT hK hz k c, hv]
  rfl
theorem wpList_update_is {T K E : TypeId} {m x u : Operand} {b : Nat} {l : List (κ × ν)} {k : κ} {v : ν} (hg : o.guard = none) (ho : o.op = .mapUpdate T m x u) (hm : a.eval m = .map (some b)) (hx : a.eval x = f k) (hu : a.eval u = g v) (h : MapIs w b f g l)
    (hT : P.underlying T = some (.map K E)) (hK : KeysBy P K f) (hnext : ∀ q, MapIs { w with heap := w.heap.setIfInBounds b q } b f g (put l k v) → wpList P ops Q rest (a.put o.dst undef) { w with heap := w.heap.setIfInBounds b q }) : wpList P ops Q (o :: rest) a w := by
  obtain ⟨w', hr, hi, q, rfl⟩ := h.update hT hK k v
  refine wpList_run_skip hg ?_ (hnext q hi)
  unfold execOp
  simp only [ho, hm, hx, hu, Sem.run_bind, hr]
  rfl
end
end Go.Proofs.Mp
