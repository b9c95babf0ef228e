/- Own texts of this claim, part 1: no condition. -/
import Derived.Orders
import Derived.Tactics
import Derived.Laws.Sem
import Derived.Laws.World
import Derived.KernelRfl
set_option linter.unusedVariables false
set_option linter.unusedSimpArgs false
section
/- A region whose order is drawn comes to what it comes to in the order of the text, wherever the unordered pairs of operations are seen to commute. No condition on a program. -/
namespace Go.Proofs.Rg
open Go
set_option linter.unusedVariables false
set_option linter.unusedSimpArgs false

/-! ### Calm, stable and growing computations -/

def Ext (w w2 : World) : Prop := ∀ b : Nat, b < w.heap.size → w2.heap[b]? = w.heap[b]?
theorem Ext.refl (w : World) : Ext w w := fun _ _ => rfl
theorem Ext.size {w w2 : World} (h : Ext w w2) : w.heap.size ≤ w2.heap.size := by
  rcases Nat.lt_or_ge w2.heap.size w.heap.size with hlt | hge
  · have := h w2.heap.size hlt
    rw [Array.getElem?_eq_none (Nat.le_refl _), Array.getElem?_eq_getElem hlt] at this
    cases this
  · exact hge
theorem Ext.trans {a b c : World} (h : Ext a b) (k : Ext b c) : Ext a c := fun i hi =>
  (k i (Nat.lt_of_lt_of_le hi h.size)).trans (h i hi)

def Calm (P : Program) {α : Type} (s : Sem α) : Prop := ∀ w a w', s.run P w = .ok a w' → w' = w ∧ ∀ w2, s.run P w2 = .ok a w2
def Stable (P : Program) {α : Type} (s : Sem α) : Prop := ∀ w a w', s.run P w = .ok a w' → w' = w ∧ ∀ w2, Ext w w2 → s.run P w2 = .ok a w2
def Grows (P : Program) {α : Type} (s : Sem α) : Prop := ∀ w a w', s.run P w = .ok a w' → Ext w w'
def Dead (P : Program) {α : Type} (s : Sem α) : Prop := ∀ w a w', s.run P w ≠ .ok a w'
/-- what a computation that ends well may give -/
def Gives (P : Program) {α : Type} (s : Sem α) (a : α) : Prop := ∃ w w', s.run P w = .ok a w'

section
variable {P : Program} {α β : Type}
theorem run_bind_ok {x : Sem α} {f : α → Sem β} {w w' : World} {b : β} (h : (x >>= f).run P w = .ok b w') :
    ∃ a w1, x.run P w = .ok a w1 ∧ (f a).run P w1 = .ok b w' := by
  rw [Sem.run_bind] at h
  cases hx : x.run P w with
  | ok a w1 => rw [hx] at h; exact ⟨a, w1, rfl, h⟩
  | halt x w1 => rw [hx] at h; cases h
theorem run_bind_of {x : Sem α} {f : α → Sem β} {w w1 : World} {a : α} (h : x.run P w = .ok a w1) :
    (x >>= f).run P w = (f a).run P w1 := by rw [Sem.run_bind, h]; rfl

theorem Calm.pure (a : α) : Calm P (Pure.pure a : Sem α) := fun w b w' h => by
  have h' : Result.ok a w = .ok b w' := h
  cases h'; exact ⟨rfl, fun _ => rfl⟩
theorem Dead.calm {s : Sem α} (h : Dead P s) : Calm P s := fun w a w' hr => absurd hr (h w a w')
theorem Dead.halt (h : Halt) : Dead P (.halt h : Sem α) := fun w a w' hr => by cases hr
theorem Calm.halt (h : Halt) : Calm P (.halt h : Sem α) := (Dead.halt h).calm
theorem Calm.stuck (s : String) : Calm P (Go.stuck s : Sem α) := Calm.halt _
theorem Calm.unsupported (s : Unsupported) : Calm P (Go.unsupported s : Sem α) := Calm.halt _
theorem Calm.bind {x : Sem α} {f : α → Sem β} (hx : Calm P x) (hf : ∀ a, Gives P x a → Calm P (f a)) : Calm P (x >>= f) := fun w b w' h => by
  obtain ⟨a, w1, h1, h2⟩ := run_bind_ok h
  obtain ⟨rfl, h3⟩ := hx w a w1 h1
  obtain ⟨rfl, h4⟩ := hf a ⟨_, _, h1⟩ _ b _ h2
  exact ⟨rfl, fun w2 => by rw [run_bind_of (h3 w2)]; exact h4 w2⟩
theorem Dead.bind_left {x : Sem α} (f : α → Sem β) (hx : Dead P x) : Dead P (x >>= f) := fun w b w' h => by
  obtain ⟨a, w1, h1, _⟩ := run_bind_ok h
  exact hx _ _ _ h1
theorem Dead.bind_right (x : Sem α) {f : α → Sem β} (hf : ∀ a, Dead P (f a)) : Dead P (x >>= f) := fun w b w' h => by
  obtain ⟨a, w1, _, h2⟩ := run_bind_ok h
  exact hf _ _ _ _ h2
theorem Calm.program : Calm P Go.program := fun w a w' h => by
  have h' : Result.ok P w = .ok a w' := h
  cases h'; exact ⟨rfl, fun _ => rfl⟩
theorem Gives.program {p : Program} (h : Gives P Go.program p) : p = P := by
  obtain ⟨w, w', h⟩ := h
  have h' : Result.ok P w = .ok p w' := h
  cases h'; rfl
theorem Gives.pure {a b : α} (h : Gives P (Pure.pure a : Sem α) b) : b = a := by
  obtain ⟨w, w', h⟩ := h
  have h' : Result.ok a w = .ok b w' := h
  cases h'; rfl
theorem Gives.bind {x : Sem α} {f : α → Sem β} {b : β} (h : Gives P (x >>= f) b) : ∃ a, Gives P x a ∧ Gives P (f a) b := by
  obtain ⟨w, w', h⟩ := h
  obtain ⟨a, w1, h1, h2⟩ := run_bind_ok h
  exact ⟨a, ⟨_, _, h1⟩, ⟨_, _, h2⟩⟩
theorem Gives.dead {s : Sem α} {a : α} (h : Gives P s a) (hd : Dead P s) : False := by
  obtain ⟨w, w', h⟩ := h; exact hd _ _ _ h
theorem Calm.map {x : Sem α} (f : α → β) (hx : Calm P x) : Calm P (f <$> x) := Calm.bind hx fun a _ => Calm.pure (f a)
theorem Calm.stable {s : Sem α} (h : Calm P s) : Stable P s := fun w a w' hr => ⟨(h w a w' hr).1, fun w2 _ => (h w a w' hr).2 w2⟩
theorem Stable.bind {x : Sem α} {f : α → Sem β} (hx : Stable P x) (hf : ∀ a, Stable P (f a)) : Stable P (x >>= f) := fun w b w' h => by
  obtain ⟨a, w1, h1, h2⟩ := run_bind_ok h
  obtain ⟨rfl, h3⟩ := hx w a w1 h1
  obtain ⟨rfl, h4⟩ := hf a _ b _ h2
  exact ⟨rfl, fun w2 he => by rw [run_bind_of (h3 w2 he)]; exact h4 w2 he⟩
theorem Stable.grows {s : Sem α} (h : Stable P s) : Grows P s := fun w a w' hr => by rw [(h w a w' hr).1]; exact Ext.refl _
theorem Calm.grows {s : Sem α} (h : Calm P s) : Grows P s := h.stable.grows
theorem Grows.bind {x : Sem α} {f : α → Sem β} (hx : Grows P x) (hf : ∀ a, Grows P (f a)) : Grows P (x >>= f) := fun w b w' h => by
  obtain ⟨a, w1, h1, h2⟩ := run_bind_ok h
  exact (hx w a w1 h1).trans (hf a w1 b w' h2)
theorem Grows.new (o : Obj) : Grows P (Go.newObj o) := fun w a w' h => by
  have h' : Result.ok w.heap.size { w with heap := w.heap.push o } = .ok a w' := h
  cases h'
  intro b hb
  show (w.heap.push o)[b]? = _
  rw [Array.getElem?_push, if_neg (by omega)]
theorem seen_ok {w : World} {at_ : Addr} {u : TypeId} {k : Addr} {m : Bool} {r : Array Value × TypeId × (Nat × Nat) × Nat × Value × List (Nat × Nat × List UInt8)}
    (h : w.seen P at_ u k m = .ok r) : at_.block < w.heap.size := by
  rcases Nat.lt_or_ge at_.block w.heap.size with h' | h'
  · exact h'
  · exfalso
    unfold World.seen at h
    rw [Array.getElem?_eq_none h'] at h
    simp only [bind, Except.bind, throwThe, MonadExceptOf.throw, MonadExcept.throw] at h
    repeat' (split at h)
    all_goals first | cases h | (simp at h)
theorem seen_ext {w w2 : World} (he : Ext w w2) {at_ : Addr} {u : TypeId} {k : Addr} {m : Bool} {r : Array Value × TypeId × (Nat × Nat) × Nat × Value × List (Nat × Nat × List UInt8)}
    (h : w.seen P at_ u k m = .ok r) : w2.seen P at_ u k m = .ok r := by
  have hb := seen_ok h
  unfold World.seen at h ⊢
  rw [he _ hb]; exact h
theorem viewLoad_ext {w w2 : World} (he : Ext w w2) {at_ : Addr} {u : TypeId} {k : Addr} {m : Bool} {r : Value × List Addr}
    (h : w.viewLoad P at_ u k m = .ok r) : w2.viewLoad P at_ u k m = .ok r := by
  unfold World.viewLoad at h ⊢
  cases hs : w.seen P at_ u k m with
  | error e => rw [hs] at h; cases h
  | ok q => rw [seen_ext he hs]; rw [hs] at h; exact h
theorem Stable.load (a : Addr) : Stable P (Go.load a) := fun w v w' h => by
  rw [run_load] at h
  have hlt : ∀ o, w.heap[a.block]? = some o → a.block < w.heap.size := fun o ho => (Array.getElem?_eq_some_iff.1 ho).1
  cases hc : w.cell? a with
  | some u =>
    rw [hc] at h
    cases h
    refine ⟨rfl, fun w2 he => ?_⟩
    have hc2 : w2.cell? a = some v := by
      unfold World.cell? at hc ⊢
      cases ho : w.heap[a.block]? with
      | none => rw [ho] at hc; cases hc
      | some o => rw [he _ (hlt o ho), ho]; rw [ho] at hc; exact hc
    rw [run_load, hc2]
  | none =>
    rw [hc] at h
    cases hf : w.farLoad P a (Mode.plain == .atomic) with
    | error e => simp only [hf] at h; cases h
    | ok r =>
      simp only [hf] at h
      cases h
      refine ⟨rfl, fun w2 he => ?_⟩
      unfold World.farLoad at hf
      cases ho : w.heap[a.block]? with
      | none => rw [ho] at hf; cases hf
      | some o =>
        have ho2 : w2.heap[a.block]? = some o := (he _ (hlt o ho)).trans ho
        rw [ho] at hf
        cases o with
        | view at_ u =>
          simp only at hf
          have hc2 : w2.cell? a = none := by unfold World.cell?; rw [ho2]
          rw [run_load, hc2]
          unfold World.farLoad
          rw [ho2]
          simp only
          cases hvl : w.viewLoad P at_ u a (Mode.plain == .atomic) with
          | ok q => rw [viewLoad_ext he hvl]; rw [hvl] at hf; cases hf; rfl
          | error q => rw [hvl] at hf; cases hf
        | _ => simp only at hf; cases hf
end

section
variable {P : Program}
theorem Dead.runtimePanic {α : Type} (e : RuntimeError) : Dead P (Go.runtimePanic e : Sem α) := by
  unfold Go.runtimePanic
  refine Dead.bind_right _ fun p => ?_
  cases e <;> first | exact Dead.halt _ | (refine Dead.bind_right _ fun _ => Dead.bind_right _ fun _ => Dead.halt _)
theorem Dead.boundsPanic {α : Type} (k : IntKind) (x y : Int) (c : BoundsCode) : Dead P (Go.boundsPanic k x y c : Sem α) := by
  unfold Go.boundsPanic
  dsimp only
  split <;> exact Dead.bind_right _ fun _ => Dead.runtimePanic _

theorem Calm.typeInfo (t : TypeId) : Calm P (Go.typeInfo t) := by
  unfold Go.typeInfo
  refine Calm.bind Calm.program fun p _ => ?_
  split
  · exact Calm.pure _
  · exact Calm.stuck _
theorem Calm.underlying (t : TypeId) : Calm P (Go.underlying t) := by
  unfold Go.underlying
  refine Calm.bind Calm.program fun p _ => ?_
  split
  · exact Calm.pure _
  · exact Calm.stuck _
theorem Gives.underlying {t : TypeId} {d : TypeDesc} (h : Gives P (Go.underlying t) d) : P.underlying t = some d := by
  unfold Go.underlying at h
  obtain ⟨p, h1, h2⟩ := h.bind
  obtain rfl := h1.program
  split at h2
  · rw [h2.pure]; assumption
  · exact (h2.dead (Dead.halt _)).elim
theorem Gives.typeInfo {t : TypeId} {d : TypeInfo} (h : Gives P (Go.typeInfo t) d) : P.info? t = some d := by
  unfold Go.typeInfo at h
  obtain ⟨p, h1, h2⟩ := h.bind
  obtain rfl := h1.program
  split at h2
  · rw [h2.pure]; assumption
  · exact (h2.dead (Dead.halt _)).elim
theorem Gives.sizeOf {t : TypeId} {d : Nat} (h : Gives P (Go.sizeOf t) d) : P.cellsOf t = d := by
  unfold Go.sizeOf at h
  obtain ⟨i, h1, h2⟩ := h.bind
  rw [h2.pure]
  simp [Program.cellsOf, h1.typeInfo]
theorem Calm.zeroValue (t : TypeId) : Calm P (Go.zeroValue t) := by
  unfold Go.zeroValue
  refine Calm.bind (Calm.typeInfo _) fun p _ => ?_
  split
  · exact Calm.pure _
  · exact Calm.unsupported _
theorem Calm.sizeOf (t : TypeId) : Calm P (Go.sizeOf t) := Calm.bind (Calm.typeInfo _) fun _ _ => Calm.pure _
theorem Calm.isAgg (t : TypeId) : Calm P (Go.isAgg t) := by
  unfold Go.isAgg
  refine Calm.bind (Calm.underlying _) fun p _ => ?_
  split <;> exact Calm.pure _
theorem Calm.asBool (v : Value) : Calm P (Go.asBool v) := by
  unfold Go.asBool; split
  · exact Calm.pure _
  · exact Calm.stuck _
theorem Calm.asIntOf (v : Value) : Calm P (Go.asIntOf v) := by
  unfold Go.asIntOf; split
  · exact Calm.pure _
  · exact Calm.unsupported _
  · exact Calm.stuck _
theorem Calm.asInt (v : Value) : Calm P (Go.asInt v) := Calm.bind (Calm.asIntOf _) fun _ _ => Calm.pure _
theorem Calm.asAgg (v : Value) : Calm P (Go.asAgg v) := by
  unfold Go.asAgg; split
  · exact Calm.pure _
  · exact Calm.stuck _
theorem Calm.asAddr (v : Value) : Calm P (Go.asAddr v) := by
  unfold Go.asAddr; split
  · exact Calm.pure _
  · exact (Dead.runtimePanic _).calm
  · exact Calm.stuck _
theorem Calm.sureAddr (v : Value) : Calm P (Go.Instr.sureAddr v) := by
  unfold Go.Instr.sureAddr; split
  · exact Calm.pure _
  · exact Calm.stuck _
theorem Calm.part (t : TypeId) (cs : Array Value) (off : Nat) : Calm P (Go.part t cs off) := by
  unfold Go.part
  refine Calm.bind (Calm.isAgg _) fun b _ => ?_
  split
  · exact Calm.bind (Calm.sizeOf _) fun _ _ => Calm.pure _
  · split
    · exact Calm.pure _
    · exact Calm.stuck _

theorem Calm.forIn_list {α σ : Type} (l : List α) : ∀ (init : σ) (f : α → σ → Sem (ForInStep σ)) (hf : ∀ a s, Calm P (f a s)), Calm P (forIn l init f) := by
  induction l with
  | nil => intro init f _; exact Calm.pure _
  | cons x l ih =>
    intro init f hf
    rw [List.forIn_cons]
    refine Calm.bind (hf _ _) fun r _ => ?_
    cases r
    · exact Calm.pure _
    · exact ih _ f hf
theorem Calm.forIn_array {α σ : Type} (l : Array α) (init : σ) (f : α → σ → Sem (ForInStep σ)) (hf : ∀ a s, Calm P (f a s)) : Calm P (forIn l init f) := by
  rw [← Array.forIn_toList]; exact Calm.forIn_list _ _ _ hf
theorem Calm.forIn_range {σ : Type} (l : Std.Legacy.Range) (init : σ) (f : Nat → σ → Sem (ForInStep σ)) (hf : ∀ a s, Calm P (f a s)) : Calm P (forIn l init f) := by
  rw [Std.Legacy.Range.forIn_eq_forIn_range']; exact Calm.forIn_list _ _ _ hf

theorem Calm.opt {β : Type} (r : Option β × Unit) (f : β) (g : Sem β) (hg : Calm P g) : Calm P (match r.fst with | some r => Pure.pure r | none => g) := by
  obtain ⟨r, u⟩ := r
  cases r
  · exact hg
  · exact Calm.pure _
theorem Calm.eqGuardIn : ∀ (d : Nat) (t : TypeId) (x y : Value), Calm P (Op.eqGuardIn d t x y)
  | 0, t, x, y => Calm.unsupported _
  | d + 1, t, x, y => by
    unfold Op.eqGuardIn
    refine Calm.bind (Calm.underlying _) fun u _ => ?_
    split
    · exact Calm.pure _
    · refine Calm.bind (Calm.forIn_array _ _ _ fun f s => ?_) fun r _ => ?_
      · split
        · exact Calm.bind (Calm.part _ _ _) fun _ _ => Calm.bind (Calm.part _ _ _) fun _ _ => Calm.bind (Calm.eqGuardIn d _ _ _) fun b _ => by split <;> exact Calm.pure _
        · exact Calm.pure _
      · rcases r with ⟨_ | r, _⟩ <;> exact Calm.pure _
    · refine Calm.bind (Calm.sizeOf _) fun n _ => Calm.bind (Calm.forIn_range _ _ _ fun f s => ?_) fun r _ => ?_
      · exact Calm.bind (Calm.part _ _ _) fun _ _ => Calm.bind (Calm.part _ _ _) fun _ _ => Calm.bind (Calm.eqGuardIn d _ _ _) fun b _ => by split <;> exact Calm.pure _
      · rcases r with ⟨_ | r, _⟩ <;> exact Calm.pure _
    · exact Calm.pure _

/-! ### Values that are compared without a look into the world -/
def plainCell : Value → Bool
  | .int .. | .bool _ | .string _ => true
  | _ => false
def plainV (v : Value) : Bool := match v with
  | .int .. | .bool _ | .string _ => true
  | .agg cs => cs.toList.all plainCell
  | _ => false
theorem plainV_of_cell {v : Value} (h : plainCell v = true) : plainV v = true := by cases v <;> first | exact h | cases h
theorem Gives.part {t : TypeId} {cs : Array Value} {off : Nat} {v : Value} (h : Gives P (Go.part t cs off) v) (hc : cs.toList.all plainCell = true) : plainV v = true := by
  rw [List.all_eq_true] at hc
  unfold Go.part at h
  obtain ⟨b, _, h⟩ := h.bind
  split at h
  · obtain ⟨n, _, h⟩ := h.bind
    rw [h.pure]
    show (cs.extract off (off + n)).toList.all plainCell = true
    rw [List.all_eq_true]
    intro x hx
    exact hc x (by
      rw [Array.mem_toList_iff] at hx ⊢
      rw [Array.mem_extract_iff_getElem] at hx
      obtain ⟨k, hk, rfl⟩ := hx
      exact Array.getElem_mem _)
  · split at h
    · rename_i u hu
      rw [h.pure]
      exact plainV_of_cell (hc u (Array.mem_toList_iff.2 (Array.mem_of_getElem? hu)))
    · exact (h.dead (Dead.halt _)).elim
def eqOK : Value → Value → Bool
  | .pointer none, .pointer _ | .pointer _, .pointer none => true
  | .slice none _ _, .slice .. | .slice .., .slice none _ _ => true
  | .map none, .map _ | .map _, .map none => true
  | .nilFunc, .func .. | .func .., .nilFunc | .nilFunc, .nilFunc => true
  | x, y => plainV x && plainV y
theorem Calm.equalPlain : ∀ (d : Nat) (t : TypeId) (x y : Value), plainV x = true → plainV y = true → Calm P (Op.equalIn d t x y)
  | 0, t, x, y => fun _ _ => Calm.unsupported _
  | d + 1, t, x, y => fun hx hy => by
    unfold Op.equalIn
    refine Calm.bind (Calm.underlying _) fun u _ => ?_
    split
    all_goals first
      | exact Calm.pure _
      | exact Calm.stuck _
      | exact Calm.unsupported _
      | (exfalso; simp only [plainV] at hx; cases hx; done)
      | (exfalso; simp only [plainV] at hy; cases hy; done)
      | (split <;> first | exact Calm.pure _ | exact Calm.stuck _)
      | skip
    · rename_i fields xs ys hg
      refine Calm.bind Calm.program fun p _ => ?_
      split
      · exact Calm.unsupported _
      · refine Calm.bind (Calm.forIn_array _ _ _ fun f s => ?_) fun r _ => ?_
        · split
          · exact Calm.bind (Calm.part _ _ _) fun a ha => Calm.bind (Calm.part _ _ _) fun b hb => Calm.bind (Calm.equalPlain d _ _ _ (ha.part hx) (hb.part hy)) fun b _ => by split <;> exact Calm.pure _
          · exact Calm.pure _
        · rcases r with ⟨_ | r, _⟩ <;> exact Calm.pure _
    · refine Calm.bind (Calm.sizeOf _) fun n _ => Calm.bind (Calm.forIn_range _ _ _ fun f s => ?_) fun r _ => ?_
      · exact Calm.bind (Calm.part _ _ _) fun a ha => Calm.bind (Calm.part _ _ _) fun b hb => Calm.bind (Calm.equalPlain d _ _ _ (ha.part hx) (hb.part hy)) fun b _ => by split <;> exact Calm.pure _
      · rcases r with ⟨_ | r, _⟩ <;> exact Calm.pure _
theorem Calm.same_none_left (a : Option Addr) : Calm P (samePointer none a) := by cases a <;> exact Calm.pure _
theorem Calm.same_none_right (a : Option Addr) : Calm P (samePointer a none) := by cases a <;> exact Calm.pure _
theorem Calm.equal (t : TypeId) (x y : Value) (h : eqOK x y = true) : Calm P (Op.equal t x y) := by
  unfold Op.equal Op.maxDepth
  by_cases hp : plainV x = true ∧ plainV y = true
  · exact Calm.equalPlain _ t x y hp.1 hp.2
  · unfold Op.equalIn
    refine Calm.bind (Calm.underlying _) fun u _ => ?_
    unfold eqOK at h
    split at h
    all_goals first
      | (simp only [Bool.and_eq_true] at h; exact absurd h hp)
      | (split <;> first | exact Calm.pure _ | exact Calm.stuck _ | exact Calm.unsupported _ | (simp_all; done) | skip)
    · rename_i e1 e2 _
      cases e1; cases e2
      exact Calm.same_none_left _
    · rename_i e1 e2 _
      cases e1; cases e2
      exact Calm.same_none_right _
end
end Go.Proofs.Rg
end

section
/- The operations of a region by what they look at: reckoned alone, reading, laying new blocks. -/
namespace Go.Proofs.Rg
open Go
set_option linter.unusedVariables false
set_option linter.unusedSimpArgs false
section
variable {P : Program}
/-- where a field has cells its address is reckoned alone -/
def fieldCalm (P : Program) (s f : Nat) : Bool :=
  match P.underlying s with
  | some (.struct fs) => match fs[f]? with
    | some fd => P.cellsOf fd.type != 0
    | none => true
  | _ => true
inductive Cl where
  | pure | load | alloc | any
  deriving DecidableEq
def clB : Builtin → Cl
  | .len | .cap | .min | .max => .pure
  | _ => .any
/-- a map's keys are ints -/
def intKeyed (P : Program) (t : TypeId) : Bool :=
  match P.underlying t with
  | some (.map k _) => (match P.underlying k with | some (.int _) => true | _ => false)
  | _ => false
def notPtr : Value → Bool
  | .pointer _ => false
  | _ => true
def cl (P : Program) : Op → Cl
  | .move _ | .assign _ | .pick .. | .build .. | .field .. | .indexAddr .. | .index .. | .extract .. | .unOp .. | .binOp .. | .convert .. | .slice .. | .nilCheck _ => .pure
  | .fieldAddr s _ f => if fieldCalm P s f then .pure else .any
  | .call { callee := .builtin b, .. } => clB b
  | .load .. => .load
  | .lookup t _ _ _ => if intKeyed P t then .load else .any
  | .alloc _ | .box .. | .buildSlice .. => .alloc
  | _ => .any
def sized : Value → Bool
  | .slice .. | .string _ => true
  | _ => false
def isInt : Value → Bool
  | .int .. => true
  | _ => false
def dynB (b : Builtin) (args : List Value) : Bool :=
  match b with
  | .len | .cap => args.all sized
  | .min | .max => args.all isInt
  | _ => true
def dynBin (op : BinOp) (x y : Value) : Bool :=
  match x, y with
  | .int .., .int .. => true
  | .string _, .string _ => true
  | x, y => (match op with | .eql | .neq => true | _ => false) && eqOK x y
def dynOp (ρ : Operand → Value) : Op → Bool
  | .nilCheck x => match ρ x with | .pointer _ => true | _ => false
  | .binOp op _ x y _ => dynBin op (ρ x) (ρ y)
  | .convert _ _ x => isInt (ρ x)
  | .lookup _ _ x _ => notPtr (ρ x)
  | .call { callee := .builtin b, args, .. } => dynB b (args.toList.map ρ)
  | _ => true

theorem Calm.shift (op : BinOp) (k : IntKind) (a : Int) (yk : IntKind) (b : Int) : Calm P (Op.shift op k a yk b) := by
  unfold Op.shift; dsimp only
  split
  · exact (Dead.runtimePanic _).calm
  · split <;> first | exact Calm.pure _ | exact Calm.stuck _
theorem Calm.intArith (op : BinOp) (k : IntKind) (a b : Int) : Calm P (Op.intArith op k a b) := by
  unfold Op.intArith; split <;> first | exact Calm.pure _ | exact Calm.stuck _
theorem Calm.intDiv (op : BinOp) (k : IntKind) (a b : Int) : Calm P (Op.intDiv op k a b) := by
  unfold Op.intDiv
  split
  · exact (Dead.runtimePanic _).calm
  · split <;> first | exact Calm.pure _ | exact Calm.stuck _
theorem Calm.intBits (op : BinOp) (k : IntKind) (a b : Int) : Calm P (Op.intBits op k a b) := by
  unfold Op.intBits; dsimp only; split <;> first | exact Calm.pure _ | exact Calm.stuck _
theorem Calm.intCmp (op : BinOp) (a b : Int) : Calm P (Op.intCmp op a b) := by
  unfold Op.intCmp; split <;> first | exact Calm.pure _ | exact Calm.stuck _
theorem Calm.stringOp (op : BinOp) (a b : ByteArray) : Calm P (Op.stringOp op a b) := by
  unfold Op.stringOp; dsimp only
  split
  · split
    · exact Calm.unsupported _
    · exact Calm.pure _
  all_goals first | exact Calm.pure _ | exact Calm.stuck _
theorem Calm.guarded (u : Unsupported) (b : Sem Bool) (hb : Calm P b) : Calm P (b >>= fun q => if q = true then Go.unsupported u else Pure.pure ()) :=
  Calm.bind hb fun q _ => by
    cases q
    · exact Calm.pure _
    · exact Calm.unsupported _
theorem Calm.guarded2 (u : Unsupported) (p : Program) (t : TypeId) (b : Sem Bool) (hb : Calm P b) :
    Calm P (if (!p.eqGuardType p.depth t) = true then (Pure.pure () : Sem Unit) else b >>= fun q => if q = true then Go.unsupported u else Pure.pure ()) := by
  by_cases h : (!p.eqGuardType p.depth t) = true
  · rw [if_pos h]; exact Calm.pure _
  · rw [if_neg h]; exact Calm.guarded u b hb
theorem Calm.guarded3 (u : Unsupported) (c : Prop) [Decidable c] (b : Sem Bool) (hb : Calm P b) :
    Calm P (if c then (Pure.pure () : Sem Unit) else b >>= fun q => if q = true then Go.unsupported u else Pure.pure ()) := by
  by_cases h : c
  · rw [if_pos h]; exact Calm.pure _
  · rw [if_neg h]; exact Calm.guarded u b hb
theorem Calm.guardBody (t : TypeId) (x y : Operand) (a b : Value) : Calm P (Go.eqGuard .eql t x y a b) := by
  unfold Go.eqGuard
  show Calm P (match a, b with
    | .nilIface, .nilIface => _
    | .agg _, .agg _ => _
    | _, _ => _)
  split
  · exact Calm.guarded3 _ _ _ (Calm.eqGuardIn _ _ _ _)
  · exact Calm.bind Calm.program fun p hp => Calm.bind Calm.program fun q hq => by
      rw [hp.program, hq.program]; exact Calm.guarded2 _ _ _ _ (Calm.eqGuardIn _ _ _ _)
  · exact Calm.pure _
theorem Calm.eqGuard (op : BinOp) (t : TypeId) (x y : Operand) (a b : Value) : Calm P (Go.eqGuard op t x y a b) := by
  cases op <;> first | exact Calm.guardBody t x y a b | exact Calm.pure _
theorem binOpInt (op : BinOp) (t : TypeId) (k k' : IntKind) (a b : Int) : Calm P (Go.binOp op t (.int k a) (.int k' b)) := by
  cases op <;> simp only [Go.binOp] <;> first
    | exact Calm.shift _ _ _ _ _
    | (split
       · exact Calm.stuck _
       · first | exact Calm.intArith _ _ _ _ | exact Calm.intDiv _ _ _ _ | exact Calm.intBits _ _ _ _ | exact Calm.intCmp _ _ _)
theorem binOpString (op : BinOp) (t : TypeId) (a b : ByteArray) : Calm P (Go.binOp op t (.string a) (.string b)) := by
  cases op <;> simp only [Go.binOp] <;> exact Calm.stringOp _ _ _
theorem binOpEq (op : BinOp) (ho : (match op with | .eql | .neq => true | _ => false) = true) (t : TypeId) (x y : Value) (h : eqOK x y = true) (hx : plainV x = true → plainV y = true → True) : Calm P (Go.binOp op t x y) := by
  have h1 : Calm P (do pure (.bool (← Op.equal t x y)) : Sem Value) := Calm.bind (Calm.equal t x y h) fun _ _ => Calm.pure _
  have h2 : Calm P (do pure (.bool (!(← Op.equal t x y))) : Sem Value) := Calm.bind (Calm.equal t x y h) fun _ _ => Calm.pure _
  cases op <;> first | (cases ho; done) | skip
  all_goals
    cases x <;> cases y <;> first
      | exact h1
      | exact h2
      | exact binOpInt _ _ _ _ _ _
      | exact binOpString _ _ _ _
      | (simp [eqOK, plainV] at h; done)
theorem Calm.binOp (op : BinOp) (t : TypeId) (x y : Value) (h : dynBin op x y = true) : Calm P (Go.binOp op t x y) := by
  unfold dynBin at h
  split at h
  · exact binOpInt _ _ _ _ _ _
  · exact binOpString _ _ _ _
  · rw [Bool.and_eq_true] at h
    exact binOpEq op h.1 t x y h.2 fun _ _ => trivial
theorem Calm.unary (op : UnOp) (x : Value) : Calm P (Op.unary op x) := by
  unfold Op.unary
  split <;> first | exact Calm.pure _ | exact Calm.stuck _ | exact Calm.unsupported _ | exact Calm.intArith _ _ _ _ | exact Calm.intBits _ _ _ _
theorem Calm.unsafePointerInt (s d : TypeId) (k : IntKind) (n : Int) : Calm P (Conv.unsafePointer s d (.int k n)) := by
  unfold Conv.unsafePointer
  refine Calm.bind (Calm.underlying _) fun u _ => Calm.bind (Calm.underlying _) fun v _ => ?_
  split
  all_goals first | exact Calm.stuck _ | exact Calm.unsupported _ | (rename_i e; cases e; done) | skip
  all_goals simp_all
theorem Calm.convert (s d : TypeId) (x : Value) (h : isInt x = true) : Calm P (Go.convert s d x) := by
  cases x <;> first | (cases h; done) | skip
  unfold Go.convert
  refine Calm.bind (Calm.underlying _) fun u _ => Calm.bind (Calm.underlying _) fun v _ => ?_
  split
  all_goals first | exact Calm.pure _ | exact Calm.unsafePointerInt _ _ _ _ | exact Calm.unsupported _ | (rename_i e; cases e; done) | skip
  all_goals simp_all
end
end Go.Proofs.Rg
end

section
/- The operations of a region: what runs calmly, stably, or lays new blocks alone, and always yields a value. -/
namespace Go.Proofs.Rg
open Go
set_option linter.unusedVariables false
set_option linter.unusedSimpArgs false
section
variable {P : Program}

def Val (P : Program) (s : Sem Next) : Prop := ∀ n, Gives P s n → ∃ v, n = .value v
theorem Val.wrap (s : Sem Value) : Val P (s >>= fun v => pure (Next.value v)) := fun n h => by
  obtain ⟨v, _, h2⟩ := h.bind
  exact ⟨v, h2.pure⟩
theorem Val.pure (v : Value) : Val P (pure (Next.value v)) := fun n h => ⟨v, h.pure⟩
theorem Calm.wrap {s : Sem Value} (h : Calm P s) : Calm P (s >>= fun v => Pure.pure (Next.value v)) := Calm.bind h fun _ _ => Calm.pure _
theorem Stable.wrap {s : Sem Value} (h : Stable P s) : Stable P (s >>= fun v => pure (Next.value v)) := Stable.bind h fun _ => (Calm.pure _).stable
theorem Grows.wrap {s : Sem Value} (h : Grows P s) : Grows P (s >>= fun v => pure (Next.value v)) := Grows.bind h fun _ => (Calm.pure _).grows

theorem Calm.build (t : TypeId) (parts : Array (Nat × Value)) : Calm P (Instr.build t parts) := by
  unfold Instr.build
  refine Calm.bind (Calm.zeroValue _) fun z _ => ?_
  refine Calm.bind (Calm.underlying _) fun u _ => ?_
  split
  · refine Calm.bind ?_ fun places _ => ?_
    · refine (show ∀ l : Array Field, Calm P (l.mapM fun f => do Pure.pure (f.offset, ← Go.sizeOf f.type)) from fun l => ?_) _
      rw [Array.mapM_eq_foldlM]
      rw [← Array.foldlM_toList]
      generalize (#[] : Array (Nat × Nat)) = init
      generalize l.toList = l
      induction l generalizing init with
      | nil => exact Calm.pure _
      | cons x l ih =>
        rw [List.foldlM_cons]
        exact Calm.bind (Calm.bind (Calm.bind (Calm.sizeOf _) fun _ _ => Calm.pure _) fun _ _ => Calm.pure _) fun _ _ => ih _
    · split
      · exact Calm.pure _
      · exact Calm.stuck _
  · refine Calm.bind (Calm.sizeOf _) fun n _ => ?_
    split
    · exact Calm.pure _
    · exact Calm.stuck _
  · exact Calm.stuck _
theorem Calm.field (t : TypeId) (x : Value) (f : Nat) : Calm P (Instr.field t x f) := by
  unfold Instr.field
  refine Calm.bind (Calm.underlying _) fun u _ => ?_
  split
  · split
    · exact Calm.bind (Calm.asAgg _) fun _ _ => Calm.part _ _ _
    · exact Calm.stuck _
  · exact Calm.stuck _
theorem Calm.indexAt (t : TypeId) (x i : Value) : Calm P (Instr.indexAt t x i) := by
  unfold Instr.indexAt
  refine Calm.bind (Calm.asIntOf _) fun ki _ => ?_
  obtain ⟨k, i⟩ := ki
  dsimp only
  refine Calm.bind (Calm.underlying _) fun u _ => ?_
  have tail : ∀ y : Option Addr × Nat × TypeId, Calm P (do
      let u2 ← Go.underlying t
      match y.fst with
        | some a =>
          if 0 ≤ i ∧ i < ↑y.2.fst then do
            let s ← Go.sizeOf y.2.snd
            Pure.pure (Value.pointer (some (a.add (i.toNat * s))))
          else
            if (decide (y.2.fst ≤ 1) && match u2 with | TypeDesc.array len elem => true | x => false) = true then
              Go.unsupported (Unsupported.noEntry "op/indexAddr.an index out of range at an array of length 0 or 1 (ledger 616)")
            else boundsPanic k i (↑y.2.fst) BoundsCode.index
        | none => boundsPanic k i 0 BoundsCode.index) := by
    rintro ⟨base, len, elem⟩
    refine Calm.bind (Calm.underlying _) fun u2 _ => ?_
    dsimp only
    split
    · split
      · exact Calm.bind (Calm.sizeOf _) fun _ _ => Calm.pure _
      · generalize (decide (len ≤ 1) && _) = q
        cases q
        · exact (Dead.boundsPanic _ _ _ _).calm
        · exact Calm.unsupported _
    · exact (Dead.boundsPanic _ _ _ _).calm
  split
  · exact Calm.bind (Calm.sureAddr _) fun _ _ => Calm.bind (Calm.pure _) fun y _ => tail y
  · exact Calm.bind (Calm.pure _) fun y _ => tail y
  · exact Calm.bind (Calm.stuck _) fun y _ => tail y
theorem Calm.index (t : TypeId) (x i : Value) : Calm P (Instr.index t x i) := by
  unfold Instr.index
  refine Calm.bind (Calm.asIntOf _) fun ki _ => ?_
  obtain ⟨k, i⟩ := ki
  dsimp only
  refine Calm.bind (Calm.underlying _) fun u _ => ?_
  split
  · split
    · exact Calm.bind (Calm.sizeOf _) fun _ _ => Calm.part _ _ _
    · exact (Dead.boundsPanic _ _ _ _).calm
  · split
    · exact Calm.pure _
    · exact (Dead.boundsPanic _ _ _ _).calm
  · exact Calm.stuck _
theorem Calm.extract (t : Value) (i : Nat) : Calm P (Instr.extract t i) := by
  unfold Instr.extract
  split
  · split
    · exact Calm.pure _
    · exact Calm.stuck _
  · exact Calm.stuck _
theorem Calm.sliceBound (x : Value) (y : Nat) (c : BoundsCode) : Calm P (Instr.sliceBound x y c) := by
  unfold Instr.sliceBound
  refine Calm.bind (Calm.asIntOf _) fun ki _ => ?_
  obtain ⟨k, i⟩ := ki
  dsimp only
  split
  · exact Calm.pure _
  · exact (Dead.boundsPanic _ _ _ _).calm
theorem Calm.sliceBounds (b : Bool) (len cap : Nat) (lo hi mx : Option Value) : Calm P (Instr.sliceBounds b len cap lo hi mx) := by
  unfold Instr.sliceBounds
  cases lo <;> cases hi <;> cases mx <;>
    exact Calm.bind (by first | exact Calm.sliceBound _ _ _ | exact Calm.pure _) fun m _ =>
      Calm.bind (by first | exact Calm.sliceBound _ _ _ | exact Calm.pure _ | exact Calm.stuck _) fun h _ =>
      Calm.bind (by first | exact Calm.sliceBound _ _ _ | exact Calm.pure _) fun l _ => Calm.pure _
theorem Calm.slice (t : TypeId) (x : Value) (lo hi mx : Option Value) : Calm P (Instr.slice t x lo hi mx) := by
  unfold Instr.slice
  refine Calm.bind (Calm.underlying _) fun u _ => ?_
  split
  · dsimp only
    split
    · exact (Dead.bind_left _ (Dead.halt _)).calm
    · exact Calm.bind (Calm.sliceBounds _ _ _ _ _ _) fun r _ => Calm.pure _
  · exact Calm.bind (Calm.sliceBounds _ _ _ _ _ _) fun r _ => Calm.bind (Calm.sizeOf _) fun _ _ => Calm.pure _
  · refine Calm.bind (Calm.asAddr _) fun a _ => Calm.bind (Calm.underlying _) fun v _ => ?_
    split
    · exact Calm.bind (Calm.sliceBounds _ _ _ _ _ _) fun r _ => Calm.bind (Calm.sizeOf _) fun _ _ => Calm.pure _
    · exact Calm.stuck _
  · exact Calm.stuck _
theorem Calm.sliceAt (t : TypeId) (x : Value) (lo hi mx : Option Value) : Calm P (Instr.sliceAt t x lo hi mx) := by
  unfold Instr.sliceAt
  refine Calm.bind (Calm.underlying _) fun u _ => ?_
  split
  · exact Calm.bind (Calm.sureAddr _) fun a _ => Calm.bind (Calm.sliceBounds _ _ _ _ _ _) fun r _ => Calm.bind (Calm.sizeOf _) fun _ _ => Calm.pure _
  · exact Calm.slice _ _ _ _ _
theorem Calm.fieldAt (s : TypeId) (x : Value) (f : Nat) (hc : fieldCalm P s f = true) : Calm P (Instr.fieldAt s x f) := by
  unfold Instr.fieldAt
  refine Calm.bind (Calm.underlying _) fun u hu => ?_
  have hu := hu.underlying
  split
  · rename_i fs
    split
    · rename_i fd hfd
      refine Calm.bind (Calm.sureAddr _) fun a _ => ?_
      refine Calm.bind ?_ fun q _ => Calm.pure _
      unfold Go.fieldPlace
      refine Calm.bind (Calm.sizeOf _) fun n hn => ?_
      have hn := hn.sizeOf
      have : n ≠ 0 := by
        simp only [fieldCalm, hu, hfd] at hc
        intro h0
        rw [h0] at hn
        simp [hn] at hc
      rw [if_neg this]
      exact Calm.pure _
    · exact Calm.stuck _
  · exact Calm.stuck _
theorem Calm.lenB (ts : Array TypeId) (ty : TypeId) (args : Array Value) (h : args.toList.all sized = true) : Calm P (Builtin.len_ ts ty args) := by
  unfold Builtin.len_
  rw [List.all_eq_true] at h
  split
  · rename_i t x e
    have hx : sized x = true := h x (Array.mem_toList_iff.2 (Array.mem_of_getElem? (by simp only [Prod.mk.injEq] at e; exact e.2)))
    refine Calm.bind (Calm.underlying _) fun u _ => ?_
    split <;> first | exact Calm.pure _ | exact Calm.stuck _ | (cases hx; done) | skip
    · refine Calm.bind (Calm.underlying _) fun v _ => ?_
      split
      · exact Calm.pure _
      · exact Calm.stuck _
  · exact Calm.stuck _
theorem Calm.capB (ts : Array TypeId) (ty : TypeId) (args : Array Value) (h : args.toList.all sized = true) : Calm P (Builtin.cap_ ts ty args) := by
  unfold Builtin.cap_
  rw [List.all_eq_true] at h
  split
  · rename_i t x e
    have hx : sized x = true := h x (Array.mem_toList_iff.2 (Array.mem_of_getElem? (by simp only [Prod.mk.injEq] at e; exact e.2)))
    refine Calm.bind (Calm.underlying _) fun u _ => ?_
    split <;> first | exact Calm.pure _ | exact Calm.stuck _ | (cases hx; done) | skip
    · refine Calm.bind (Calm.underlying _) fun v _ => ?_
      split
      · exact Calm.pure _
      · exact Calm.stuck _
  · exact Calm.stuck _
theorem max2_int {x y : Value} (hx : isInt x = true) (hy : isInt y = true) : ∃ z, Builtin.max2 x y = pure z ∧ isInt z = true := by
  cases x <;> cases y <;> first | (cases hx; done) | (cases hy; done) | exact ⟨_, rfl, rfl⟩
theorem min2_int {x y : Value} (hx : isInt x = true) (hy : isInt y = true) : ∃ z, Builtin.min2 x y = pure z ∧ isInt z = true := by
  cases x <;> cases y <;> first | (cases hx; done) | (cases hy; done) | exact ⟨_, rfl, rfl⟩
theorem fold_int (f : Value → Value → Sem Value) (hf : ∀ x y, isInt x = true → isInt y = true → ∃ z, f x y = pure z ∧ isInt z = true) :
    ∀ (l : List Value) (x : Value), isInt x = true → (∀ y ∈ l, isInt y = true) → Calm P (l.foldlM f x)
  | [], x, _, _ => Calm.pure _
  | y :: l, x, hx, hl => by
    rw [List.foldlM_cons]
    obtain ⟨z, e, hz⟩ := hf x y hx (hl y (by simp))
    rw [e]
    exact Calm.bind (Calm.pure _) fun a ha => by
      rw [ha.pure]; exact fold_int f hf l z hz fun y hy => hl y (by simp [hy])
theorem Calm.maxB (ts : Array TypeId) (ty : TypeId) (args : Array Value) (h : args.toList.all isInt = true) : Calm P (Builtin.max_ ts ty args) := by
  unfold Builtin.max_
  rw [List.all_eq_true] at h
  split
  · exact Calm.stuck _
  · rename_i x rest e
    have hm : ∀ y ∈ x :: rest, isInt y = true := fun y hy => h y (by rw [← e] at hy; exact hy)
    exact fold_int _ (fun _ _ => max2_int) rest x (hm x (by simp)) fun y hy => hm y (by simp [hy])
theorem Calm.minB (ts : Array TypeId) (ty : TypeId) (args : Array Value) (h : args.toList.all isInt = true) : Calm P (Builtin.min_ ts ty args) := by
  unfold Builtin.min_
  rw [List.all_eq_true] at h
  split
  · exact Calm.stuck _
  · rename_i x rest e
    have hm : ∀ y ∈ x :: rest, isInt y = true := fun y hy => h y (by rw [← e] at hy; exact hy)
    exact fold_int _ (fun _ _ => min2_int) rest x (hm x (by simp)) fun y hy => hm y (by simp [hy])

theorem exec_pure {o : Oper} {ρ : Operand → Value} (hc : cl P o.op = .pure) (hd : dynOp ρ o.op = true) : Calm P (execOp ρ o) ∧ Val P (execOp ρ o) := by
  obtain ⟨dst, op, type, pos, after, guard⟩ := o
  simp only at hc hd
  cases op <;> first | (simp only [cl] at hc; cases hc; done) | skip
  case move x => exact ⟨Calm.pure _, Val.pure _⟩
  case assign x => exact ⟨Calm.pure _, Val.pure _⟩
  case pick c a b => exact ⟨Calm.bind (Calm.asBool _) fun _ _ => Calm.pure _, fun n h => by obtain ⟨v, _, h2⟩ := h.bind; exact ⟨_, h2.pure⟩⟩
  case build t ps => exact ⟨Calm.wrap (Calm.build _ _), Val.wrap _⟩
  case nilCheck x =>
    simp only [dynOp] at hd
    simp only [execOp]
    cases hx : ρ x <;> rw [hx] at hd <;> first | (cases hd; done) | skip
    rename_i q
    cases q
    · exact ⟨(Dead.runtimePanic _).calm, fun n h => (h.dead (Dead.runtimePanic _)).elim⟩
    · exact ⟨Calm.pure _, Val.pure _⟩
  case binOp op xt x y yt => exact ⟨Calm.wrap (Calm.bind (Calm.eqGuard _ _ _ _ _ _) fun _ _ => Calm.binOp _ _ _ _ hd), Val.wrap _⟩
  case unOp op t x => exact ⟨Calm.wrap (Calm.unary _ _), Val.wrap _⟩
  case convert s d x => exact ⟨Calm.wrap (Calm.convert _ _ _ hd), Val.wrap _⟩
  case slice t x lo hi mx => exact ⟨Calm.wrap (Calm.sliceAt _ _ _ _ _), Val.wrap _⟩
  case fieldAddr s x f =>
    have : fieldCalm P s f = true := by
      cases hf : fieldCalm P s f
      · simp only [cl, hf] at hc; cases hc
      · rfl
    exact ⟨Calm.wrap (Calm.fieldAt _ _ _ this), Val.wrap _⟩
  case field t x f => exact ⟨Calm.wrap (Calm.field _ _ _), Val.wrap _⟩
  case lookup t m x c => simp only [cl] at hc; split at hc <;> cases hc
  case indexAddr t x i => exact ⟨Calm.wrap (Calm.indexAt _ _ _), Val.wrap _⟩
  case index t x i => exact ⟨Calm.wrap (Calm.index _ _ _), Val.wrap _⟩
  case extract t i => exact ⟨Calm.wrap (Calm.extract _ _), Val.wrap _⟩
  case call c =>
    obtain ⟨callee, args, ats⟩ := c
    cases callee with
    | builtin b =>
      simp only [cl] at hc
      simp only [dynOp] at hd
      rw [← Array.toList_map] at hd
      cases b <;> first | (simp only [clB] at hc; cases hc; done) | skip
      · exact ⟨Calm.wrap (Calm.capB _ _ _ hd), Val.wrap _⟩
      · exact ⟨Calm.wrap (Calm.lenB _ _ _ hd), Val.wrap _⟩
      · exact ⟨Calm.wrap (Calm.maxB _ _ _ hd), Val.wrap _⟩
      · exact ⟨Calm.wrap (Calm.minB _ _ _ hd), Val.wrap _⟩
    | _ => simp only [cl] at hc; cases hc
theorem Stable.loadCellsFrom (a : Addr) : ∀ (n i : Nat) (acc : Array Value), Stable P (Go.loadCellsFrom a i n acc)
  | 0, i, acc => (Calm.pure _).stable
  | n + 1, i, acc => by
    unfold Go.loadCellsFrom
    exact Stable.bind (Stable.load _) fun v => Stable.loadCellsFrom a n (i + 1) (acc.push v)
theorem Stable.loadAt (t : TypeId) (x : Value) : Stable P (Instr.loadAt t x) := by
  unfold Instr.loadAt
  refine Stable.bind (Calm.sureAddr _).stable fun a => ?_
  unfold Go.loadVar
  refine Stable.bind (Calm.isAgg _).stable fun b => ?_
  split
  · exact Stable.bind (Calm.sizeOf _).stable fun n => Stable.bind (Stable.loadCellsFrom _ _ _ _) fun _ => (Calm.pure _).stable
  · exact Stable.load _
theorem Stable.of_run {α : Type} {s s2 : Sem α} (he : ∀ w, s.run P w = s2.run P w) (h : Stable P s2) : Stable P s := fun w a w' hr => by
  rw [he] at hr
  obtain ⟨h1, h2⟩ := h w a w' hr
  exact ⟨h1, fun w2 hx => by rw [he]; exact h2 w2 hx⟩
theorem run_under {t : TypeId} {d : TypeDesc} (ht : P.underlying t = some d) {β : Type} (f : TypeDesc → Sem β) (w : World) : (Go.underlying t >>= f).run P w = (f d).run P w := by
  rw [Sem.run_bind]
  have hr : (Go.underlying t).run P w = .ok d w := by unfold Go.underlying; simp [ht]
  rw [hr]; rfl
theorem Calm.of_run {α : Type} {s s2 : Sem α} (he : ∀ w, s.run P w = s2.run P w) (h : Calm P s2) : Calm P s := fun w a w' hr => by
  rw [he] at hr
  obtain ⟨h1, h2⟩ := h w a w' hr
  exact ⟨h1, fun w2 => by rw [he]; exact h2 w2⟩
theorem Calm.equalInt {k : TypeId} {q : IntKind} (hk : P.underlying k = some (.int q)) (x y : Value) (hx : notPtr x = true) : Calm P (Op.equal k x y) := by
  unfold Op.equal
  show Calm P (Op.equalIn _ k x y)
  generalize Op.maxDepth = d
  cases d with
  | zero => unfold Op.equalIn; exact Calm.unsupported _
  | succ d =>
    unfold Op.equalIn
    refine Calm.of_run (fun w => run_under hk _ w) ?_
    dsimp only
    split <;> first
      | exact Calm.pure _
      | exact Calm.stuck _
      | exact Calm.unsupported _
      | (cases hx; done)
      | (split <;> first | exact Calm.pure _ | exact Calm.stuck _)
      | (simp_all; done)
      | skip
theorem Calm.findAsking {k : TypeId} {q : IntKind} (hk : P.underlying k = some (.int q)) (x : Value) (hx : notPtr x = true) : ∀ (es : List MapEntry) (i : Nat), Calm P (Instr.findAsking k x es i)
  | [], i => Calm.pure _
  | e :: es, i => by
    unfold Instr.findAsking
    refine Calm.bind (Calm.equalInt hk x _ hx) fun b _ => ?_
    cases b
    · exact Calm.findAsking hk x hx es (i + 1)
    · exact Calm.pure _
theorem Stable.getObj (b : Nat) : Stable P (Go.getObj b) := by
  intro w a w' hr
  simp only [Go.getObj, Sem.run] at hr ⊢
  cases hh : w.heap[b]? with
  | none => rw [hh] at hr; simp at hr
  | some o =>
    have hb : b < w.heap.size := (Array.getElem?_eq_some_iff.1 hh).1
    rw [hh] at hr
    cases o <;> simp at hr <;> (obtain ⟨rfl, rfl⟩ := hr; exact ⟨rfl, fun w2 hx => by rw [hx b hb, hh]⟩)
theorem Stable.lookup {t k e : TypeId} {q : IntKind} (ht : P.underlying t = some (.map k e)) (hk : P.underlying k = some (.int q)) (x y : Value) (hy : notPtr y = true) (c : Bool) : Stable P (Instr.lookup t x y c) := by
  unfold Instr.lookup
  refine Stable.of_run (fun w => run_under ht _ w) ?_
  simp only
  have tail : ∀ es : Array MapEntry, Stable P (do
      Instr.checkKey es.isEmpty 10000 k y
      let r ← Instr.findKey k y es.toList
      let (v, ok) ← match r with
        | some (_, v) => pure (v, true)
        | none => do
          let z ← Go.zeroValue e
          pure (z, false)
      pure (if c then Value.tuple #[v, .bool ok] else v) : Sem Value) := fun es => by
    refine Stable.bind ?_ fun _ => ?_
    · refine Calm.stable ?_
      unfold Instr.checkKey
      refine Calm.of_run (fun w => run_under hk _ w) ?_
      cases y <;> exact Calm.pure _
    · refine Stable.bind ?_ fun r => ?_
      · refine Calm.stable ?_
        unfold Instr.findKey
        refine Calm.of_run (fun w => run_under hk _ w) ?_
        split
        · exact Calm.pure _
        · exact Calm.findAsking hk y hy _ _
      · cases r with
        | none =>
          refine Stable.bind ?_ fun _ => (Calm.pure _).stable
          exact (Calm.zeroValue _).stable
        | some p => exact Stable.bind (Calm.pure _).stable fun _ => (Calm.pure _).stable
  cases x <;> first | exact (Calm.stuck _).stable | skip
  rename_i r
  cases r with
  | none => exact tail #[]
  | some r =>
    refine Stable.bind (Stable.getObj r) fun o => ?_
    cases o <;> first | exact (Calm.stuck _).stable | exact tail _
theorem exec_load {o : Oper} {ρ : Operand → Value} (hc : cl P o.op = .load) (hd : dynOp ρ o.op = true) : Stable P (execOp ρ o) ∧ Val P (execOp ρ o) := by
  obtain ⟨dst, op, type, pos, after, guard⟩ := o
  simp only at hc
  cases op <;> first | (simp only [cl] at hc; cases hc; done) | skip
  case fieldAddr s x f => simp only [cl] at hc; split at hc <;> cases hc
  case load t x => exact ⟨Stable.wrap (Stable.loadAt _ _), Val.wrap _⟩
  case lookup t m x c =>
    simp only [cl] at hc
    split at hc
    · rename_i hi
      unfold intKeyed at hi
      split at hi
      · rename_i k e ht
        split at hi
        · rename_i q hk
          exact ⟨Stable.wrap (Stable.lookup ht hk _ _ hd _), Val.wrap _⟩
        · cases hi
      · cases hi
    · cases hc
  case call c =>
    obtain ⟨callee, args, ats⟩ := c
    cases callee with
    | builtin b => simp only [cl] at hc; cases b <;> cases hc
    | _ => simp only [cl] at hc; cases hc
theorem Grows.newVar (t : TypeId) (v : Value) : Grows P (Go.newVar t v) := by
  unfold Go.newVar Go.newRow
  exact Grows.bind (Grows.new _) fun _ => (Calm.pure _).grows
theorem exec_alloc {o : Oper} {ρ : Operand → Value} (hc : cl P o.op = .alloc) : Grows P (execOp ρ o) ∧ Val P (execOp ρ o) := by
  obtain ⟨dst, op, type, pos, after, guard⟩ := o
  simp only at hc
  cases op <;> first | (simp only [cl] at hc; cases hc; done) | skip
  case fieldAddr s x f => simp only [cl] at hc; split at hc <;> cases hc
  case lookup t m x c => simp only [cl] at hc; split at hc <;> cases hc
  case alloc e =>
    refine ⟨Grows.wrap ?_, Val.wrap _⟩
    show Grows P (do let zero ← zeroValue e; pure (Value.pointer (some (← Go.newVar e zero))))
    exact Grows.bind (Calm.zeroValue _).grows fun z => Grows.bind (Grows.newVar _ _) fun _ => (Calm.pure _).grows
  case box e x => exact ⟨Grows.wrap (Grows.bind (Grows.newVar _ _) fun _ => (Calm.pure _).grows), Val.wrap _⟩
  case buildSlice t n ps =>
    refine ⟨Grows.wrap ?_, Val.wrap _⟩
    unfold Instr.buildSlice
    refine Grows.bind (Calm.underlying _).grows fun u => ?_
    split
    · rename_i elem
      refine Grows.bind (Calm.sizeOf _).grows fun size => ?_
      have tail : ∀ zero : Array Value, Grows P (match
          Instr.fill (fun i => some (i * size, size)) (Array.map (fun x => zero[x % zero.size]!) (Array.range (n * size)))
            (Array.map (fun x => match x with | (i, x) => (i, ρ x)) ps).toList with
        | some cells => do
          let a ← newRow elem cells
          pure (Value.slice (some a) n n)
        | x => stuck "buildSlice: a part of the wrong size") := fun zero => by
        split
        · refine Grows.bind (show Grows P (Go.newRow _ _) from ?_) fun _ => (Calm.pure _).grows
          unfold Go.newRow
          exact Grows.bind (Grows.new _) fun _ => (Calm.pure _).grows
        · exact (Calm.stuck _).grows
      dsimp only
      by_cases h1 : n * size > 2 ^ 24
      · rw [if_pos h1]
        exact ((Dead.bind_left _ (Dead.halt _)).calm).grows
      · rw [if_neg h1]
        by_cases h2 : n * size = 0
        · rw [if_pos h2]
          exact Grows.bind (Calm.pure _).grows fun z => tail z
        · rw [if_neg h2]
          exact Grows.bind (Calm.zeroValue _).grows fun z => Grows.bind (Calm.pure _).grows fun z => tail z
    · exact (Calm.stuck _).grows
  case call c =>
    obtain ⟨callee, args, ats⟩ := c
    cases callee with
    | builtin b => simp only [cl] at hc; cases b <;> cases hc
    | _ => simp only [cl] at hc; cases hc
end
end Go.Proofs.Rg
end
