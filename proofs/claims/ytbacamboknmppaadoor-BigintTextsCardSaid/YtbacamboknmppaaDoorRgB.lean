/- The operations of a region by what they look at: reckoned alone, reading, laying new blocks. -/
import Derived.Test.YtbacamboknmppaaDoorRgA
namespace Go.Proofs.Rg
open Go
set_option linter.unusedVariables false
set_option linter.unusedSimpArgs false
section
variable {P : Program}
/-- where a field has cells its address is reckoned alone -/
def fieldCalm (P : Program) (s f : Nat) : Bool :=
  match P.underlying s with
  | some (.struct fs) => match fs[f]? with
    | some fd => P.cellsOf fd.type != 0
    | none => true
  | _ => true
inductive Cl where
  | pure | load | alloc | any
  deriving DecidableEq
def clB : Builtin → Cl
  | .len | .cap | .min | .max => .pure
  | _ => .any
def cl (P : Program) : Op → Cl
  | .move _ | .assign _ | .pick .. | .build .. | .field .. | .indexAddr .. | .index .. | .extract .. | .unOp .. | .binOp .. | .convert .. | .slice .. | .nilCheck _ => .pure
  | .fieldAddr s _ f => if fieldCalm P s f then .pure else .any
  | .call { callee := .builtin b, .. } => clB b
  | .load .. => .load
  | .alloc _ | .box .. | .buildSlice .. => .alloc
  | _ => .any
def sized : Value → Bool
  | .slice .. | .string _ => true
  | _ => false
def isInt : Value → Bool
  | .int .. => true
  | _ => false
def dynB (b : Builtin) (args : List Value) : Bool :=
  match b with
  | .len | .cap => args.all sized
  | .min | .max => args.all isInt
  | _ => true
def dynBin (op : BinOp) (x y : Value) : Bool :=
  match x, y with
  | .int .., .int .. => true
  | .string _, .string _ => true
  | x, y => (match op with | .eql | .neq => true | _ => false) && eqOK x y
def dynOp (ρ : Operand → Value) : Op → Bool
  | .nilCheck x => match ρ x with | .pointer _ => true | _ => false
  | .binOp op _ x y _ => dynBin op (ρ x) (ρ y)
  | .convert _ _ x => isInt (ρ x)
  | .call { callee := .builtin b, args, .. } => dynB b (args.toList.map ρ)
  | _ => true

theorem Calm.shift (op : BinOp) (k : IntKind) (a : Int) (yk : IntKind) (b : Int) : Calm P (Op.shift op k a yk b) := by
  unfold Op.shift; dsimp only
  split
  · exact (Dead.runtimePanic _).calm
  · split <;> first | exact Calm.pure _ | exact Calm.stuck _
theorem Calm.intArith (op : BinOp) (k : IntKind) (a b : Int) : Calm P (Op.intArith op k a b) := by
  unfold Op.intArith; split <;> first | exact Calm.pure _ | exact Calm.stuck _
theorem Calm.intDiv (op : BinOp) (k : IntKind) (a b : Int) : Calm P (Op.intDiv op k a b) := by
  unfold Op.intDiv
  split
  · exact (Dead.runtimePanic _).calm
  · split <;> first | exact Calm.pure _ | exact Calm.stuck _
theorem Calm.intBits (op : BinOp) (k : IntKind) (a b : Int) : Calm P (Op.intBits op k a b) := by
  unfold Op.intBits; dsimp only; split <;> first | exact Calm.pure _ | exact Calm.stuck _
theorem Calm.intCmp (op : BinOp) (a b : Int) : Calm P (Op.intCmp op a b) := by
  unfold Op.intCmp; split <;> first | exact Calm.pure _ | exact Calm.stuck _
theorem Calm.stringOp (op : BinOp) (a b : ByteArray) : Calm P (Op.stringOp op a b) := by
  unfold Op.stringOp; dsimp only
  split
  · split
    · exact Calm.unsupported _
    · exact Calm.pure _
  all_goals first | exact Calm.pure _ | exact Calm.stuck _
theorem Calm.guarded (u : Unsupported) (b : Sem Bool) (hb : Calm P b) : Calm P (b >>= fun q => if q = true then Go.unsupported u else Pure.pure ()) :=
  Calm.bind hb fun q _ => by
    cases q
    · exact Calm.pure _
    · exact Calm.unsupported _
theorem Calm.guarded2 (u : Unsupported) (p : Program) (t : TypeId) (b : Sem Bool) (hb : Calm P b) :
    Calm P (if (!p.eqGuardType p.depth t) = true then (Pure.pure () : Sem Unit) else b >>= fun q => if q = true then Go.unsupported u else Pure.pure ()) := by
  by_cases h : (!p.eqGuardType p.depth t) = true
  · rw [if_pos h]; exact Calm.pure _
  · rw [if_neg h]; exact Calm.guarded u b hb
theorem Calm.guarded3 (u : Unsupported) (c : Prop) [Decidable c] (b : Sem Bool) (hb : Calm P b) :
    Calm P (if c then (Pure.pure () : Sem Unit) else b >>= fun q => if q = true then Go.unsupported u else Pure.pure ()) := by
  by_cases h : c
  · rw [if_pos h]; exact Calm.pure _
  · rw [if_neg h]; exact Calm.guarded u b hb
theorem Calm.guardBody (t : TypeId) (x y : Operand) (a b : Value) : Calm P (Go.eqGuard .eql t x y a b) := by
  unfold Go.eqGuard
  show Calm P (match a, b with
    | .nilIface, .nilIface => _
    | .agg _, .agg _ => _
    | _, _ => _)
  split
  · exact Calm.guarded3 _ _ _ (Calm.eqGuardIn _ _ _ _)
  · exact Calm.bind Calm.program fun p hp => Calm.bind Calm.program fun q hq => by
      rw [hp.program, hq.program]; exact Calm.guarded2 _ _ _ _ (Calm.eqGuardIn _ _ _ _)
  · exact Calm.pure _
theorem Calm.eqGuard (op : BinOp) (t : TypeId) (x y : Operand) (a b : Value) : Calm P (Go.eqGuard op t x y a b) := by
  cases op <;> first | exact Calm.guardBody t x y a b | exact Calm.pure _
theorem binOpInt (op : BinOp) (t : TypeId) (k k' : IntKind) (a b : Int) : Calm P (Go.binOp op t (.int k a) (.int k' b)) := by
  cases op <;> simp only [Go.binOp] <;> first
    | exact Calm.shift _ _ _ _ _
    | (split
       · exact Calm.stuck _
       · first | exact Calm.intArith _ _ _ _ | exact Calm.intDiv _ _ _ _ | exact Calm.intBits _ _ _ _ | exact Calm.intCmp _ _ _)
theorem binOpString (op : BinOp) (t : TypeId) (a b : ByteArray) : Calm P (Go.binOp op t (.string a) (.string b)) := by
  cases op <;> simp only [Go.binOp] <;> exact Calm.stringOp _ _ _
theorem binOpEq (op : BinOp) (ho : (match op with | .eql | .neq => true | _ => false) = true) (t : TypeId) (x y : Value) (h : eqOK x y = true) (hx : plainV x = true → plainV y = true → True) : Calm P (Go.binOp op t x y) := by
  have h1 : Calm P (do pure (.bool (← Op.equal t x y)) : Sem Value) := Calm.bind (Calm.equal t x y h) fun _ _ => Calm.pure _
  have h2 : Calm P (do pure (.bool (!(← Op.equal t x y))) : Sem Value) := Calm.bind (Calm.equal t x y h) fun _ _ => Calm.pure _
  cases op <;> first | (cases ho; done) | skip
  all_goals
    cases x <;> cases y <;> first
      | exact h1
      | exact h2
      | exact binOpInt _ _ _ _ _ _
      | exact binOpString _ _ _ _
      | (simp [eqOK, plainV] at h; done)
theorem Calm.binOp (op : BinOp) (t : TypeId) (x y : Value) (h : dynBin op x y = true) : Calm P (Go.binOp op t x y) := by
  unfold dynBin at h
  split at h
  · exact binOpInt _ _ _ _ _ _
  · exact binOpString _ _ _ _
  · rw [Bool.and_eq_true] at h
    exact binOpEq op h.1 t x y h.2 fun _ _ => trivial
theorem Calm.unary (op : UnOp) (x : Value) : Calm P (Op.unary op x) := by
  unfold Op.unary
  split <;> first | exact Calm.pure _ | exact Calm.stuck _ | exact Calm.unsupported _ | exact Calm.intArith _ _ _ _ | exact Calm.intBits _ _ _ _
theorem Calm.unsafePointerInt (s d : TypeId) (k : IntKind) (n : Int) : Calm P (Conv.unsafePointer s d (.int k n)) := by
  unfold Conv.unsafePointer
  refine Calm.bind (Calm.underlying _) fun u _ => Calm.bind (Calm.underlying _) fun v _ => ?_
  split
  all_goals first | exact Calm.stuck _ | exact Calm.unsupported _ | (rename_i e; cases e; done) | skip
  all_goals simp_all
theorem Calm.convert (s d : TypeId) (x : Value) (h : isInt x = true) : Calm P (Go.convert s d x) := by
  cases x <;> first | (cases h; done) | skip
  unfold Go.convert
  refine Calm.bind (Calm.underlying _) fun u _ => Calm.bind (Calm.underlying _) fun v _ => ?_
  split
  all_goals first | exact Calm.pure _ | exact Calm.unsafePointerInt _ _ _ _ | exact Calm.unsupported _ | (rename_i e; cases e; done) | skip
  all_goals simp_all
end
end Go.Proofs.Rg
