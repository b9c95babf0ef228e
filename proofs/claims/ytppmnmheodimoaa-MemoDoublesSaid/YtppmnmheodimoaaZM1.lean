/- Own texts of this claim, part 2: no condition. -/
import Derived.Test.YtppmnmheodimoaaZM0
section
/- The operations of a region: what runs calmly, stably, or lays new blocks alone, and always yields a value. -/
namespace Go.Proofs.Rg
open Go
set_option linter.unusedVariables false
set_option linter.unusedSimpArgs false
section
variable {P : Program}

def Val (P : Program) (s : Sem Next) : Prop := ∀ n, Gives P s n → ∃ v, n = .value v
theorem Val.wrap (s : Sem Value) : Val P (s >>= fun v => pure (Next.value v)) := fun n h => by
  obtain ⟨v, _, h2⟩ := h.bind
  exact ⟨v, h2.pure⟩
theorem Val.pure (v : Value) : Val P (pure (Next.value v)) := fun n h => ⟨v, h.pure⟩
theorem Calm.wrap {s : Sem Value} (h : Calm P s) : Calm P (s >>= fun v => Pure.pure (Next.value v)) := Calm.bind h fun _ _ => Calm.pure _
theorem Stable.wrap {s : Sem Value} (h : Stable P s) : Stable P (s >>= fun v => pure (Next.value v)) := Stable.bind h fun _ => (Calm.pure _).stable
theorem Grows.wrap {s : Sem Value} (h : Grows P s) : Grows P (s >>= fun v => pure (Next.value v)) := Grows.bind h fun _ => (Calm.pure _).grows

theorem Calm.build (t : TypeId) (parts : Array (Nat × Value)) : Calm P (Instr.build t parts) := by
  unfold Instr.build
  refine Calm.bind (Calm.zeroValue _) fun z _ => ?_
  refine Calm.bind (Calm.underlying _) fun u _ => ?_
  split
  · refine Calm.bind ?_ fun places _ => ?_
    · refine (show ∀ l : Array Field, Calm P (l.mapM fun f => do Pure.pure (f.offset, ← Go.sizeOf f.type)) from fun l => ?_) _
      rw [Array.mapM_eq_foldlM]
      rw [← Array.foldlM_toList]
      generalize (#[] : Array (Nat × Nat)) = init
      generalize l.toList = l
      induction l generalizing init with
      | nil => exact Calm.pure _
      | cons x l ih =>
        rw [List.foldlM_cons]
        exact Calm.bind (Calm.bind (Calm.bind (Calm.sizeOf _) fun _ _ => Calm.pure _) fun _ _ => Calm.pure _) fun _ _ => ih _
    · split
      · exact Calm.pure _
      · exact Calm.stuck _
  · refine Calm.bind (Calm.sizeOf _) fun n _ => ?_
    split
    · exact Calm.pure _
    · exact Calm.stuck _
  · exact Calm.stuck _
theorem Calm.field (t : TypeId) (x : Value) (f : Nat) : Calm P (Instr.field t x f) := by
  unfold Instr.field
  refine Calm.bind (Calm.underlying _) fun u _ => ?_
  split
  · split
    · exact Calm.bind (Calm.asAgg _) fun _ _ => Calm.part _ _ _
    · exact Calm.stuck _
  · exact Calm.stuck _
theorem Calm.indexAt (t : TypeId) (x i : Value) : Calm P (Instr.indexAt t x i) := by
  unfold Instr.indexAt
  refine Calm.bind (Calm.asIntOf _) fun ki _ => ?_
  obtain ⟨k, i⟩ := ki
  dsimp only
  refine Calm.bind (Calm.underlying _) fun u _ => ?_
  have tail : ∀ y : Option Addr × Nat × TypeId, Calm P (do
      let u2 ← Go.underlying t
      match y.fst with
        | some a =>
          if 0 ≤ i ∧ i < ↑y.2.fst then do
            let s ← Go.sizeOf y.2.snd
            Pure.pure (Value.pointer (some (a.add (i.toNat * s))))
          else
            if (decide (y.2.fst ≤ 1) && match u2 with | TypeDesc.array len elem => true | x => false) = true then
              Go.unsupported (Unsupported.noEntry "op/indexAddr.an index out of range at an array of length 0 or 1 (ledger 616)")
            else boundsPanic k i (↑y.2.fst) BoundsCode.index
        | none => boundsPanic k i 0 BoundsCode.index) := by
    rintro ⟨base, len, elem⟩
    refine Calm.bind (Calm.underlying _) fun u2 _ => ?_
    dsimp only
    split
    · split
      · exact Calm.bind (Calm.sizeOf _) fun _ _ => Calm.pure _
      · generalize (decide (len ≤ 1) && _) = q
        cases q
        · exact (Dead.boundsPanic _ _ _ _).calm
        · exact Calm.unsupported _
    · exact (Dead.boundsPanic _ _ _ _).calm
  split
  · exact Calm.bind (Calm.sureAddr _) fun _ _ => Calm.bind (Calm.pure _) fun y _ => tail y
  · exact Calm.bind (Calm.pure _) fun y _ => tail y
  · exact Calm.bind (Calm.stuck _) fun y _ => tail y
theorem Calm.index (t : TypeId) (x i : Value) : Calm P (Instr.index t x i) := by
  unfold Instr.index
  refine Calm.bind (Calm.asIntOf _) fun ki _ => ?_
  obtain ⟨k, i⟩ := ki
  dsimp only
  refine Calm.bind (Calm.underlying _) fun u _ => ?_
  split
  · split
    · exact Calm.bind (Calm.sizeOf _) fun _ _ => Calm.part _ _ _
    · exact (Dead.boundsPanic _ _ _ _).calm
  · split
    · exact Calm.pure _
    · exact (Dead.boundsPanic _ _ _ _).calm
  · exact Calm.stuck _
theorem Calm.extract (t : Value) (i : Nat) : Calm P (Instr.extract t i) := by
  unfold Instr.extract
  split
  · split
    · exact Calm.pure _
    · exact Calm.stuck _
  · exact Calm.stuck _
theorem Calm.sliceBound (x : Value) (y : Nat) (c : BoundsCode) : Calm P (Instr.sliceBound x y c) := by
  unfold Instr.sliceBound
  refine Calm.bind (Calm.asIntOf _) fun ki _ => ?_
  obtain ⟨k, i⟩ := ki
  dsimp only
  split
  · exact Calm.pure _
  · exact (Dead.boundsPanic _ _ _ _).calm
theorem Calm.sliceBounds (b : Bool) (len cap : Nat) (lo hi mx : Option Value) : Calm P (Instr.sliceBounds b len cap lo hi mx) := by
  unfold Instr.sliceBounds
  cases lo <;> cases hi <;> cases mx <;>
    exact Calm.bind (by first | exact Calm.sliceBound _ _ _ | exact Calm.pure _) fun m _ =>
      Calm.bind (by first | exact Calm.sliceBound _ _ _ | exact Calm.pure _ | exact Calm.stuck _) fun h _ =>
      Calm.bind (by first | exact Calm.sliceBound _ _ _ | exact Calm.pure _) fun l _ => Calm.pure _
theorem Calm.slice (t : TypeId) (x : Value) (lo hi mx : Option Value) : Calm P (Instr.slice t x lo hi mx) := by
  unfold Instr.slice
  refine Calm.bind (Calm.underlying _) fun u _ => ?_
  split
  · dsimp only
    split
    · exact (Dead.bind_left _ (Dead.halt _)).calm
    · exact Calm.bind (Calm.sliceBounds _ _ _ _ _ _) fun r _ => Calm.pure _
  · exact Calm.bind (Calm.sliceBounds _ _ _ _ _ _) fun r _ => Calm.bind (Calm.sizeOf _) fun _ _ => Calm.pure _
  · refine Calm.bind (Calm.asAddr _) fun a _ => Calm.bind (Calm.underlying _) fun v _ => ?_
    split
    · exact Calm.bind (Calm.sliceBounds _ _ _ _ _ _) fun r _ => Calm.bind (Calm.sizeOf _) fun _ _ => Calm.pure _
    · exact Calm.stuck _
  · exact Calm.stuck _
theorem Calm.sliceAt (t : TypeId) (x : Value) (lo hi mx : Option Value) : Calm P (Instr.sliceAt t x lo hi mx) := by
  unfold Instr.sliceAt
  refine Calm.bind (Calm.underlying _) fun u _ => ?_
  split
  · exact Calm.bind (Calm.sureAddr _) fun a _ => Calm.bind (Calm.sliceBounds _ _ _ _ _ _) fun r _ => Calm.bind (Calm.sizeOf _) fun _ _ => Calm.pure _
  · exact Calm.slice _ _ _ _ _
theorem Calm.fieldAt (s : TypeId) (x : Value) (f : Nat) (hc : fieldCalm P s f = true) : Calm P (Instr.fieldAt s x f) := by
  unfold Instr.fieldAt
  refine Calm.bind (Calm.underlying _) fun u hu => ?_
  have hu := hu.underlying
  split
  · rename_i fs
    split
    · rename_i fd hfd
      refine Calm.bind (Calm.sureAddr _) fun a _ => ?_
      refine Calm.bind ?_ fun q _ => Calm.pure _
      unfold Go.fieldPlace
      refine Calm.bind (Calm.sizeOf _) fun n hn => ?_
      have hn := hn.sizeOf
      have : n ≠ 0 := by
        simp only [fieldCalm, hu, hfd] at hc
        intro h0
        rw [h0] at hn
        simp [hn] at hc
      rw [if_neg this]
      exact Calm.pure _
    · exact Calm.stuck _
  · exact Calm.stuck _
theorem Calm.lenB (ts : Array TypeId) (ty : TypeId) (args : Array Value) (h : args.toList.all sized = true) : Calm P (Builtin.len_ ts ty args) := by
  unfold Builtin.len_
  rw [List.all_eq_true] at h
  split
  · rename_i t x e
    have hx : sized x = true := h x (Array.mem_toList_iff.2 (Array.mem_of_getElem? (by simp only [Prod.mk.injEq] at e; exact e.2)))
    refine Calm.bind (Calm.underlying _) fun u _ => ?_
    split <;> first | exact Calm.pure _ | exact Calm.stuck _ | (cases hx; done) | skip
    · refine Calm.bind (Calm.underlying _) fun v _ => ?_
      split
      · exact Calm.pure _
      · exact Calm.stuck _
  · exact Calm.stuck _
theorem Calm.capB (ts : Array TypeId) (ty : TypeId) (args : Array Value) (h : args.toList.all sized = true) : Calm P (Builtin.cap_ ts ty args) := by
  unfold Builtin.cap_
  rw [List.all_eq_true] at h
  split
  · rename_i t x e
    have hx : sized x = true := h x (Array.mem_toList_iff.2 (Array.mem_of_getElem? (by simp only [Prod.mk.injEq] at e; exact e.2)))
    refine Calm.bind (Calm.underlying _) fun u _ => ?_
    split <;> first | exact Calm.pure _ | exact Calm.stuck _ | (cases hx; done) | skip
    · refine Calm.bind (Calm.underlying _) fun v _ => ?_
      split
      · exact Calm.pure _
      · exact Calm.stuck _
  · exact Calm.stuck _
theorem max2_int {x y : Value} (hx : isInt x = true) (hy : isInt y = true) : ∃ z, Builtin.max2 x y = pure z ∧ isInt z = true := by
  cases x <;> cases y <;> first | (cases hx; done) | (cases hy; done) | exact ⟨_, rfl, rfl⟩
theorem min2_int {x y : Value} (hx : isInt x = true) (hy : isInt y = true) : ∃ z, Builtin.min2 x y = pure z ∧ isInt z = true := by
  cases x <;> cases y <;> first | (cases hx; done) | (cases hy; done) | exact ⟨_, rfl, rfl⟩
theorem fold_int (f : Value → Value → Sem Value) (hf : ∀ x y, isInt x = true → isInt y = true → ∃ z, f x y = pure z ∧ isInt z = true) :
    ∀ (l : List Value) (x : Value), isInt x = true → (∀ y ∈ l, isInt y = true) → Calm P (l.foldlM f x)
  | [], x, _, _ => Calm.pure _
  | y :: l, x, hx, hl => by
    rw [List.foldlM_cons]
    obtain ⟨z, e, hz⟩ := hf x y hx (hl y (by simp))
    rw [e]
    exact Calm.bind (Calm.pure _) fun a ha => by
      rw [ha.pure]; exact fold_int f hf l z hz fun y hy => hl y (by simp [hy])
theorem Calm.maxB (ts : Array TypeId) (ty : TypeId) (args : Array Value) (h : args.toList.all isInt = true) : Calm P (Builtin.max_ ts ty args) := by
  unfold Builtin.max_
  rw [List.all_eq_true] at h
  split
  · exact Calm.stuck _
  · rename_i x rest e
    have hm : ∀ y ∈ x :: rest, isInt y = true := fun y hy => h y (by rw [← e] at hy; exact hy)
    exact fold_int _ (fun _ _ => max2_int) rest x (hm x (by simp)) fun y hy => hm y (by simp [hy])
theorem Calm.minB (ts : Array TypeId) (ty : TypeId) (args : Array Value) (h : args.toList.all isInt = true) : Calm P (Builtin.min_ ts ty args) := by
  unfold Builtin.min_
  rw [List.all_eq_true] at h
  split
  · exact Calm.stuck _
  · rename_i x rest e
    have hm : ∀ y ∈ x :: rest, isInt y = true := fun y hy => h y (by rw [← e] at hy; exact hy)
    exact fold_int _ (fun _ _ => min2_int) rest x (hm x (by simp)) fun y hy => hm y (by simp [hy])

theorem exec_pure {o : Oper} {ρ : Operand → Value} (hc : cl P o.op = .pure) (hd : dynOp ρ o.op = true) : Calm P (execOp ρ o) ∧ Val P (execOp ρ o) := by
  obtain ⟨dst, op, type, pos, after, guard⟩ := o
  simp only at hc hd
  cases op <;> first | (simp only [cl] at hc; cases hc; done) | skip
  case move x => exact ⟨Calm.pure _, Val.pure _⟩
  case assign x => exact ⟨Calm.pure _, Val.pure _⟩
  case pick c a b => exact ⟨Calm.bind (Calm.asBool _) fun _ _ => Calm.pure _, fun n h => by obtain ⟨v, _, h2⟩ := h.bind; exact ⟨_, h2.pure⟩⟩
  case build t ps => exact ⟨Calm.wrap (Calm.build _ _), Val.wrap _⟩
  case nilCheck x =>
    simp only [dynOp] at hd
    simp only [execOp]
    cases hx : ρ x <;> rw [hx] at hd <;> first | (cases hd; done) | skip
    rename_i q
    cases q
    · exact ⟨(Dead.runtimePanic _).calm, fun n h => (h.dead (Dead.runtimePanic _)).elim⟩
    · exact ⟨Calm.pure _, Val.pure _⟩
  case binOp op xt x y yt => exact ⟨Calm.wrap (Calm.bind (Calm.eqGuard _ _ _ _ _ _) fun _ _ => Calm.binOp _ _ _ _ hd), Val.wrap _⟩
  case unOp op t x => exact ⟨Calm.wrap (Calm.unary _ _), Val.wrap _⟩
  case convert s d x => exact ⟨Calm.wrap (Calm.convert _ _ _ hd), Val.wrap _⟩
  case slice t x lo hi mx => exact ⟨Calm.wrap (Calm.sliceAt _ _ _ _ _), Val.wrap _⟩
  case fieldAddr s x f =>
    have : fieldCalm P s f = true := by
      cases hf : fieldCalm P s f
      · simp only [cl, hf] at hc; cases hc
      · rfl
    exact ⟨Calm.wrap (Calm.fieldAt _ _ _ this), Val.wrap _⟩
  case field t x f => exact ⟨Calm.wrap (Calm.field _ _ _), Val.wrap _⟩
  case indexAddr t x i => exact ⟨Calm.wrap (Calm.indexAt _ _ _), Val.wrap _⟩
  case index t x i => exact ⟨Calm.wrap (Calm.index _ _ _), Val.wrap _⟩
  case extract t i => exact ⟨Calm.wrap (Calm.extract _ _), Val.wrap _⟩
  case call c =>
    obtain ⟨callee, args, ats⟩ := c
    cases callee with
    | builtin b =>
      simp only [cl] at hc
      simp only [dynOp] at hd
      rw [← Array.toList_map] at hd
      cases b <;> first | (simp only [clB] at hc; cases hc; done) | skip
      · exact ⟨Calm.wrap (Calm.capB _ _ _ hd), Val.wrap _⟩
      · exact ⟨Calm.wrap (Calm.lenB _ _ _ hd), Val.wrap _⟩
      · exact ⟨Calm.wrap (Calm.maxB _ _ _ hd), Val.wrap _⟩
      · exact ⟨Calm.wrap (Calm.minB _ _ _ hd), Val.wrap _⟩
    | _ => simp only [cl] at hc; cases hc
theorem Stable.loadCellsFrom (a : Addr) : ∀ (n i : Nat) (acc : Array Value), Stable P (Go.loadCellsFrom a i n acc)
  | 0, i, acc => (Calm.pure _).stable
  | n + 1, i, acc => by
    unfold Go.loadCellsFrom
    exact Stable.bind (Stable.load _) fun v => Stable.loadCellsFrom a n (i + 1) (acc.push v)
theorem Stable.loadAt (t : TypeId) (x : Value) : Stable P (Instr.loadAt t x) := by
  unfold Instr.loadAt
  refine Stable.bind (Calm.sureAddr _).stable fun a => ?_
  unfold Go.loadVar
  refine Stable.bind (Calm.isAgg _).stable fun b => ?_
  split
  · exact Stable.bind (Calm.sizeOf _).stable fun n => Stable.bind (Stable.loadCellsFrom _ _ _ _) fun _ => (Calm.pure _).stable
  · exact Stable.load _
theorem exec_load {o : Oper} {ρ : Operand → Value} (hc : cl P o.op = .load) : Stable P (execOp ρ o) ∧ Val P (execOp ρ o) := by
  obtain ⟨dst, op, type, pos, after, guard⟩ := o
  simp only at hc
  cases op <;> first | (simp only [cl] at hc; cases hc; done) | skip
  case fieldAddr s x f => simp only [cl] at hc; split at hc <;> cases hc
  case load t x => exact ⟨Stable.wrap (Stable.loadAt _ _), Val.wrap _⟩
  case call c =>
    obtain ⟨callee, args, ats⟩ := c
    cases callee with
    | builtin b => simp only [cl] at hc; cases b <;> cases hc
    | _ => simp only [cl] at hc; cases hc
theorem Grows.newVar (t : TypeId) (v : Value) : Grows P (Go.newVar t v) := by
  unfold Go.newVar Go.newRow
  exact Grows.bind (Grows.new _) fun _ => (Calm.pure _).grows
theorem exec_alloc {o : Oper} {ρ : Operand → Value} (hc : cl P o.op = .alloc) : Grows P (execOp ρ o) ∧ Val P (execOp ρ o) := by
  obtain ⟨dst, op, type, pos, after, guard⟩ := o
  simp only at hc
  cases op <;> first | (simp only [cl] at hc; cases hc; done) | skip
  case fieldAddr s x f => simp only [cl] at hc; split at hc <;> cases hc
  case alloc e =>
    refine ⟨Grows.wrap ?_, Val.wrap _⟩
    show Grows P (do let zero ← zeroValue e; pure (Value.pointer (some (← Go.newVar e zero))))
    exact Grows.bind (Calm.zeroValue _).grows fun z => Grows.bind (Grows.newVar _ _) fun _ => (Calm.pure _).grows
  case box e x => exact ⟨Grows.wrap (Grows.bind (Grows.newVar _ _) fun _ => (Calm.pure _).grows), Val.wrap _⟩
  case buildSlice t n ps =>
    refine ⟨Grows.wrap ?_, Val.wrap _⟩
    unfold Instr.buildSlice
    refine Grows.bind (Calm.underlying _).grows fun u => ?_
    split
    · rename_i elem
      refine Grows.bind (Calm.sizeOf _).grows fun size => ?_
      have tail : ∀ zero : Array Value, Grows P (match
          Instr.fill (fun i => some (i * size, size)) (Array.map (fun x => zero[x % zero.size]!) (Array.range (n * size)))
            (Array.map (fun x => match x with | (i, x) => (i, ρ x)) ps).toList with
        | some cells => do
          let a ← newRow elem cells
          pure (Value.slice (some a) n n)
        | x => stuck "buildSlice: a part of the wrong size") := fun zero => by
        split
        · refine Grows.bind (show Grows P (Go.newRow _ _) from ?_) fun _ => (Calm.pure _).grows
          unfold Go.newRow
          exact Grows.bind (Grows.new _) fun _ => (Calm.pure _).grows
        · exact (Calm.stuck _).grows
      dsimp only
      by_cases h1 : n * size > 2 ^ 24
      · rw [if_pos h1]
        exact ((Dead.bind_left _ (Dead.halt _)).calm).grows
      · rw [if_neg h1]
        by_cases h2 : n * size = 0
        · rw [if_pos h2]
          exact Grows.bind (Calm.pure _).grows fun z => tail z
        · rw [if_neg h2]
          exact Grows.bind (Calm.zeroValue _).grows fun z => Grows.bind (Calm.pure _).grows fun z => tail z
    · exact (Calm.stuck _).grows
  case call c =>
    obtain ⟨callee, args, ats⟩ := c
    cases callee with
    | builtin b => simp only [cl] at hc; cases b <;> cases hc
    | _ => simp only [cl] at hc; cases hc
end
end Go.Proofs.Rg
end
