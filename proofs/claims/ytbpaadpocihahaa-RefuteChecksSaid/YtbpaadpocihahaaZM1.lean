/- Own texts of this claim, part 2: no condition. -/
import Derived.Maps.OwnOps
import Derived.WalkKit
import Derived.WalkSpells
import Derived.WalkLawsBesides
import Derived.Deep.AppendLies
import Derived.Deep.Draws
import Derived.Test.YtbpaadpocihahaaZM0
set_option linter.unusedVariables false
set_option linter.unusedSimpArgs false
section
/- A region that draws its order, walked in the order of the text: the theorem. -/
namespace Go.Proofs.Rg
open Go
set_option linter.unusedVariables false
set_option linter.unusedSimpArgs false

def dynWant (ops : Array Oper) (o : Oper) (a : Act) : Bool := dynOp a.eval o.op || !(Region.wanted o (yielded ops a.tmps))
def dynAll (ops : Array Oper) (a : Act) : Bool := ops.toList.all fun o => dynWant ops o a
/-- A region's end that is reached neither by a panic nor by want of room, with what its operations looked at. -/
def Strict (ops : Array Oper) (K : Act → World → Prop) : Exit → Act → World → Prop
  | .normal, a, w => dynAll ops a = true ∧ K a w
  | _, _, _ => False
def trivialOp : Op → Bool
  | .nilCheck _ | .binOp .. | .convert .. | .lookup .. => false
  | .call { callee := .builtin _, .. } => false
  | _ => true
theorem dynOp_trivial {op : Op} (h : trivialOp op = true) (ρ : Operand → Value) : dynOp ρ op = true := by
  cases op <;> first | rfl | (cases h; done) | skip
  rename_i c
  obtain ⟨callee, args, ats⟩ := c
  cases callee <;> first | rfl | (cases h; done)
def writes (o : Oper) (ts : List Tmp) : Bool := match o.dst with
  | some d => ts.contains d
  | none => false
def clOK (x y : Cl) : Bool := x == .pure || y == .pure || (x == .load && (y == .load || y == .alloc))
def edgesOK (o : Oper) (j : Nat) : Bool := o.after.all fun e => !Region.binds .any e || decide (e.on < j)
def maskOK (b : Array Nat) (o : Oper) (j : Nat) : Bool :=
  (List.range j).all fun i => !(b.getD j 0).testBit i || o.after.any fun e => Region.binds .any e && (e.on == i || (decide (i < e.on) && (b.getD e.on 0).testBit i))
def lookOK (ops : Array Oper) (b : Array Nat) (o : Oper) (j : Nat) : Bool :=
  trivialOp o.op || (List.range ops.size).all fun z => match ops[z]? with
    | some oz => !writes oz (o.looksAt ops) || (decide (z < j) && (b.getD j 0).testBit z)
    | none => true
def pairsOK (P : Program) (ops : Array Oper) (b : Array Nat) (o : Oper) (j : Nat) : Bool :=
  (List.range j).all fun i => (b.getD j 0).testBit i || match ops[i]? with
    | some oi => oi.apart ops o && clOK (cl P oi.op) (cl P o.op)
    | none => true
def sortOKb (P : Program) (ops : Array Oper) (b : Array Nat) : Bool :=
  Region.noSelect ops && (List.range ops.size).all fun j => match ops[j]? with
    | some o => edgesOK o j && maskOK b o j && lookOK ops b o j && pairsOK P ops b o j
    | none => true
def sortOK (P : Program) (ops : Array Oper) : Bool := sortOKb P ops (Region.before ops)

section
variable {P : Program} {ops : Array Oper} {K0 : Act → World → Prop}

theorem Strict.noRoom : ¬ LetsOut (Strict ops K0) := fun ⟨a, w, h⟩ => h

theorem eval_of_tmps {a a' : Act} (h : a'.tmps = a.tmps) (x : Operand) : a'.eval x = a.eval x := by
  cases x <;> simp [Act.eval, h]
theorem looksAt_operand {o : Oper} {x : Operand} (hx : x ∈ o.op.operands) {d : Tmp} (hd : d ∉ o.looksAt ops) : x ≠ .tmp d := fun e => by
  subst e
  exact hd (List.mem_append_left _ (List.mem_filterMap.2 ⟨.tmp d, by simpa using hx, rfl⟩))
theorem dynOp_congr {op : Op} {ρ ρ' : Operand → Value} (h : ∀ x ∈ op.operands, ρ x = ρ' x) : dynOp ρ op = dynOp ρ' op := by
  cases op <;> simp only [Op.operands] at h <;> first | rfl | skip
  case nilCheck x =>
    have e := h x (by simp)
    show (match ρ x with | .pointer _ => true | _ => false) = (match ρ' x with | .pointer _ => true | _ => false)
    rw [e]
  case binOp op t x y yt =>
    show dynBin op (ρ x) (ρ y) = dynBin op (ρ' x) (ρ' y)
    rw [h x (by simp), h y (by simp)]
  case convert s d x =>
    show isInt (ρ x) = isInt (ρ' x)
    rw [h x (by simp)]
  case lookup t m x c =>
    show notPtr (ρ x) = notPtr (ρ' x)
    rw [h x (by simp)]
  case call c =>
    obtain ⟨callee, args, ats⟩ := c
    cases callee <;> first | rfl | skip
    rename_i b
    show dynB b (args.toList.map ρ) = dynB b (args.toList.map ρ')
    rw [List.map_congr_left fun x hx => h x (by simp at hx; simp [Call.operands, hx])]
theorem eval_put' {a : Act} {o : Oper} {dst : Option Tmp} {v : Value} (h : ∀ d, dst = some d → d ∉ o.looksAt ops) {x : Operand} (hx : x ∈ o.op.operands) :
    (a.put dst v).eval x = a.eval x := Act.eval_put fun d hd => looksAt_operand hx (h d hd)
theorem dynWant_put {o : Oper} {a a' : Act} {dst : Option Tmp} {v : Value} (ht : a'.tmps = (a.put dst v).tmps) (h : ∀ d, dst = some d → d ∉ o.looksAt ops) :
    dynWant ops o a' = dynWant ops o a := by
  unfold dynWant
  rw [ht, wanted_put o a dst v h, dynOp_congr (ρ' := a.eval) fun x hx => by rw [eval_of_tmps ht, eval_put' h hx]]
theorem writes_spec {o : Oper} {ts : List Tmp} (h : writes o ts = false) : ∀ d, o.dst = some d → d ∉ ts := fun d hd => by
  simp [writes, hd] at h; exact h

theorem ran {i : Nat} {o : Oper} (hi : ops[i]? = some o) {K : Act → World → Prop} {a : Act} {w : World} (hw : Region.wanted o (yielded ops a.tmps) = true)
    (h : wpOp P ops (Strict ops K0) i K a w) : o.upon P a K (Strict ops K0) ((execOp a.eval o).run P w) ∧ ∃ n w1, (execOp a.eval o).run P w = .ok n w1 := by
  unfold wpOp at h
  simp only [hi, hw, if_true] at h
  rcases h with h | h
  · refine ⟨h, ?_⟩
    unfold Oper.wp at h
    generalize (execOp a.eval o).run P w = r at h
    cases r with
    | ok n w' => exact ⟨n, w', rfl⟩
    | halt x w' => cases x <;> simp only [Oper.upon] at h; exact h.elim
  · exact (Strict.noRoom h.2).elim
theorem reach {i : Nat} {o : Oper} (hi : ops[i]? = some o) {K : Act → World → Prop} {a : Act} {w : World}
    (h : wpOp P ops (Strict ops K0) i K a w) : ∃ v a' w', a'.tmps = (a.put o.dst v).tmps ∧ K a' w' := by
  cases hw : Region.wanted o (yielded ops a.tmps) with
  | false =>
    unfold wpOp at h
    simp only [hi, hw, Bool.false_eq_true, if_false] at h
    exact ⟨_, _, _, rfl, h⟩
  | true =>
    obtain ⟨h, n, w1, hr⟩ := ran hi hw h
    rw [hr] at h
    cases n <;> simp only [Oper.upon] at h
    case value v => exact ⟨_, _, _, rfl, h⟩
    case skip => exact ⟨_, _, _, rfl, h⟩
    case defer d => exact ⟨_, _, _, by rw [← Act.put_defers], h⟩
    case enter f args =>
      obtain ⟨e, w2, fr, hR, _⟩ := h []
      cases e with
      | returned v => exact ⟨_, _, _, rfl, hR⟩
      | panicked c => exact hR.elim
      | outgrown => exact (Strict.noRoom hR).elim
    case row row args =>
      obtain ⟨v, w2, hR, _⟩ := h default []
      exact ⟨_, _, _, rfl, hR⟩
theorem final {o : Oper} {j : Nat} (hj : ops[j]? = some o) : ∀ (l : List Nat) (a : Act) (w : World), wpOps P ops (Strict ops K0) l a w →
    (∀ k ∈ l, ∀ ok, ops[k]? = some ok → writes ok (o.looksAt ops) = false) → dynWant ops o a = true
  | [], a, w, h, _ => by
    have h1 : dynAll ops a = true := h.1
    exact List.all_eq_true.1 h1 o (by simpa using Array.mem_of_getElem? hj)
  | k :: l, a, w, h, hl => by
    rw [wpOps_cons] at h
    cases hk : ops[k]? with
    | none =>
      unfold wpOp at h
      simp only [hk] at h
      exact final hj l a w h fun z hz => hl z (List.mem_cons_of_mem _ hz)
    | some ok =>
      obtain ⟨v, a', w', ht, h'⟩ := reach hk h
      have := final hj l a' w' h' fun z hz => hl z (List.mem_cons_of_mem _ hz)
      rw [dynWant_put ht (writes_spec (hl k (by simp) ok hk))] at this
      exact this

theorem Yields.inv {i : Nat} {o : Oper} {v : Value} {a : Act} (hi : ops[i]? = some o) (hy : Yields P ops o v a) {K : Act → World → Prop} {w : World}
    (h : wpOp P ops (Strict ops K0) i K a w) : K (a.put o.dst v) w := by
  rcases hy with ⟨hw, hv⟩ | ⟨hw, rfl⟩
  · obtain ⟨h, _⟩ := ran hi hw h
    rw [hv w] at h
    exact h
  · unfold wpOp at h
    simp only [hi, hw, Bool.false_eq_true, if_false] at h
    exact h
theorem put_rev {i : Nat} {oi oj : Oper} {v : Value} (hi : ops[i]? = some oi) (hap : oj.apart ops oi = true)
    (hsi : ∀ cs b, oi.op ≠ .select cs b) (hsj : ∀ cs b, oj.op ≠ .select cs b) {K : Act → World → Prop} {a : Act} {w : World}
    (hy : Yields P ops oj v a) (h : wpOp P ops (Strict ops K0) i (fun a' w' => Yields P ops oj v a' → K (a'.put oj.dst v) w') a w) :
    wpOp P ops (Strict ops K0) i K (a.put oj.dst v) w := by
  obtain ⟨h1, h2, h3⟩ := Oper.apart_spec hap
  have keep : ∀ (a : Act), Yields P ops oj v a → ∀ u, Yields P ops oj v (a.put oi.dst u) := fun a hy u =>
    hy.of_same (execOp_put oj hsj a oi.dst u h3) (wanted_put oj a oi.dst u h3)
  have keepD : ∀ d, Yields P ops oj v { a with defers := d :: a.defers } := fun d => hy.of_same rfl rfl
  have comm : ∀ (a : Act) u, (a.put oj.dst v).put oi.dst u = (a.put oi.dst u).put oj.dst v := fun a u => Act.put_comm a v u h2
  cases hw : Region.wanted oi (yielded ops a.tmps) with
  | false =>
    have hw' : Region.wanted oi (yielded ops (a.put oj.dst v).tmps) = false := by rw [wanted_put oi a oj.dst v h1]; exact hw
    unfold wpOp at h ⊢
    simp only [hi, hw, hw', Bool.false_eq_true, if_false] at h ⊢
    rw [comm]
    exact h (keep a hy _)
  | true =>
    have hw' : Region.wanted oi (yielded ops (a.put oj.dst v).tmps) = true := by rw [wanted_put oi a oj.dst v h1]; exact hw
    obtain ⟨h, _⟩ := ran hi hw h
    unfold wpOp
    simp only [hi, hw', if_true]
    refine .inl ?_
    unfold Oper.wp
    rw [execOp_put oi hsi a oj.dst v h1]
    generalize (execOp a.eval oi).run P w = r at h ⊢
    cases r with
    | ok n w' =>
      cases n <;> simp only [Oper.upon] at h ⊢
      case value u => rw [comm]; exact h (keep a hy u)
      case skip => rw [comm]; exact h (keep a hy _)
      case defer d =>
        have := h (keep _ (keepD d) _)
        rw [← Act.put_comm _ v undef h2, ← Act.put_defers] at this
        exact this
      case enter f args =>
        refine Calls.mono h fun e w'' he => ?_
        cases e with
        | returned u => simp only at he ⊢; rw [comm]; exact he (keep a hy u)
        | panicked c => exact he
        | outgrown => exact he
      case row row args => exact Rows.mono h fun u w'' he => by rw [comm]; exact he (keep a hy u)
    | halt x w' =>
      cases x <;> simp only [Oper.upon] at h ⊢
      case panic u => exact h
theorem yields_pure {i : Nat} {o : Oper} (hi : ops[i]? = some o) (hc : cl P o.op = .pure) {K : Act → World → Prop} {a : Act} {w : World}
    (hd : dynWant ops o a = true) (h : wpOp P ops (Strict ops K0) i K a w) : ∃ v, Yields P ops o v a := by
  cases hw : Region.wanted o (yielded ops a.tmps) with
  | false => exact ⟨undef, .inr ⟨hw, rfl⟩⟩
  | true =>
    have hdyn : dynOp a.eval o.op = true := by simpa [dynWant, hw] using hd
    obtain ⟨hcalm, hval⟩ := exec_pure (P := P) hc hdyn
    obtain ⟨_, n, w1, hr⟩ := ran hi hw h
    obtain ⟨v, rfl⟩ := hval n ⟨_, _, hr⟩
    exact ⟨v, .inl ⟨hw, (hcalm _ _ _ hr).2⟩⟩

theorem swap_first {i j : Nat} {oi oj : Oper} (hi : ops[i]? = some oi) (hj : ops[j]? = some oj) (hap : oi.apart ops oj = true)
    (hsi : ∀ cs b, oi.op ≠ .select cs b) (hsj : ∀ cs b, oj.op ≠ .select cs b) {K : Act → World → Prop} {a : Act} {w : World} {v : Value} (hy : Yields P ops oi v a)
    (h : wpOp P ops (Strict ops K0) i (wpOp P ops (Strict ops K0) j K) a w) : wpOp P ops (Strict ops K0) j (wpOp P ops (Strict ops K0) i K) a w :=
  wpOp_mono (fun _ _ ⟨hy', hk⟩ => Yields.wpOp hi hy' hk) (wpOp_put hj hap hsi hsj (fun _ _ _ h => h) hy (Yields.inv hi hy h))
theorem apart_symm {x y : Oper} (h : x.apart ops y = true) : y.apart ops x = true := by
  obtain ⟨h1, h2, h3⟩ := Oper.apart_spec h
  unfold Oper.apart
  cases hx : x.dst <;> cases hy : y.dst
  · rfl
  · rename_i d; have := h3 d hy; simp [this]
  · rename_i d; have := h1 d hx; simp [this]
  · rename_i d e
    have a1 := h1 d hx
    have a3 := h3 e hy
    have a2 := h2 d hx
    have : e ≠ d := fun q => a2 (by rw [hy, q])
    simp [a1, a3, Ne.symm this]
theorem swap_second {i j : Nat} {oi oj : Oper} (hi : ops[i]? = some oi) (hj : ops[j]? = some oj) (hap : oi.apart ops oj = true)
    (hsi : ∀ cs b, oi.op ≠ .select cs b) (hsj : ∀ cs b, oj.op ≠ .select cs b) {K : Act → World → Prop} {a : Act} {w : World} {v : Value} (hy : Yields P ops oj v a)
    (h : wpOp P ops (Strict ops K0) i (wpOp P ops (Strict ops K0) j K) a w) : wpOp P ops (Strict ops K0) j (wpOp P ops (Strict ops K0) i K) a w :=
  Yields.wpOp hj hy (put_rev hi (apart_symm hap) hsi hsj hy (wpOp_mono (fun _ _ hk hy' => Yields.inv hj hy' hk) h))
theorem swap {i j : Nat} {oi oj : Oper} (hi : ops[i]? = some oi) (hj : ops[j]? = some oj) (hap : oi.apart ops oj = true)
    (hsi : ∀ cs b, oi.op ≠ .select cs b) (hsj : ∀ cs b, oj.op ≠ .select cs b) (hcl : clOK (cl P oi.op) (cl P oj.op) = true)
    (hwi : trivialOp oi.op = true ∨ writes oi (oi.looksAt ops) = false) (hwj : trivialOp oj.op = true ∨ writes oj (oj.looksAt ops) = false) {K : Act → World → Prop}
    (hK : ∀ a w, K a w → dynWant ops oi a = true ∧ dynWant ops oj a = true) {a : Act} {w : World}
    (h : wpOp P ops (Strict ops K0) i (wpOp P ops (Strict ops K0) j K) a w) : wpOp P ops (Strict ops K0) j (wpOp P ops (Strict ops K0) i K) a w := by
  obtain ⟨h1, h2, h3⟩ := Oper.apart_spec hap
  obtain ⟨u, a1, w1, ht1, hr1⟩ := reach hi h
  obtain ⟨v, a2, w2, ht2, hr2⟩ := reach hj hr1
  have hdi : dynWant ops oi a = true := by
    rcases hwi with hwi | hwi
    · unfold dynWant; rw [dynOp_trivial hwi]; rfl
    · have := (hK _ _ hr2).1
      rw [dynWant_put ht2 h3, dynWant_put ht1 (writes_spec hwi)] at this
      exact this
  have hdj : dynWant ops oj a1 = true := by
    rcases hwj with hwj | hwj
    · unfold dynWant; rw [dynOp_trivial hwj]; rfl
    · have := (hK _ _ hr2).2
      rw [dynWant_put ht2 (writes_spec hwj)] at this
      exact this
  have hsame : ∀ {v}, Yields P ops oj v a1 → Yields P ops oj v a := fun hy => by
    refine hy.of_same ?_ ?_
    · refine execOp_congr oj hsj fun x hx => ?_
      rw [eval_of_tmps ht1, eval_put' h1 hx]
    · rw [ht1, wanted_put oj a oi.dst u h1]
  cases hci : cl P oi.op with
  | pure => obtain ⟨v, hy⟩ := yields_pure hi hci hdi h; exact swap_first hi hj hap hsi hsj hy h
  | load =>
    cases hwa : Region.wanted oi (yielded ops a.tmps) with
    | false => exact swap_first hi hj hap hsi hsj (.inr ⟨hwa, rfl⟩) h
    | true =>
      have second : cl P oj.op = .pure → wpOp P ops (Strict ops K0) j (wpOp P ops (Strict ops K0) i K) a w := fun hcj => by
        obtain ⟨v, hy⟩ := yields_pure hj hcj hdj hr1; exact swap_second hi hj hap hsi hsj (hsame hy) h
      have both : (∀ n w1 w0, Region.wanted oj (yielded ops a.tmps) = true → (execOp a.eval oj).run P w0 = .ok n w1 → Ext w0 w1 ∧ ∃ v, n = .value v) → wpOp P ops (Strict ops K0) j (wpOp P ops (Strict ops K0) i K) a w := fun hgrow => by
        cases hwb : Region.wanted oj (yielded ops a.tmps) with
        | false => exact swap_second hi hj hap hsi hsj (.inr ⟨hwb, rfl⟩) h
        | true =>
          obtain ⟨hst, hval⟩ := exec_load (P := P) (ρ := a.eval) hci (by simpa [dynWant, hwa] using hdi)
          obtain ⟨hu, n, w1, hr⟩ := ran hi hwa h
          obtain ⟨x, rfl⟩ := hval n ⟨_, _, hr⟩
          obtain ⟨rfl, hlater⟩ := hst _ _ _ hr
          rw [hr] at hu
          have hu : wpOp P ops (Strict ops K0) j K (a.put oi.dst x) w1 := hu
          have hwb' : Region.wanted oj (yielded ops (a.put oi.dst x).tmps) = true := by rw [wanted_put oj a oi.dst x h1]; exact hwb
          obtain ⟨hu2, m, w3, hr3⟩ := ran hj hwb' hu
          rw [execOp_put oj hsj a oi.dst x h1] at hu2 hr3
          obtain ⟨hext, y, rfl⟩ := hgrow _ _ _ hwb hr3
          rw [hr3] at hu2
          have hu2 : K ((a.put oi.dst x).put oj.dst y) w3 := hu2
          unfold wpOp
          simp only [hj, hwb, if_true]
          refine .inl ?_
          unfold Oper.wp
          rw [hr3]
          show (match ops[i]? with
            | none => _
            | some o => _ : Prop)
          have hwa' : Region.wanted oi (yielded ops (a.put oj.dst y).tmps) = true := by rw [wanted_put oi a oj.dst y h3]; exact hwa
          simp only [hi, hwa', if_true]
          refine .inl ?_
          show Oper.upon P oi (a.put oj.dst y) K (Strict ops K0) (Sem.run P (execOp (a.put oj.dst y).eval oi) w3)
          rw [execOp_put oi hsi a oj.dst y h3, hlater _ hext]
          show K _ _
          rw [← Act.put_comm a x y h2]
          exact hu2
      cases hcj : cl P oj.op with
      | pure => exact second hcj
      | load =>
        refine both fun n w1 w0 hwb hr => ?_
        · obtain ⟨hs, hv⟩ := exec_load (P := P) (ρ := a.eval) hcj (by have hdj2 := hdj; rw [dynWant_put ht1 h1] at hdj2; simpa [dynWant, hwb] using hdj2)
          obtain ⟨rfl, _⟩ := hs _ _ _ hr
          exact ⟨Ext.refl _, hv _ ⟨_, _, hr⟩⟩
      | alloc =>
        refine both fun n w1 w0 hwb hr => ?_
        · obtain ⟨hs, hv⟩ := exec_alloc (P := P) (ρ := a.eval) hcj
          exact ⟨hs _ _ _ hr, hv _ ⟨_, _, hr⟩⟩
      | any => rw [hci, hcj] at hcl; cases hcl
  | alloc =>
    cases hcj : cl P oj.op with
    | pure => obtain ⟨v, hy⟩ := yields_pure hj hcj hdj hr1; exact swap_second hi hj hap hsi hsj (hsame hy) h
    | _ => rw [hci, hcj] at hcl; cases hcl
  | any =>
    cases hcj : cl P oj.op with
    | pure => obtain ⟨v, hy⟩ := yields_pure hj hcj hdj hr1; exact swap_second hi hj hap hsi hsj (hsame hy) h
    | _ => rw [hci, hcj] at hcl; cases hcl

/-! ### The bubble -/
structure Checked (P : Program) (ops : Array Oper) (b : Array Nat) : Prop where
  select : Region.noSelect ops = true
  each : ∀ j o, ops[j]? = some o → edgesOK o j = true ∧ maskOK b o j = true ∧ lookOK ops b o j = true ∧ pairsOK P ops b o j = true
theorem Checked.of {b : Array Nat} (h : sortOKb P ops b = true) : Checked P ops b := by
  unfold sortOKb at h
  rw [Bool.and_eq_true] at h
  refine ⟨h.1, fun j o hj => ?_⟩
  have := List.all_eq_true.1 h.2 j (List.mem_range.2 (Array.getElem?_eq_some_iff.1 hj).1)
  simp only [hj, Bool.and_eq_true] at this
  exact ⟨this.1.1.1, this.1.1.2, this.1.2, this.2⟩
variable {b : Array Nat}
/-- what is written by what stands behind is not looked at -/
theorem Checked.look (C : Checked P ops b) {j z : Nat} {o oz : Oper} (hj : ops[j]? = some o) (hz : ops[z]? = some oz) (hn : ¬ (z < j ∧ (b.getD j 0).testBit z = true)) :
    trivialOp o.op = true ∨ writes oz (o.looksAt ops) = false := by
  have h := (C.each j o hj).2.2.1
  unfold lookOK at h
  rw [Bool.or_eq_true] at h
  rcases h with h | h
  · exact .inl h
  · right
    have := List.all_eq_true.1 h z (List.mem_range.2 (Array.getElem?_eq_some_iff.1 hz).1)
    simp only [hz, Bool.or_eq_true, Bool.not_eq_true', Bool.and_eq_true, decide_eq_true_eq] at this
    rcases this with h | h
    · exact h
    · exact absurd h hn
theorem Checked.pair (C : Checked P ops b) {i j : Nat} {oi oj : Oper} (hi : ops[i]? = some oi) (hj : ops[j]? = some oj) (hlt : i < j) (hn : (b.getD j 0).testBit i = false) :
    oi.apart ops oj = true ∧ clOK (cl P oi.op) (cl P oj.op) = true := by
  have := List.all_eq_true.1 (C.each j oj hj).2.2.2 i (List.mem_range.2 hlt)
  simp only [hi, hn, Bool.false_or, Bool.and_eq_true] at this
  exact this
theorem bubble (C : Checked P ops b) {i : Nat} {oi : Oper} (hi : ops[i]? = some oi) (l2 : List Nat) (hl2 : ∀ z ∈ l2, i < z) : ∀ (l1 : List Nat), (l1 ++ i :: l2).Pairwise (· < ·) →
    (∀ z ∈ l1, z < ops.size) → (∀ z ∈ l1, (b.getD i 0).testBit z = false) → ∀ (a : Act) (w : World), wpOps P ops (Strict ops K0) (l1 ++ i :: l2) a w →
    wpOp P ops (Strict ops K0) i (wpOps P ops (Strict ops K0) (l1 ++ l2)) a w
  | [], _, _, _, a, w, h => by simpa [wpOps_cons] using h
  | k :: l1, hs, hlt, hn, a, w, h => by
    simp only [List.cons_append] at h ⊢ hs
    rw [wpOps_cons] at h
    have hs' := List.pairwise_cons.1 hs
    have h := wpOp_mono (fun a w h => bubble C hi l2 hl2 l1 hs'.2 (fun z hz => hlt z (by simp [hz])) (fun z hz => hn z (by simp [hz])) a w h) h
    have hk : ∃ ok, ops[k]? = some ok := ⟨_, Array.getElem?_eq_getElem (hlt k (by simp))⟩
    obtain ⟨ok, hk⟩ := hk
    have hki : k < i := hs'.1 i (by simp)
    obtain ⟨hap, hcl⟩ := C.pair hk hi hki (hn k (by simp))
    have hself : ∀ {j o}, ops[j]? = some o → trivialOp o.op = true ∨ writes o (o.looksAt ops) = false := fun hj => C.look hj hj (by omega)
    refine wpOp_mono (fun a w h => by rw [wpOps_cons]; exact h) (swap hk hi hap (Region.noSelect_spec C.select k ok · · hk) (Region.noSelect_spec C.select i oi · · hi) hcl (hself hk) (hself hi) (fun a w hK => ?_) h)
    have fin : ∀ {j o}, ops[j]? = some o → (∀ z ∈ l1 ++ l2, ¬ (z < j ∧ (b.getD j 0).testBit z = true)) → dynWant ops o a = true := fun {j o} hj hz => by
      cases htr : trivialOp o.op with
      | true => unfold dynWant; rw [dynOp_trivial htr]; rfl
      | false => exact final hj _ a w hK fun z hzm oz hoz => (C.look hj hoz (hz z hzm)).resolve_left (by rw [htr]; exact Bool.false_ne_true)
    refine ⟨fin hk fun z hz hh => ?_, fin hi fun z hz hh => ?_⟩
    · have : k < z := hs'.1 z (by rcases List.mem_append.1 hz with h | h <;> simp [h])
      omega
    · rcases List.mem_append.1 hz with hz | hz
      · rw [hn z (by simp [hz])] at hh; cases hh.2
      · have := hl2 z hz; omega
def Closed (ops : Array Oper) (listed : Array Bool) : Prop := ∀ j o, ops[j]? = some o → listed.getD j true = true → ∀ e ∈ o.after, Region.binds .any e = true → listed.getD e.on false = true
theorem mask_listed (C : Checked P ops b) {listed : Array Bool} (hc : Closed ops listed) (hsz : listed.size = ops.size) : ∀ (d j : Nat) (o : Oper), j = d → ops[j]? = some o →
    (∀ e ∈ o.after, Region.binds .any e = true → listed.getD e.on false = true) → ∀ i, i < j → (b.getD j 0).testBit i = true → listed.getD i false = true := by
  intro d
  induction d using Nat.strongRecOn with
  | _ d ih =>
    intro j o hd hj hall i hij hb
    obtain ⟨he, hm, _, _⟩ := C.each j o hj
    have := List.all_eq_true.1 hm i (List.mem_range.2 hij)
    rw [hb] at this
    simp only [Bool.not_true, Bool.false_or] at this
    obtain ⟨e, hem, h2⟩ := Array.any_eq_true'.1 this
    simp only [Bool.and_eq_true, Bool.or_eq_true, beq_iff_eq, decide_eq_true_eq] at h2
    have hon := hall e hem h2.1
    rcases h2.2 with h3 | h3
    · rw [← h3]; exact hon
    · have hej : e.on < j := by
        have := Array.all_eq_true_iff_forall_mem.1 he e hem
        simp only [h2.1, Bool.not_true, Bool.false_or, decide_eq_true_eq] at this
        exact this
      have hlt : e.on < ops.size := by
        have := (Array.getElem?_eq_some_iff.1 hj).1; omega
      have hoe : ops[e.on]? = some ops[e.on] := Array.getElem?_eq_getElem hlt
      refine ih e.on (by omega) e.on _ rfl hoe (hc _ _ hoe ?_) i h3.1 h3.2
      have : e.on < listed.size := by omega
      simp [this] at hon ⊢; exact hon
theorem any_of_ops (C : Checked P ops b) : ∀ (fuel : Nat) (l : List Nat) (listed : Array Bool) (a : Act) (w : World), l.length = fuel → listed.size = ops.size → l.Pairwise (· < ·) →
    (∀ k, k ∈ l ↔ k < ops.size ∧ listed.getD k true = false) → Closed ops listed → wpOps P ops (Strict ops K0) l a w → wpAny P .any ops (Strict ops K0) fuel listed a w
  | 0, l, listed, a, w, hf, hsz, hs, hm, hc, h => by
    obtain rfl := List.eq_nil_of_length_eq_zero hf
    refine ⟨?_, h⟩
    refine List.eq_nil_iff_forall_not_mem.2 fun j hj => ?_
    obtain ⟨h1, o, h2, _⟩ := mem_ready.1 hj
    have := (hm j).2 ⟨(Array.getElem?_eq_some_iff.1 h2).1, h1⟩
    cases this
  | fuel + 1, l, listed, a, w, hf, hsz, hs, hm, hc, h => by
    refine ⟨fun hr => ?_, fun i hi => ?_⟩
    · exfalso
      cases l with
      | nil => cases hf
      | cons k l =>
        obtain ⟨hk, hkl⟩ := (hm k).1 (by simp)
        have hok : ops[k]? = some ops[k] := Array.getElem?_eq_getElem hk
        have : k ∈ Region.ready .any ops listed := mem_ready.2 ⟨hkl, _, hok, fun e he hb => by
          have hej : e.on < k := by
            have := Array.all_eq_true_iff_forall_mem.1 (C.each k _ hok).1 e he
            simp only [hb, Bool.not_true, Bool.false_or, decide_eq_true_eq] at this
            exact this
          cases hl : listed.getD e.on true with
          | true =>
            have hlt : e.on < listed.size := by omega
            simp [hlt] at hl ⊢; exact hl
          | false =>
            have := (hm e.on).2 ⟨by omega, hl⟩
            rcases List.mem_cons.1 this with h1 | h1
            · omega
            · have := (List.pairwise_cons.1 hs).1 _ h1; omega⟩
        rw [hr] at this
        cases this
    · obtain ⟨h1, oi, h2, hall⟩ := mem_ready.1 hi
      have hin : i < ops.size := (Array.getElem?_eq_some_iff.1 h2).1
      obtain ⟨l1, l2, rfl⟩ := List.append_of_mem ((hm i).2 ⟨hin, h1⟩)
      have hpw := List.pairwise_append.1 hs
      have hnot1 : i ∉ l1 := fun hx => by have := hpw.2.2 i hx i (by simp); omega
      have hnot2 : i ∉ l2 := fun hx => by have := (List.pairwise_cons.1 hpw.2.1).1 i hx; omega
      refine wpOp_mono (fun a w h => any_of_ops C fuel (l1 ++ l2) _ a w ?_ (by simp [hsz]) ?_ (fun k => ?_) ?_ h) (bubble C h2 l2 (fun z hz => (List.pairwise_cons.1 hpw.2.1).1 z hz) l1 hs (fun z hz => ((hm z).1 (by simp [hz])).1) (fun z hz => ?_) a w h)
      · simp at hf ⊢; omega
      · exact hs.sublist (List.Sublist.append (List.Sublist.refl _) (List.sublist_cons_self _ _))
      · by_cases hki : k = i
        · subst hki
          have hlt : k < listed.size := by omega
          simp [hnot1, hnot2, hlt]
        · rw [getD_set_ne true (fun e => hki e.symm), ← hm k]
          simp [hki]
      · intro j o hj hl e he hb
        by_cases hji : j = i
        · subst hji
          have : o = oi := Option.some.inj (hj.symm.trans h2)
          subst this
          exact getD_set_true (hall e he hb)
        · rw [getD_set_ne true (fun e => hji e.symm)] at hl
          exact getD_set_true (hc j o hj hl e he hb)
      · cases ht : (b.getD i 0).testBit z with
        | false => rfl
        | true =>
          exfalso
          have hzi : z < i := hpw.2.2 z hz i (by simp)
          have h3 := mask_listed C hc hsz i i oi rfl h2 hall z hzi ht
          have h4 := ((hm z).1 (by simp [hz])).2
          have hlt : z < listed.size := by omega
          simp [hlt] at h3 h4
          rw [h3] at h4; cases h4
theorem Strict.imp {Q : Exit → Act → World → Prop} : ∀ (e : Exit) (a : Act) (w : World), Strict ops (Q .normal) e a w → Q e a w := fun e a w h => by
  cases e <;> first | exact h.2 | exact h.elim
end
/-- A REGION THAT DRAWS ITS ORDER, WALKED IN THE ORDER OF ITS TEXT. -/
theorem wp_region_text {P : Program} {id : Nat} {l : List Oper} {Q : Exit → Act → World → Prop} {a : Act} {w : World} (hm : P.follows .mixedOrders = true)
    (hc : sortOK P l.toArray = true) (h : wpList P l.toArray (Strict l.toArray (Q .normal)) l a w.drew) : (Code.region id l.toArray true).wp P Q a w := by
  refine Code.wp_mono Strict.imp (wp_region_any hm (any_of_ops (Checked.of hc) _ (List.range l.length) _ a _ (by simp) (by simp) List.pairwise_lt_range (fun k => ?_) ?_ ?_))
  · simp
    intro hk
    rw [Array.getElem?_replicate]
    simp [hk]
  · intro j o hj hl
    have hlt : j < l.length := by have := (Array.getElem?_eq_some_iff.1 hj).1; simpa using this
    rw [Array.getD_eq_getD_getElem?, Array.getElem?_replicate] at hl
    simp [hlt] at hl
  · rw [List.range_eq_range', wpOps_eq_wpList l 0 (by simp)]
    exact h
/-- The end of such a region. -/
theorem Strict.intro {ops : Array Oper} {K : Act → World → Prop} {a : Act} {w : World} (hd : dynAll ops a = true) (h : K a w) : Strict ops K .normal a w := ⟨hd, h⟩
end Go.Proofs.Rg
end

section
/- Maps in the heap as lists of pairs, in the order in which the keys came; whatever keys are compared by their plain values. No condition on a program. -/
namespace Go.Proofs.Mp
open Go
set_option linter.unusedVariables false
set_option linter.unusedSimpArgs false

/-- One operation whose run is known. -/
theorem wpList_run {P : Program} {ops : Array Oper} {rest : List Oper} {o : Oper} {a : Act} {w w' : World} {v : Value} {Q : Exit → Act → World → Prop} (hg : o.guard = none)
    (hrun : (execOp a.eval o).run P w = .ok (.value v) w') (h : wpList P ops Q rest (a.put o.dst v) w') : wpList P ops Q (o :: rest) a w :=
  wpList_plain hg fun K hK => by unfold Oper.wp; rw [hrun]; exact hK _ _ h
theorem wpList_run_skip {P : Program} {ops : Array Oper} {rest : List Oper} {o : Oper} {a : Act} {w w' : World} {Q : Exit → Act → World → Prop} (hg : o.guard = none)
    (hrun : (execOp a.eval o).run P w = .ok .skip w') (h : wpList P ops Q rest (a.put o.dst undef) w') : wpList P ops Q (o :: rest) a w :=
  wpList_plain hg fun K hK => by unfold Oper.wp; rw [hrun]; exact hK _ _ h

/-- How the keys of a type are compared: 'f' spells a key as a value. -/
structure KeysBy (P : Program) (K : TypeId) {κ : Type} [DecidableEq κ] (f : κ → Value) : Prop where
  check : ∀ (e : Bool) (k : κ) (w : World), (Instr.checkKey e 10000 K (f k)).run P w = .ok () w
  find : ∀ (k : κ) (es : List MapEntry) (ks : List κ) (w : World), es.map (·.key) = ks.map f → (Instr.findKey K (f k) es).run P w = .ok ((ks.idxOf? k).bind fun i => (es[i]?).map fun e => (i, e.val)) w
  same : ∀ k, Instr.sameBits 10000 (f k) (f k) = true

section
variable {P : Program} {κ : Type} [DecidableEq κ] {f : κ → Value}
theorem idxOf?_cons (k x : κ) (l : List κ) : (x :: l).idxOf? k = if x = k then some 0 else (l.idxOf? k).map (· + 1) := by
  rw [List.idxOf?_cons]
  by_cases h : x = k
  · simp [h]
  · simp [h]
theorem findAsking_eq {K : TypeId} (heq : ∀ a b w, (Op.equal K (f a) (f b)).run P w = .ok (decide (a = b)) w) (k : κ) : ∀ (es : List MapEntry) (ks : List κ) (i : Nat) (w : World), es.map (·.key) = ks.map f →
    (Instr.findAsking K (f k) es i).run P w = .ok ((ks.idxOf? k).bind fun j => (es[j]?).map fun e => (i + j, e.val)) w
  | [], ks, i, w, h => by
    cases ks with
    | nil => rfl
    | cons => simp at h
  | e :: es, ks, i, w, h => by
    cases ks with
    | nil => simp at h
    | cons x ks =>
      simp only [List.map_cons, List.cons.injEq] at h
      unfold Instr.findAsking
      rw [Sem.run_bind, h.1, heq]
      simp only [Result.andThen_ok]
      rw [idxOf?_cons]
      by_cases hx : k = x
      · subst hx; simp
      · have hx' : ¬ x = k := fun e => hx e.symm
        simp only [hx, hx', decide_false, Bool.false_eq_true, if_false]
        rw [findAsking_eq heq k es ks (i + 1) w h.2]
        cases ks.idxOf? k with
        | none => rfl
        | some j => simp [Nat.add_assoc, Nat.add_comm 1 j]
theorem KeysBy.deep {K : TypeId} {d : TypeDesc} (hu : P.underlying K = some d) (hnow : ∀ k v, Instr.sameNow d (f k) v = none) (heq : ∀ a b w, (Op.equal K (f a) (f b)).run P w = .ok (decide (a = b)) w)
    (hcheck : ∀ (e : Bool) (k : κ) (w : World), (Instr.checkKey e 10000 K (f k)).run P w = .ok () w) (hsame : ∀ k, Instr.sameBits 10000 (f k) (f k) = true) : KeysBy P K f where
  check := hcheck
  same := hsame
  find := fun k es ks w h => by
    unfold Instr.findKey
    have hr : (Go.underlying K).run P w = .ok d w := by unfold Go.underlying; simp [hu]
    rw [Sem.run_bind, hr]
    simp only [Result.andThen_ok]
    cases es with
    | nil =>
      cases ks with
      | nil => rfl
      | cons => simp at h
    | cons e es =>
      simp only [Instr.findNow, hnow]
      have := findAsking_eq heq k (e :: es) ks 0 w h
      simpa using this
theorem findNow_eq {d : TypeDesc} (hnow : ∀ a b, Instr.sameNow d (f a) (f b) = some (decide (a = b))) (k : κ) : ∀ (es : List MapEntry) (ks : List κ) (i : Nat), es.map (·.key) = ks.map f →
    Instr.findNow d (f k) es i = some ((ks.idxOf? k).bind fun j => (es[j]?).map fun e => (i + j, e.val))
  | [], ks, i, h => by
    cases ks with
    | nil => rfl
    | cons => simp at h
  | e :: es, ks, i, h => by
    cases ks with
    | nil => simp at h
    | cons x ks =>
      simp only [List.map_cons, List.cons.injEq] at h
      unfold Instr.findNow
      rw [h.1, hnow, idxOf?_cons]
      by_cases hx : k = x
      · subst hx; simp
      · have hx' : ¬ x = k := fun e => hx e.symm
        simp only [hx, hx', decide_false, if_false]
        rw [findNow_eq hnow k es ks (i + 1) h.2]
        cases ks.idxOf? k with
        | none => rfl
        | some j => simp [Nat.add_assoc, Nat.add_comm 1 j]
theorem KeysBy.now {K : TypeId} {d : TypeDesc} (hu : P.underlying K = some d) (hnow : ∀ a b, Instr.sameNow d (f a) (f b) = some (decide (a = b)))
    (hcheck : ∀ (e : Bool) (k : κ) (w : World), (Instr.checkKey e 10000 K (f k)).run P w = .ok () w) (hsame : ∀ k, Instr.sameBits 10000 (f k) (f k) = true) : KeysBy P K f where
  check := hcheck
  same := hsame
  find := fun k es ks w h => by
    unfold Instr.findKey
    have hr : (Go.underlying K).run P w = .ok d w := by unfold Go.underlying; simp [hu]
    rw [Sem.run_bind, hr]
    simp only [Result.andThen_ok]
    rw [findNow_eq hnow k es ks 0 h]
    simp

/-- Integer keys. -/
theorem KeysBy.int {K : TypeId} {q : IntKind} (hu : P.underlying K = some (.int q)) : KeysBy P K (fun n : Int => Value.int q n) := by
  refine KeysBy.now hu (fun a b => ?_) (fun e k w => ?_) fun k => ?_
  · show (if q = q then some (a == b) else none) = _
    rw [if_pos rfl]; congr 1
  · unfold Instr.checkKey Go.underlying
    simp [hu]
  · simp [Instr.sameBits]

end
/-! ### The map in the heap -/
section
variable {κ ν : Type} {f : κ → Value} {g : ν → Value}
/-- block b is a map that holds the pairs l, in the order of their coming -/
def MapIs (w : World) (b : Nat) (f : κ → Value) (g : ν → Value) (l : List (κ × ν)) : Prop :=
  ∃ es clock, w.heap[b]? = some (.map es clock) ∧ es.toList.map (fun e => (e.key, e.val)) = l.map fun p => (f p.1, g p.2)
theorem MapIs.keys {es : Array MapEntry} {l : List (κ × ν)} (h : es.toList.map (fun e => (e.key, e.val)) = l.map fun p => (f p.1, g p.2)) : es.toList.map (·.key) = (l.map (·.1)).map f := by
  have := congrArg (List.map Prod.fst) h
  simpa [List.map_map, Function.comp_def] using this
theorem MapIs.val {es : Array MapEntry} {l : List (κ × ν)} (h : es.toList.map (fun e => (e.key, e.val)) = l.map fun p => (f p.1, g p.2)) (i : Nat) : (es.toList[i]?).map (·.val) = (l[i]?).map fun p => g p.2 := by
  have := congrArg (fun x : List (Value × Value) => (x[i]?).map Prod.snd) h
  simpa [List.getElem?_map, Option.map_map, Function.comp_def] using this
theorem MapIs.made (w : World) : MapIs { w with heap := w.heap.push (.map #[] 0) } w.heap.size f g [] := ⟨#[], 0, by simp, rfl⟩
theorem MapIs.of_block {w w' : World} {b : Nat} {l : List (κ × ν)} (h : MapIs w b f g l) (he : w'.heap[b]? = w.heap[b]?) : MapIs w' b f g l := by
  obtain ⟨es, clock, hb, hl⟩ := h
  exact ⟨es, clock, he.trans hb, hl⟩
theorem MapIs.lt {w : World} {b : Nat} {l : List (κ × ν)} (h : MapIs w b f g l) : b < w.heap.size := by
  obtain ⟨es, clock, hb, hl⟩ := h
  exact (Array.getElem?_eq_some_iff.1 hb).1
end
section
variable {P : Program} {κ : Type} [DecidableEq κ] {f : κ → Value} {ν : Type} {g : ν → Value}
/-- the pairs with one more, or with another value at a key -/
def put (l : List (κ × ν)) (k : κ) (v : ν) : List (κ × ν) :=
  match (l.map (·.1)).idxOf? k with
  | some i => l.set i (k, v)
  | none => l ++ [(k, v)]
/-- the value at a key -/
def get? (l : List (κ × ν)) (k : κ) : Option ν := ((l.map (·.1)).idxOf? k).bind fun i => (l[i]?).map (·.2)
theorem MapIs.lookup {T K E : TypeId} {w : World} {b : Nat} {l : List (κ × ν)} (h : MapIs w b f g l) (hT : P.underlying T = some (.map K E)) (hK : KeysBy P K f) {z : Value}
    (hz : (zeroValue E).run P w = .ok z w) (k : κ) (c : Bool) :
    (Instr.lookup T (.map (some b)) (f k) c).run P w = .ok (if c then .tuple #[((get? l k).map g).getD z, .bool (get? l k).isSome] else ((get? l k).map g).getD z) w := by
  obtain ⟨es, clock, hb, hl⟩ := h
  unfold Instr.lookup
  have hr : (Go.underlying T).run P w = .ok (.map K E) w := by unfold Go.underlying; simp [hT]
  have hg : (Go.getObj b).run P w = .ok (.map es clock) w := by simp [Go.getObj, Sem.run, hb]
  rw [Sem.run_bind, hr]
  simp only [Result.andThen_ok]
  rw [Sem.run_bind, hg]
  simp only [Result.andThen_ok]
  rw [Sem.run_bind, Sem.run_pure]
  simp only [Result.andThen_ok]
  rw [Sem.run_bind, hK.check]
  simp only [Result.andThen_ok]
  rw [Sem.run_bind, hK.find k es.toList (l.map (·.1)) w (MapIs.keys hl)]
  simp only [Result.andThen_ok]
  unfold get?
  cases hi : (l.map (·.1)).idxOf? k with
  | none => simp [hz]
  | some i =>
    have hv := MapIs.val hl i
    cases he : es.toList[i]? with
    | none =>
      rw [he] at hv
      cases hli : l[i]? with
      | none => simp only [Option.bind_some, he, hli, Option.map_none]; rw [Sem.run_bind, hz]; simp
      | some p => rw [hli] at hv; simp at hv
    | some e =>
      rw [he] at hv
      cases hli : l[i]? with
      | none => rw [hli] at hv; simp at hv
      | some p => rw [hli] at hv; simp at hv; simp only [Option.bind_some, he, hli, Option.map_some]; simp [hv]
theorem MapIs.update {T K E : TypeId} {w : World} {b : Nat} {l : List (κ × ν)} (h : MapIs w b f g l) (hT : P.underlying T = some (.map K E)) (hK : KeysBy P K f) (k : κ) (v : ν) :
    ∃ w', (Instr.mapUpdate T (.map (some b)) (f k) (g v)).run P w = .ok () w' ∧ MapIs w' b f g (put l k v) ∧ (∃ o, w' = { w with heap := w.heap.setIfInBounds b o }) := by
  obtain ⟨es, clock, hb, hl⟩ := h
  have hlt : b < w.heap.size := (Array.getElem?_eq_some_iff.1 hb).1
  unfold Instr.mapUpdate
  have hr : (Go.underlying T).run P w = .ok (.map K E) w := by unfold Go.underlying; simp [hT]
  have hg : (Go.getObj b).run P w = .ok (.map es clock) w := by simp [Go.getObj, Sem.run, hb]
  have hset : ∀ o, (Go.setObj b o).run P w = .ok () { w with heap := w.heap.setIfInBounds b o } := fun o => by simp [Go.setObj, Sem.run, hb]
  rw [Sem.run_bind, hr]
  simp only [Result.andThen_ok]
  rw [Sem.run_bind, hg]
  simp only [Result.andThen_ok]
  rw [Sem.run_bind, hK.check]
  simp only [Result.andThen_ok]
  rw [Sem.run_bind, hK.find k es.toList (l.map (·.1)) w (MapIs.keys hl)]
  simp only [Result.andThen_ok]
  have push : ∃ w', (Go.setObj b (.map (es.push { key := f k, val := g v, born := clock }) (clock + 1))).run P w = .ok () w' ∧ MapIs w' b f g (l ++ [(k, v)]) ∧ (∃ o, w' = { w with heap := w.heap.setIfInBounds b o }) := by
    refine ⟨_, hset _, ⟨_, _, by rw [Array.getElem?_setIfInBounds_self_of_lt hlt], ?_⟩, _, rfl⟩
    simp [hl]
  unfold put
  cases hi : (l.map (·.1)).idxOf? k with
  | none => exact push
  | some i =>
    have hkeys := MapIs.keys hl
    have hsz : es.size = l.length := by have := congrArg List.length hl; simpa using this
    obtain ⟨hil, hki⟩ : ∃ h : i < l.length, (l[i]).1 = k := by
      rw [List.idxOf?_eq_some_iff] at hi
      obtain ⟨h1, h2, _⟩ := hi
      simp at h1 h2
      exact ⟨h1, h2⟩
    have hil' : i < es.toList.length := by simpa [hsz] using hil
    have he : es.toList[i]? = some es.toList[i] := List.getElem?_eq_getElem hil'
    have hke : (es.toList[i]).key = f k := by
      have := congrArg (fun x : List Value => x[i]?) hkeys
      simp only [List.getElem?_map, he] at this
      simp [hil, hki] at this
      simpa using this
    simp only [Option.bind_some, he, Option.map_some]
    have hke' : ((es[i]?).map (·.key)).getD (f k) = f k := by
      have hi3 : i < es.size := by omega
      simp [hi3]
      have := hke
      simpa using this
    rw [Sem.run_bind, hke']
    unfold Instr.keyThatStays
    rw [if_pos (hK.same k)]
    simp only [Sem.run_pure, Result.andThen_ok]
    refine ⟨_, hset _, ⟨_, _, by rw [Array.getElem?_setIfInBounds_self_of_lt hlt], ?_⟩, _, rfl⟩
    simp only [Array.toList_modify, List.map_set]
    apply List.ext_getElem?
    intro j
    have hj := congrArg (fun x : List (Value × Value) => x[j]?) hl
    simp only [List.getElem?_map] at hj ⊢
    rw [List.getElem?_modify, List.getElem?_set]
    by_cases hij : i = j
    · subst hij
      have hi3 : i < es.size := by omega
      simp [hil, hi3]
    · simp only [hij, if_false]
      simp only [List.getElem?_map]
      simpa using hj
end
section
variable {P : Program} {κ ν : Type} {f : κ → Value} {g : ν → Value}
theorem MapIs.len {w : World} {b : Nat} {l : List (κ × ν)} (h : MapIs w b f g l) {T K E : TypeId} (hT : P.underlying T = some (.map K E)) (ty : TypeId) :
    (Builtin.len_ #[T] ty #[.map (some b)]).run P w = .ok (.int .i64 l.length) w := by
  obtain ⟨es, clock, hb, hl⟩ := h
  have hsz : es.size = l.length := by have := congrArg List.length hl; simpa using this
  have hg : (Go.getObj b).run P w = .ok (.map es clock) w := by simp [Go.getObj, Sem.run, hb]
  have hr : (Go.underlying T).run P w = .ok (.map K E) w := by unfold Go.underlying; simp [hT]
  unfold Builtin.len_
  show Sem.run P (Go.underlying T >>= _) w = _
  rw [Sem.run_bind, hr]
  simp only [Result.andThen_ok]
  show Sem.run P (Go.getObj b >>= _) w = _
  rw [Sem.run_bind, hg]
  simp [goInt, hsz]
end
/-! ### At the operations -/
section
variable {P : Program} {κ : Type} [DecidableEq κ] {f : κ → Value} {ν : Type} {g : ν → Value} {ops : Array Oper} {rest : List Oper} {o : Oper} {a : Act} {w : World} {Q : Exit → Act → World → Prop}
theorem exec_lookup {ρ : Operand → Value} {T : TypeId} {m x : Operand} {c : Bool} (ho : o.op = .lookup T m x c) : (execOp ρ o).run P w = ((Instr.lookup T (ρ m) (ρ x) c).run P w).andThen fun v w' => .ok (.value v) w' := by
  unfold execOp; simp only [ho, Sem.run_bind]; rfl
theorem wpList_lookup_hit {T K E : TypeId} {m x : Operand} {b : Nat} {l : List (κ × ν)} {k : κ} {v : ν} {z : Value} {c : Bool} (hg : o.guard = none) (ho : o.op = .lookup T m x c) (hm : a.eval m = .map (some b)) (hx : a.eval x = f k) (h : MapIs w b f g l)
    (hT : P.underlying T = some (.map K E)) (hK : KeysBy P K f) (hz : (zeroValue E).run P w = .ok z w) (hv : get? l k = some v) (hnext : wpList P ops Q rest (a.put o.dst (if c then .tuple #[g v, .bool true] else g v)) w) : wpList P ops Q (o :: rest) a w := by
  refine wpList_run hg ?_ hnext
  rw [exec_lookup ho, hm, hx, h.lookup hT hK hz k c, hv]
  rfl
theorem wpList_lookup_miss {T K E : TypeId} {m x : Operand} {b : Nat} {l : List (κ × ν)} {k : κ} {z : Value} {c : Bool} (hg : o.guard = none) (ho : o.op = .lookup T m x c) (hm : a.eval m = .map (some b)) (hx : a.eval x = f k) (h : MapIs w b f g l)
    (hT : P.underlying T = some (.map K E)) (hK : KeysBy P K f) (hz : (zeroValue E).run P w = .ok z w) (hv : get? l k = none) (hnext : wpList P ops Q rest (a.put o.dst (if c then .tuple #[z, .bool false] else z)) w) : wpList P ops Q (o :: rest) a w := by
  refine wpList_run hg ?_ hnext
  rw [exec_lookup ho, hm, hx, h.lookup hT hK hz k c, hv]
  rfl
theorem wpList_update_is {T K E : TypeId} {m x u : Operand} {b : Nat} {l : List (κ × ν)} {k : κ} {v : ν} (hg : o.guard = none) (ho : o.op = .mapUpdate T m x u) (hm : a.eval m = .map (some b)) (hx : a.eval x = f k) (hu : a.eval u = g v) (h : MapIs w b f g l)
    (hT : P.underlying T = some (.map K E)) (hK : KeysBy P K f) (hnext : ∀ q, MapIs { w with heap := w.heap.setIfInBounds b q } b f g (put l k v) → wpList P ops Q rest (a.put o.dst undef) { w with heap := w.heap.setIfInBounds b q }) : wpList P ops Q (o :: rest) a w := by
  obtain ⟨w', hr, hi, q, rfl⟩ := h.update hT hK k v
  refine wpList_run_skip hg ?_ (hnext q hi)
  unfold execOp
  simp only [ho, hm, hx, hu, Sem.run_bind, hr]
  rfl
end
end Go.Proofs.Mp
end

section
/- What of the heap a call may turn: the blocks of a list, and new ones. No condition on a program. -/
namespace Go.Proofs.Hp
open Go Go.RowKit
set_option linter.unusedVariables false
set_option linter.unusedSimpArgs false

/-- w' is w but for the blocks of F, and for new ones. -/
structure Fr (F : List Nat) (w w' : World) : Prop where
  os : w'.os = w.os
  tape : w'.tape = w.tape
  output : w'.output = w.output
  size : w.heap.size ≤ w'.heap.size
  block : ∀ b, b < w.heap.size → b ∉ F → w'.heap[b]? = w.heap[b]?
theorem Fr.refl (F : List Nat) (w : World) : Fr F w w := ⟨rfl, rfl, rfl, Nat.le_refl _, fun _ _ _ => rfl⟩
theorem Fr.mono {F G : List Nat} {w w' : World} (h : Fr F w w') (hs : ∀ x ∈ F, x ∈ G) : Fr G w w' := ⟨h.os, h.tape, h.output, h.size, fun b hb hn => h.block b hb fun hx => hn (hs b hx)⟩
theorem Fr.trans {F G : List Nat} {a b c : World} (h : Fr F a b) (k : Fr G b c) (hG : ∀ x ∈ G, x ∈ F ∨ a.heap.size ≤ x) : Fr F a c :=
  ⟨k.os.trans h.os, k.tape.trans h.tape, k.output.trans h.output, Nat.le_trans h.size k.size, fun i hi hn =>
    (k.block i (Nat.lt_of_lt_of_le hi h.size) fun hx => by rcases hG i hx with h1 | h1 <;> first | exact hn h1 | omega).trans (h.block i hi hn)⟩
theorem Fr.trans0 {F : List Nat} {a b c : World} (h : Fr F a b) (k : Fr [] b c) : Fr F a c := h.trans k (by simp)
theorem Fr.drew {F : List Nat} {a w : World} (h : Fr F a w) : Fr F a w.drew := ⟨h.os, h.tape, h.output, h.size, h.block⟩
theorem Fr.drewN {F : List Nat} {a w : World} (h : Fr F a w) (n : Nat) : Fr F a (w.drewN n) := ⟨h.os, h.tape, h.output, h.size, h.block⟩
theorem Fr.alloc {F : List Nat} {a w : World} (h : Fr F a w) (o : Obj) : Fr F a (w.alloc o) :=
  h.trans (G := []) ⟨rfl, rfl, rfl, by simp, fun k hk _ => Below.heap_alloc _ _ _ hk⟩ (by simp)
theorem Fr.setCell {F : List Nat} {a w : World} (h : Fr F a w) {p : Addr} (hp : p.block ∈ F ∨ a.heap.size ≤ p.block) (u : Value) : Fr F a (w.setCell p u) :=
  h.trans (G := [p.block]) ⟨rfl, rfl, rfl, by simp [World.setCell], fun k hk hn => Below.heap_setCell _ _ _ _ (by simpa using hn)⟩ (by simpa using hp)
theorem Fr.n {F : List Nat} {a w : World} (h : Fr F a w) (n : Nat) : Fr F a (w.drewN n) := h.drewN n
theorem Fr.d {F : List Nat} {a w : World} (h : Fr F a w) : Fr F a w.drew := h.drew
theorem Fr.a {F : List Nat} {a w : World} (h : Fr F a w) (o : Obj) : Fr F a (w.alloc o) := h.alloc o
theorem Fr.s {F : List Nat} {a w : World} (h : Fr F a w) {p : Addr} (hp : p.block ∈ F ∨ a.heap.size ≤ p.block) (u : Value) : Fr F a (w.setCell p u) := h.setCell hp u
theorem Fr.grown {F : List Nat} {a w w' : World} {row : Option Nat} (h : Fr F a w) (hg : w.grownBy w' row) (hr : ∀ k, row = some k → k ∈ F ∨ a.heap.size ≤ k) : Fr F a w' :=
  h.trans (G := row.toList) ⟨hg.os, hg.tape, hg.output, hg.size, fun k hk hn => hg.block k hk fun e => hn (by simp [← e])⟩ (by intro x hx; exact hr x (by simpa using hx))
theorem Fr.setBlock {F : List Nat} {a w : World} (h : Fr F a w) {b : Nat} (hp : b ∈ F ∨ a.heap.size ≤ b) (o : Obj) : Fr F a { w with heap := w.heap.setIfInBounds b o } :=
  h.trans (G := [b]) ⟨rfl, rfl, rfl, by simp, fun k hk hn => by
    show (w.heap.setIfInBounds b o)[k]? = _
    rw [Array.getElem?_setIfInBounds_ne (by simpa using fun e : b = k => hn (by simp [e]))]⟩ (by simpa using hp)
theorem Fr.below {w w' : World} (h : Fr [] w w') : Below w.heap.size w w' := ⟨h.os, h.tape, h.output, h.size, fun k hk => h.block k hk (by simp)⟩
theorem Fr.cell {F : List Nat} {w w' : World} (h : Fr F w w') {p : Addr} (hp : p.block < w.heap.size) (hn : p.block ∉ F) : w'.cell? p = w.cell? p := World.cell?_of_block (w := w) (h.block p.block hp hn)
theorem Fr.frozen {F : List Nat} {w w' : World} (h : Fr F w w') {p : Addr} (hp : p.block < w.heap.size) (hn : p.block ∉ F) : w'.frozen? p = w.frozen? p := World.frozen?_of_block (w := w) (h.block p.block hp hn)

theorem lt_of_block {w : World} {b : Nat} {o : Obj} (h : w.heap[b]? = some o) : b < w.heap.size := (Array.getElem?_eq_some_iff.1 h).1
theorem owns_of_block {w w' : World} {base e size n : Nat} {v : Value} {xs : List Value} (h : w.ownsRow base e size v n xs) (hb : ∀ g, v.ownBlock = some g → w'.heap[g]? = w.heap[g]?) : w'.ownsRow base e size v n xs := by
  obtain ⟨h1, h2⟩ := h
  refine ⟨h1, ?_⟩
  rcases h2 with h2 | ⟨g, cap, cur, hv, hg, hh, r⟩
  · exact .inl h2
  · exact .inr ⟨g, cap, cur, hv, hg, by rw [hb g (by rw [hv]; rfl)]; exact hh, r⟩
theorem owns_lt {w : World} {base e size n : Nat} {v : Value} {xs : List Value} (h : w.ownsRow base e size v n xs) {g : Nat} (hg : v.ownBlock = some g) : g < w.heap.size := by
  rcases h.2 with ⟨h2, _⟩ | ⟨g', cap, cur, hv, _, hh, _⟩
  · rw [h2] at hg; cases hg
  · rw [hv] at hg; cases hg; exact lt_of_block hh
/-- what a slice value looks like that owns n elements -/
theorem owns_form {w : World} {base e size n : Nat} {v : Value} {xs : List Value} (h : w.ownsRow base e size v n xs) : ∃ a cap, v = .slice a n cap ∧ (0 < n → ∃ g, a = some ⟨g, 0, none⟩) ∧ (a = none → n = 0 ∧ cap = 0) := by
  rcases h.2 with ⟨h2, h0⟩ | ⟨g, cap, cur, hv, _⟩
  · exact ⟨none, 0, by rw [h2, h0], by omega, by omega⟩
  · exact ⟨_, cap, hv, fun _ => ⟨g, rfl⟩, by simp⟩
theorem owns_cell {w : World} {base e size n : Nat} {v : Value} {xs : List Value} (h : w.ownsRow base e size v n xs) {g cap : Nat} (hv : v = .slice (some ⟨g, 0, none⟩) n cap) {j : Nat} {u : Value} (hj : xs[j]? = some u) :
    w.cell? ⟨g, j, none⟩ = some u := by
  rcases h.2 with ⟨h2, h0⟩ | ⟨g', cap', cur, hv', _, hh, _, _, hs, ht⟩
  · rw [h2] at hv; cases hv
  · rw [hv'] at hv
    cases hv
    have hjl : j < xs.length := (List.getElem?_eq_some_iff.1 hj).1
    rw [← ht] at hj
    unfold World.cell?
    rw [hh]
    simp only [Option.isSome_none, Bool.false_eq_true, if_false]
    rw [List.getElem?_take] at hj
    split at hj
    · simpa using hj
    · cases hj
theorem heap_eq_cell {w : World} {b : Nat} {cs : Array Value} {t : TypeId} {fr : Nat × Nat} (h : w.heap[b]? = some (.cells cs t fr)) (j : Nat) : w.cell? ⟨b, j, none⟩ = cs[j]? := by
  unfold World.cell?; rw [h]; rfl
theorem cell_row_add {w : World} {b : Nat} {cs : Array Value} {t : TypeId} {fr : Nat × Nat} (h : w.heap[b]? = some (.cells cs t fr)) (j : Nat) : w.cell? ((⟨b, 0, none⟩ : Addr).add j) = cs[j]? := by
  rw [← heap_eq_cell h j]
  congr 1
  unfold Addr.add
  split
  · rename_i h0; rw [h0]
  · simp
theorem heap_eq_frozen {w : World} {b : Nat} {cs : Array Value} {t : TypeId} (h : w.heap[b]? = some (.cells cs t (0, 0))) (j : Nat) : w.frozen? ⟨b, j, none⟩ = false := by
  unfold World.frozen?; rw [h]; simp
theorem heap_setCell_here {w : World} {b : Nat} {cs : Array Value} {t : TypeId} {fr : Nat × Nat} (h : w.heap[b]? = some (.cells cs t fr)) (j : Nat) (v : Value) : (w.setCell ⟨b, j, none⟩ v).heap[b]? = some (.cells (cs.setIfInBounds j v) t fr) := by
  simp only [World.setCell, Array.getElem?_modify, if_true, h]
  rfl
theorem heap_setCell_else (w : World) (a : Addr) (u : Value) (k : Nat) (h : k ≠ a.block) : (w.setCell a u).heap[k]? = w.heap[k]? := Below.heap_setCell _ _ _ _ h
theorem heap_alloc_else (w : World) (o : Obj) (k : Nat) (h : k < w.heap.size) : (w.alloc o).heap[k]? = w.heap[k]? := Below.heap_alloc _ _ _ h
theorem owns_ge {w : World} {base e size n : Nat} {v : Value} {xs : List Value} (h : w.ownsRow base e size v n xs) {g : Nat} (hg : v.ownBlock = some g) : base ≤ g := by
  rcases h.2 with ⟨h2, _⟩ | ⟨g', cap, cur, hv, hb, _⟩
  · rw [h2] at hg; cases hg
  · rw [hv] at hg; cases hg; exact hb
theorem owns_base {w : World} {base base' e size n : Nat} {v : Value} {xs : List Value} (h : w.ownsRow base e size v n xs) (hb : base' ≤ base) : w.ownsRow base' e size v n xs := by
  obtain ⟨h1, h2⟩ := h
  refine ⟨h1, ?_⟩
  rcases h2 with h2 | ⟨g, cap, cur, hv, hg, r⟩
  · exact .inl h2
  · exact .inr ⟨g, cap, cur, hv, Nat.le_trans hb hg, r⟩
theorem heap_setCell2 (w : World) (g i j : Nat) (u v : Value) {x : Nat} (h : x ≠ g) : ((w.setCell ⟨g, i, none⟩ u).setCell ⟨g, j, none⟩ v).heap[x]? = w.heap[x]? := by
  rw [Below.heap_setCell _ _ _ _ h, Below.heap_setCell _ _ _ _ h]
/-! ### Blocks behind what a call does: for simp only -/
def upd (off : Nat) (v : Value) : Obj → Obj
  | .cells c e f => .cells (c.setIfInBounds off v) e f
  | o => o
theorem hp_drew (w : World) : w.drew.heap = w.heap := rfl
theorem hp_drewN (w : World) (n : Nat) : (w.drewN n).heap = w.heap := rfl
theorem hp_alloc_size (w : World) (o : Obj) : (w.alloc o).heap.size = w.heap.size + 1 := by simp
theorem hp_setCell_size (w : World) (a : Addr) (u : Value) : (w.setCell a u).heap.size = w.heap.size := by simp [World.setCell]
theorem hp_alloc (w : World) (o : Obj) (b : Nat) : (w.alloc o).heap[b]? = if b = w.heap.size then some o else w.heap[b]? := by
  show (w.heap.push o)[b]? = _
  rw [Array.getElem?_push]
theorem hp_setCell (w : World) (g j : Nat) (u : Value) (b : Nat) : (w.setCell ⟨g, j, none⟩ u).heap[b]? = if b = g then (w.heap[b]?).map (upd j u) else w.heap[b]? := by
  simp only [World.setCell, Array.getElem?_modify]
  by_cases h : g = b
  · subst h
    simp only [if_true]
    cases w.heap[g]? with
    | none => rfl
    | some o => cases o <;> rfl
  · rw [if_neg h, if_neg fun e => h e.symm]
theorem oMS {α β : Type} (f : α → β) (a : α) : Option.map f (some a) = some (f a) := rfl
theorem lSZ {α : Type} (a b : α) (l : List α) : (a :: l).set 0 b = b :: l := rfl
theorem lSS {α : Type} (a b : α) (l : List α) (i : Nat) : (a :: l).set (i + 1) b = a :: l.set i b := rfl
theorem upd_cells (off : Nat) (v : Value) (l : List Value) (e : TypeId) (f : Nat × Nat) : upd off v (.cells l.toArray e f) = .cells (l.set off v).toArray e f := by simp [upd]
/-- append of one element that was laid into a block of its own -/
theorem append_new {P : Program} {ops : Array Oper} {rest : List Oper} {o : Oper} {a : Act} {W : World} {Q : Exit → Act → World → Prop} (hgd : o.guard = none) {s x : Operand} {t : TypeId}
    (ho : o.op = .call { callee := .builtin .append, args := #[s, x], argTypes := #[t, t] }) {base e : Nat} {z : Value} {size bytes : Nat} (ht : P.underlying t = some (.slice e)) (hinfo : (P.info? e).map (fun i => (i.zero, i.size, i.bytes)) = some (some z, size, bytes))
    (hzs : z.cells.size = size) (hsz : 0 < size) {v : Value} {n : Nat} {xs : List Value} (hs : a.eval s = v) (hown : W.ownsRow base e size v n xs) {nb c : Nat} {news : List Value} {fr : Nat × Nat} (hx : a.eval x = .slice (some ⟨nb, 0, none⟩) 1 c)
    (hnb : W.heap[nb]? = some (.cells news.toArray e fr)) (hl : news.length = size) (h1 : ∀ u ∈ news, u.oneCell' = true) (h63 : n + 1 ≤ maxLen) (hbytes : (n + 1) * bytes ≤ 140737488355328) (hbase : base ≤ W.heap.size)
    (h : ∀ g cap w', w'.ownsRow base e size (.slice (some ⟨g, 0, none⟩) (n + 1) cap) (n + 1) (xs ++ news) → (∀ b, b < W.heap.size → v.ownBlock ≠ some b → w'.heap[b]? = W.heap[b]?) → Fr v.ownBlock.toList W w' → (v.ownBlock = some g ∨ g = W.heap.size) → g < w'.heap.size →
      wpList P ops Q rest (a.put o.dst (.slice (some ⟨g, 0, none⟩) (n + 1) cap)) w') : wpList P ops Q (o :: rest) a W := by
  obtain ⟨i, hi, hz0, hz1, hz2⟩ := info_parts hinfo
  refine wpList_append_lies W hgd s x t ho base e i z size bytes ht hi hz0 hz1 hz2 hzs hsz v n xs hs hown ⟨nb, 0, none⟩ 1 c news hx (by omega) (fun j u hj => ?_) h1 (by decide) h63 hbytes hbase _ rfl fun g cap w' h1 h2 h3 h4 => h g cap w' h1 (fun b hb hn => h2.block b hb fun e => hn e.symm) ((Fr.refl _ _).grown h2 fun k hk => .inl (by simp [hk])) h3 h4
  rw [cell_row_add hnb j]
  simpa using hj
/-- from here on the world is a letter, of which F is known -/
theorem abs_world {P : Program} {c : Code} {Q : Exit → Act → World → Prop} {a : Act} {w : World} (F : World → Prop) (h : F w) (k : ∀ w, F w → c.wp P Q a w) : c.wp P Q a w := k w h
/-- the world behind reads alone -/
def Drew (w w' : World) : Prop := ∃ n, w' = w.drewN n
theorem Drew.refl (w : World) : Drew w w := ⟨0, rfl⟩
theorem Drew.drew {a w : World} (h : Drew a w) : Drew a w.drew := by obtain ⟨n, rfl⟩ := h; exact ⟨n + 1, rfl⟩
theorem Drew.drewN {a w : World} (h : Drew a w) (n : Nat) : Drew a (w.drewN n) := by obtain ⟨m, rfl⟩ := h; exact ⟨m + n, World.drewN_drewN _ _ _⟩
theorem Drew.trans {a b c : World} (h : Drew a b) (k : Drew b c) : Drew a c := by obtain ⟨n, rfl⟩ := k; exact h.drewN n
theorem Drew.heap {a w : World} (h : Drew a w) : w.heap = a.heap := by obtain ⟨n, rfl⟩ := h; rfl
theorem Drew.fr {a w : World} (h : Drew a w) (F : List Nat) : Fr F a w := by obtain ⟨n, rfl⟩ := h; exact (Fr.refl _ _).drewN n
end Go.Proofs.Hp
end

section
/- Rows that a call owns: a store into one, a new one; more on the heap. No condition on a program. -/
namespace Go.Proofs.Hp
open Go Go.RowKit
set_option linter.unusedVariables false
set_option linter.unusedSimpArgs false
/-- a store into an owned row -/
theorem owns_set {w : World} {base e size n : Nat} {v : Value} {xs : List Value} {g cap j : Nat} (h : w.ownsRow base e size v n xs) (hv : v = .slice (some ⟨g, 0, none⟩) n cap) (hj : j < xs.length) (u : Value) : (w.setCell ⟨g, j, none⟩ u).ownsRow base e size v n (xs.set j u) := by
  obtain ⟨h1, h2⟩ := h
  refine ⟨by rw [List.length_set]; exact h1, ?_⟩
  rcases h2 with ⟨h2, _⟩ | ⟨g', cap', cur, hv', hb, hh, hn, hm, hs, ht⟩
  · rw [h2] at hv; cases hv
  · rw [hv'] at hv
    cases hv
    refine .inr ⟨g, cap, cur.setIfInBounds j u, hv', hb, heap_setCell_here hh j u, hn, hm, by simpa using hs, ?_⟩
    rw [Array.toList_setIfInBounds, List.take_set, ht]
theorem owns_frozen {w : World} {base e size n : Nat} {v : Value} {xs : List Value} {g cap : Nat} (h : w.ownsRow base e size v n xs) (hv : v = .slice (some ⟨g, 0, none⟩) n cap) (j : Nat) : w.frozen? ⟨g, j, none⟩ = false := by
  rcases h.2 with ⟨h2, _⟩ | ⟨g', cap', cur, hv', _, hh, _⟩
  · rw [h2] at hv; cases hv
  · rw [hv'] at hv
    cases hv
    exact heap_eq_frozen hh j
/-- a row made by make or by a literal: a block that holds just its elements -/
theorem owns_mk {w : World} {base e size n : Nat} {xs : List Value} {g cap : Nat} {cur : Array Value} (hg : w.heap[g]? = some (.cells cur e (0, 0))) (hb : base ≤ g) (hn : n ≤ cap) (hm : cap ≤ maxLen) (hs : cur.size = cap * size) (ht : cur.toList.take (n * size) = xs) : w.ownsRow base e size (.slice (some ⟨g, 0, none⟩) n cap) n xs := by
  refine ⟨?_, .inr ⟨g, cap, cur, rfl, hb, hg, hn, hm, hs, ht⟩⟩
  rw [← ht, List.length_take, Array.length_toList, hs]
  exact Nat.min_eq_left (Nat.mul_le_mul_right _ hn)
/-- behind an append to a row that is new since w -/
theorem fr_append {w wr w9 : World} {e size n : Nat} {v : Value} {xs : List Value} (hf : Fr [] w wr) (ho : wr.ownsRow w.heap.size e size v n xs) {o : Obj} (h : Fr v.ownBlock.toList (wr.alloc o) w9) : Fr [] w w9 :=
  (hf.alloc o).trans h fun x hx => .inr (owns_ge ho (by simpa using hx))
theorem heap_new (w : World) (o : Obj) (h : w.heap.size < (w.alloc o).heap.size) : (w.alloc o).heap[w.heap.size] = o := (Array.getElem?_eq_some_iff.1 ((hp_alloc w o _).trans (if_pos rfl))).2
theorem setCell_else (w : World) (a : Addr) (u : Value) {k : Nat} (h : k ≠ a.block) : (w.setCell a u).heap[k]? = w.heap[k]? := Below.heap_setCell _ _ _ _ h
end Go.Proofs.Hp
end
