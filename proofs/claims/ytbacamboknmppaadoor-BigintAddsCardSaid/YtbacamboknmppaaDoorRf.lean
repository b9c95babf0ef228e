/- A load of a whole struct or array looked at again, for regions walked in segments. -/
import Derived.Test.YtbacamboknmppaaDoorRgE
import Derived.Deep.MidRow
namespace Go.Proofs.Rg
set_option linter.unusedVariables false
set_option linter.unusedSimpArgs false
open Go
theorem again_row {P : Program} {ops : Array Oper} {k : Nat} {o : Oper} {a : Act} {w : World} {T : TypeId} {x : Operand} {b off : Nat} {cs : List Value} {d : TypeDesc} (hk : ops[k]? = some o) (ho : o.op = .load T x)
    (hx : a.eval x = .pointer (some ⟨b, off, none⟩)) (hT : P.underlying T = some d) (hd : d.isRow = true) (hi : (P.info? T).map (·.size) = some cs.length) (hc : w.rangeAt b off cs)
    (hv : (a.put o.dst (.agg cs.toArray)).tmps = a.tmps) : again P ops k a w := by
  intro o' ho' _
  obtain rfl : o = o' := Option.some.inj (hk.symm.trans ho')
  refine ⟨_, ?_, hv⟩
  unfold execOp
  simp only [ho, hx, Sem.run_bind, run_loadAt_mid w b off T cs d hc hT hd hi, Result.andThen_ok]
  rfl
end Go.Proofs.Rg
