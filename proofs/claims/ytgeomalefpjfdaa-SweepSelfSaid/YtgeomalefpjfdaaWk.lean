/- Keys that are nodes. -/
import Derived.Test.YtgeomalefpjfdaaWt
namespace Go.Proofs.Ytgeomalefpjfdaa
open Go Go.RowKit Go.Proofs.Rg Go.Proofs.Mp Go.Proofs.Hp Go.Proofs.Qs
set_option linter.unusedVariables false
theorem stood_quad : Try.prog.stoodInHeld 59 = false := by kernel_rfl
theorem part_quad (a b c d : Value) (w : World) : (Go.part 57 #[a, b, c, d] 0).run Try.prog w = .ok (.agg #[a, b, c, d]) w := by kernel_rfl
theorem equal_quad (a b : K4) (w : World) : (Op.equal 59 (kv a) (kv b)).run Try.prog w = .ok (decide (a = b)) w := by
  show (Op.equalIn (9999 + 1) _ _ _).run _ w = _
  unfold Op.equalIn kv
  rw [Sem.run_bind, run_underlying' Try.underlying59]
  simp only [Result.andThen_ok]
  have h := run_equalIn_ints (q := .i64) Try.underlying57 Try.underlying3 size_int 9997 (kl a) (kl b) rfl rfl w
  have h' : (Op.equalIn 9999 57 (.agg #[.int .i64 a.a, .int .i64 a.b, .int .i64 a.c, .int .i64 a.d]) (.agg #[.int .i64 b.a, .int .i64 b.b, .int .i64 b.c, .int .i64 b.d])).run Try.prog w = .ok (decide (kl a = kl b)) w := h
  have hd : decide (kl a = kl b) = decide (a = b) := by
    cases a; cases b; simp [kl]
  rw [hd] at h'
  simp [Sem.run_bind, part_quad, h']
  by_cases hab : a = b <;> simp [hab]
theorem check_quad (e : Bool) (k : K4) (w : World) : (Instr.checkKey e 10000 59 (kv k)).run Try.prog w = .ok () w := by
  show (Instr.checkKey e (9999 + 1) _ _).run _ w = _
  unfold Instr.checkKey kv
  rw [Sem.run_bind, run_underlying' Try.underlying59]
  simp only [Result.andThen_ok]
  have h := run_checkKey_ints (q := .i64) Try.underlying57 Try.underlying3 size_int 9997 e (kl k) rfl w
  have h' : (Instr.checkKey e 9999 57 (.agg #[.int .i64 k.a, .int .i64 k.b, .int .i64 k.c, .int .i64 k.d])).run Try.prog w = .ok () w := h
  simp [Sem.run_bind, part_quad, h']
theorem keysQ : KeysBy Try.prog 59 kv :=
  KeysBy.deep Try.underlying59 (fun k v => rfl) equal_quad check_quad fun k => sameBits_ints 9999 (kl k)
end Go.Proofs.Ytgeomalefpjfdaa
