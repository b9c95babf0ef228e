/- Keys that are arrays of four ints. -/
import Derived.Test.YtgeomalefpjfdaaRows
import Derived.Test.YtgeomalefpjfdaaHp
import Derived.Test.YtgeomalefpjfdaaKy
import Derived.Test.YtgeomalefpjfdaaQs
namespace Go.Proofs.Ytgeomalefpjfdaa
open Go Go.RowKit Go.Proofs.Mp Go.Proofs.Hp Go.Proofs.Qs
def kl (k : K4) : List Int := [k.a, k.b, k.c, k.d]
def kv (k : K4) : Value := .agg #[.int .i64 k.a, .int .i64 k.b, .int .i64 k.c, .int .i64 k.d]
theorem size_int : (Try.prog.info? 3).map (·.size) = some 1 := by kernel_rfl
theorem keys4 : KeysBy Try.prog 57 kv :=
  KeysBy.ints (q := .i64) kl (fun a b h => by cases a; cases b; simpa [kl] using h) (fun _ => rfl) Try.underlying57 Try.underlying3 size_int
theorem equal_k4 (a b : K4) (w : World) : (Op.equal 57 (kv a) (kv b)).run Try.prog w = .ok (decide (a = b)) w := by
  refine (run_equalIn_ints (q := .i64) Try.underlying57 Try.underlying3 size_int 9998 (kl a) (kl b) rfl rfl w).trans ?_
  congr 1
  cases a; cases b; simp [kl]

section
variable (w : World) (a b c d : Value)
theorem index4_0 : (Instr.index 57 (.agg #[a, b, c, d]) (.int .i64 0)).run Try.prog w = .ok a w := by kernel_rfl
theorem index4_1 : (Instr.index 57 (.agg #[a, b, c, d]) (.int .i64 1)).run Try.prog w = .ok b w := by kernel_rfl
theorem index4_2 : (Instr.index 57 (.agg #[a, b, c, d]) (.int .i64 2)).run Try.prog w = .ok c w := by kernel_rfl
theorem index4_3 : (Instr.index 57 (.agg #[a, b, c, d]) (.int .i64 3)).run Try.prog w = .ok d w := by kernel_rfl
end
theorem eq4 (w : World) (a b c d x y z u : Int) : (Op.equalIn 10000 57 (.agg #[.int .i64 a, .int .i64 b, .int .i64 c, .int .i64 d]) (.agg #[.int .i64 x, .int .i64 y, .int .i64 z, .int .i64 u])).run Try.prog w =
    .ok (a == x && (b == y && (c == z && d == u))) w := by
  refine (run_equalIn_ints (q := .i64) Try.underlying57 Try.underlying3 size_int 9998 [a, b, c, d] [x, y, z, u] rfl rfl w).trans ?_
  congr 1
  rw [Bool.eq_iff_iff]; simp
theorem eq4s (w : World) (a b c d x y z u : Int) : (Op.equalIn 9999 57 (.agg #[.int .i64 a, .int .i64 b, .int .i64 c, .int .i64 d]) (.agg #[.int .i64 x, .int .i64 y, .int .i64 z, .int .i64 u])).run Try.prog w =
    .ok (a == x && (b == y && (c == z && d == u))) w := by
  refine (run_equalIn_ints (q := .i64) Try.underlying57 Try.underlying3 size_int 9997 [a, b, c, d] [x, y, z, u] rfl rfl w).trans ?_
  congr 1
  rw [Bool.eq_iff_iff]; simp
attribute [go_sem] eq4 eq4s index4_0 index4_1 index4_2 index4_3
end Go.Proofs.Ytgeomalefpjfdaa
