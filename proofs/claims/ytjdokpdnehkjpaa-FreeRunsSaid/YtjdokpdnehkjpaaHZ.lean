/- Workers held against each other. -/
import Derived.Test.YtjdokpdnehkjpaaHC
import Derived.Test.YtjdokpdnehkjpaaEY
namespace Go.Proofs.Ytjdokpdnehkjpaa.Ab
open Go Go.RowKit
def wkV (w : Wk) : List Value := [.int .i64 w.pc, .int .i64 w.job, .int .i64 w.r0, .int .i64 w.r1, .int .i64 w.r2, .int .i64 w.r3, .int .i64 w.r4, .int .i64 w.r5, .int .i64 w.r6, .int .i64 w.r7, .bool w.done, .int .i64 w.out]
theorem wk_same (w : Wk) : ceq Try.prog 10 39 (wkV w) (wkV w) = some true := same_of (by kernel_rfl)
theorem wk_agg : isAggT Try.prog 39 = true := by kernel_rfl
theorem wk_guard : Try.prog.eqGuardType Try.prog.depth 39 = false := by kernel_rfl
end Go.Proofs.Ytjdokpdnehkjpaa.Ab
