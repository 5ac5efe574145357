/- commands compared with themselves. -/
import Derived.Test.YtggdjadhenamiaaKn
import Derived.Test.YtggdjadhenamiaaFlat
import Derived.Test.YtggdjadhenamiaaTypes
import Derived.ChangeKeysEq
namespace Go.Proofs.Ytggdjadhenamiaa
set_option linter.unusedVariables false
set_option linter.unusedSimpArgs false
open Go.RowKit Go.ChangeShapes Go.WideShapes Go.ChangeAt Go.Deep

theorem info_u64 : ∃ i, Try.prog.info? 24 = some i := Option.isSome_iff_exists.1 (by kernel_rfl)
theorem plain_u64 : Try.prog.plainKey 24 = true := by kernel_rfl
theorem cells_u64 : Try.prog.cellsOf 24 = 1 := by kernel_rfl
theorem info_u32 : ∃ i, Try.prog.info? 23 = some i := Option.isSome_iff_exists.1 (by kernel_rfl)
theorem plain_u32 : Try.prog.plainKey 23 = true := by kernel_rfl
theorem cells_u32 : Try.prog.cellsOf 23 = 1 := by kernel_rfl
theorem eqD2 (a b : Int) (w : World) : (Op.equalIn 9999 25 (.agg #[.int .u64 a, .int .u64 b]) (.agg #[.int .u64 a, .int .u64 b])).run Try.prog w = .ok true w := by
  obtain ⟨i, hi⟩ := info_u64
  refine (run_equalIn_array (P := Try.prog) (w := w) 9998 #[.int .u64 a, .int .u64 b] #[.int .u64 a, .int .u64 b] Try.underlying25 hi).trans ?_
  have e1 : (part 24 #[.int .u64 a, .int .u64 b] 0).run Try.prog w = .ok (.int .u64 a) w := run_part_plain (P := Try.prog) (w := w) plain_u64 rfl
  have e2 : (part 24 #[.int .u64 a, .int .u64 b] 1).run Try.prog w = .ok (.int .u64 b) w := run_part_plain (P := Try.prog) (w := w) plain_u64 rfl
  have e3 : ∀ x : Int, (Op.equalIn 9998 24 (.int .u64 x) (.int .u64 x)).run Try.prog w = .ok (x == x) w := fun x => run_equalIn_int (P := Try.prog) w 9997 24 .u64 _ x x Try.underlying24
  rw [cells_u64]
  rw [show List.range 2 = [0, 1] from rfl]
  simp [Op.eqItems, e1, e2, e3]
theorem eqC6 (a b c d e f : Int) (w : World) : (Op.equalIn 9999 26 (.agg #[.int .u32 a, .int .u32 b, .int .u32 c, .int .u32 d, .int .u32 e, .int .u32 f]) (.agg #[.int .u32 a, .int .u32 b, .int .u32 c, .int .u32 d, .int .u32 e, .int .u32 f])).run Try.prog w = .ok true w := by
  obtain ⟨i, hi⟩ := info_u32
  refine (run_equalIn_array (P := Try.prog) (w := w) 9998 _ _ Try.underlying26 hi).trans ?_
  have hp : ∀ (A : Array Value) (i : Nat) (v : Value), A[i]? = some v → (part 23 A i).run Try.prog w = .ok v w := fun A i v h => run_part_plain (P := Try.prog) (w := w) plain_u32 h
  have e3 : ∀ x : Int, (Op.equalIn 9998 23 (.int .u32 x) (.int .u32 x)).run Try.prog w = .ok (x == x) w := fun x => run_equalIn_int (P := Try.prog) w 9997 23 .u32 _ x x Try.underlying23
  rw [cells_u32]
  rw [show List.range 6 = [0, 1, 2, 3, 4, 5] from rfl]
  simp [Op.eqItems, hp _ 0 (.int .u32 a), hp _ 1 (.int .u32 b), hp _ 2 (.int .u32 c), hp _ 3 (.int .u32 d), hp _ 4 (.int .u32 e), hp _ 5 (.int .u32 f), e3]
set_option maxHeartbeats 2000000 in
theorem eqCmd (c : Cmd) (w : World) : (binOp .eql 28 c.v c.v).run Try.prog w = .ok (.bool true) w := by
  obtain ⟨op, fused, sgl, id, nsid, c2, c3, mt, d0, d1, w0, w1, w2, w3, w4, w5⟩ := c
  unfold Cmd.v Cmd.cells
  simp only []
  simp [go_sem, eqD2, eqC6]
end Go.Proofs.Ytggdjadhenamiaa
