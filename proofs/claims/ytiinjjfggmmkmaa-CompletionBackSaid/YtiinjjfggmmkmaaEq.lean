/- queue: arrays of bytes and completions compared with themselves. -/
import Derived.Test.YtiinjjfggmmkmaaCplR
import Derived.ChangeKeysEq
import Derived.Laws.StructEq
namespace Go.Proofs.Ytiinjjfggmmkmaa
set_option linter.unusedVariables false
set_option linter.unusedSimpArgs false
open Go.RowKit

theorem info5 : ∃ i, Try.prog.info? 5 = some i := Option.isSome_iff_exists.1 (by kernel_rfl)
theorem plain5 : Try.prog.plainKey 5 = true := by kernel_rfl
theorem cells5 : Try.prog.cellsOf 5 = 1 := by kernel_rfl

theorem eqItems_bytes (d n : Nat) (a b : Nat → Int) (w : World) : ∀ is : List Nat, (∀ i ∈ is, i < n) →
    (Op.eqItems (d + 1) 5 (Try.prog.cellsOf 5) (arr n fun i => .int .u8 (a i)) (arr n fun i => .int .u8 (b i)) is).run Try.prog w = .ok (is.all fun i => a i == b i) w := by
  intro is
  induction is with
  | nil => intro _; simp [Op.eqItems]
  | cons i is ih =>
    intro h
    have hi := h i (by simp)
    have e1 := run_part_plain (P := Try.prog) (w := w) plain5 (arr_get n (fun i => .int .u8 (a i)) i hi)
    have e2 := run_part_plain (P := Try.prog) (w := w) plain5 (arr_get n (fun i => .int .u8 (b i)) i hi)
    have e3 := run_equalIn_int (P := Try.prog) w d 5 .u8 _ (a i) (b i) Try.underlying5
    rw [cells5] at ih ⊢
    simp only [Op.eqItems, Nat.mul_one, Sem.run_bind, e1, e2, e3, Result.andThen_ok]
    cases hab : (a i == b i)
    · simp [hab]
    · simpa [hab] using ih fun j hj => h j (by simp [hj])

theorem equal16 (a b : Nat → Int) (w : World) : (Op.equalIn 10000 41 (.agg (arr 16 fun i => .int .u8 (a i))) (.agg (arr 16 fun i => .int .u8 (b i)))).run Try.prog w = .ok ((List.range 16).all fun i => a i == b i) w := by
  obtain ⟨i, hi⟩ := info5
  have h := run_equalIn_array (P := Try.prog) (w := w) 9999 (arr 16 fun i => .int .u8 (a i)) (arr 16 fun i => .int .u8 (b i)) Try.underlying41 hi
  exact h.trans (eqItems_bytes 9998 16 a b w _ fun i hi => by simpa using hi)

/-- An array of bytes: it equals itself. -/
structure BytesA (n : Nat) (A : Array Value) : Prop where
  ex : ∃ F : Nat → Int, A = arr n fun j => .int .u8 (F j)
theorem BytesA.size {n : Nat} {A : Array Value} (h : BytesA n A) : A.size = n := by obtain ⟨F, rfl⟩ := h.ex; exact arr_size _ _
theorem BytesA.one {n : Nat} {A : Array Value} (h : BytesA n A) : A.all (·.oneCell') = true := by obtain ⟨F, rfl⟩ := h.ex; exact arr_one fun _ _ => rfl
theorem BytesA.eq16 {A : Array Value} (h : BytesA 16 A) (w : World) : (Op.equalIn 10000 41 (.agg A) (.agg A)).run Try.prog w = .ok true w := by
  obtain ⟨F, rfl⟩ := h.ex; rw [equal16]; simp
theorem BytesA.neq16 {A : Array Value} (h : BytesA 16 A) (w : World) : (binOp .neq 41 (.agg A) (.agg A)).run Try.prog w = .ok (.bool false) w := by
  rw [run_neq_struct, h.eq16]; rfl
theorem BytesA.eql16 {A : Array Value} (h : BytesA 16 A) (w : World) : (binOp .eql 41 (.agg A) (.agg A)).run Try.prog w = .ok (.bool true) w := by
  rw [run_eql_struct, h.eq16]; rfl

theorem info33 : ∃ i, Try.prog.info? 37 = some i := Option.isSome_iff_exists.1 (by kernel_rfl)
theorem plain33 : Try.prog.plainKey 37 = true := by kernel_rfl
theorem cells33 : Try.prog.cellsOf 37 = 1 := by kernel_rfl
theorem eqRes (a b : Int) (w : World) : (Op.equalIn 9999 38 (.agg #[.int .u32 a, .int .u32 b]) (.agg #[.int .u32 a, .int .u32 b])).run Try.prog w = .ok true w := by
  obtain ⟨i, hi⟩ := info33
  refine (run_equalIn_array (P := Try.prog) (w := w) 9998 #[.int .u32 a, .int .u32 b] #[.int .u32 a, .int .u32 b] Try.underlying38 hi).trans ?_
  have e1 : (part 37 #[.int .u32 a, .int .u32 b] 0).run Try.prog w = .ok (.int .u32 a) w := run_part_plain (P := Try.prog) (w := w) plain33 rfl
  have e2 : (part 37 #[.int .u32 a, .int .u32 b] 1).run Try.prog w = .ok (.int .u32 b) w := run_part_plain (P := Try.prog) (w := w) plain33 rfl
  have e3 : (Op.equalIn 9998 37 (.int .u32 a) (.int .u32 a)).run Try.prog w = .ok (a == a) w := run_equalIn_int (P := Try.prog) w 9997 37 .u32 _ a a Try.underlying37
  have e4 : (Op.equalIn 9998 37 (.int .u32 b) (.int .u32 b)).run Try.prog w = .ok (b == b) w := run_equalIn_int (P := Try.prog) w 9997 37 .u32 _ b b Try.underlying37
  rw [cells33]
  rw [show List.range 2 = [0, 1] from rfl]
  simp [Op.eqItems, e1, e2, e3, e4]
set_option maxHeartbeats 2000000 in
theorem neqCpl (c : Cpl) (w : World) : (binOp .neq 40 c.v c.v).run Try.prog w = .ok (.bool false) w := by
  obtain ⟨r0, r1, head, queue, id, ph, ty, code, more, never⟩ := c
  unfold Cpl.v Cpl.cells
  simp only []
  simp [go_sem, eqRes]
set_option maxHeartbeats 2000000 in
theorem eqCpl (c : Cpl) (w : World) : (Op.equalIn 10000 40 c.v c.v).run Try.prog w = .ok true w := by
  obtain ⟨r0, r1, head, queue, id, ph, ty, code, more, never⟩ := c
  unfold Cpl.v Cpl.cells
  simp only []
  simp [go_sem, eqRes]
end Go.Proofs.Ytiinjjfggmmkmaa
