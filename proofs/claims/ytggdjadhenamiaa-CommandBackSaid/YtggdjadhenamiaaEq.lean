/- arrays of bytes compared with themselves. -/
import Derived.Test.YtggdjadhenamiaaCmdE
import Derived.ChangeKeysEq
import Derived.Laws.StructEq
namespace Go.Proofs.Ytggdjadhenamiaa
set_option linter.unusedVariables false
set_option linter.unusedSimpArgs false
open Go.RowKit

theorem info5 : ∃ i, Try.prog.info? 5 = some i := Option.isSome_iff_exists.1 (by kernel_rfl)
theorem plain5 : Try.prog.plainKey 5 = true := by kernel_rfl
theorem cells5 : Try.prog.cellsOf 5 = 1 := by kernel_rfl

theorem eqItems_bytes (d n : Nat) (a b : Nat → Int) (w : World) : ∀ is : List Nat, (∀ i ∈ is, i < n) →
    (Op.eqItems (d + 1) 5 (Try.prog.cellsOf 5) (arr n fun i => .int .u8 (a i)) (arr n fun i => .int .u8 (b i)) is).run Try.prog w = .ok (is.all fun i => a i == b i) w := by
  intro is
  induction is with
  | nil => intro _; simp [Op.eqItems]
  | cons i is ih =>
    intro h
    have hi := h i (by simp)
    have e1 := run_part_plain (P := Try.prog) (w := w) plain5 (arr_get n (fun i => .int .u8 (a i)) i hi)
    have e2 := run_part_plain (P := Try.prog) (w := w) plain5 (arr_get n (fun i => .int .u8 (b i)) i hi)
    have e3 := run_equalIn_int (P := Try.prog) w d 5 .u8 _ (a i) (b i) Try.underlying5
    rw [cells5] at ih ⊢
    simp only [Op.eqItems, Nat.mul_one, Sem.run_bind, e1, e2, e3, Result.andThen_ok]
    cases hab : (a i == b i)
    · simp [hab]
    · simpa [hab] using ih fun j hj => h j (by simp [hj])

theorem equal64 (a b : Nat → Int) (w : World) : (Op.equalIn 10000 29 (.agg (arr 64 fun i => .int .u8 (a i))) (.agg (arr 64 fun i => .int .u8 (b i)))).run Try.prog w = .ok ((List.range 64).all fun i => a i == b i) w := by
  obtain ⟨i, hi⟩ := info5
  have h := run_equalIn_array (P := Try.prog) (w := w) 9999 (arr 64 fun i => .int .u8 (a i)) (arr 64 fun i => .int .u8 (b i)) Try.underlying29 hi
  exact h.trans (eqItems_bytes 9998 64 a b w _ fun i hi => by simpa using hi)
/-- An array of bytes: it equals itself. -/
structure BytesA (n : Nat) (A : Array Value) : Prop where
  ex : ∃ F : Nat → Int, A = arr n fun j => .int .u8 (F j)
theorem BytesA.size {n : Nat} {A : Array Value} (h : BytesA n A) : A.size = n := by obtain ⟨F, rfl⟩ := h.ex; exact arr_size _ _
theorem BytesA.one {n : Nat} {A : Array Value} (h : BytesA n A) : A.all (·.oneCell') = true := by obtain ⟨F, rfl⟩ := h.ex; exact arr_one fun _ _ => rfl
theorem BytesA.eq64 {A : Array Value} (h : BytesA 64 A) (w : World) : (Op.equalIn 10000 29 (.agg A) (.agg A)).run Try.prog w = .ok true w := by
  obtain ⟨F, rfl⟩ := h.ex; rw [equal64]; simp
theorem BytesA.neq64 {A : Array Value} (h : BytesA 64 A) (w : World) : (binOp .neq 29 (.agg A) (.agg A)).run Try.prog w = .ok (.bool false) w := by
  rw [run_neq_struct, h.eq64]; rfl
theorem BytesA.eql64 {A : Array Value} (h : BytesA 64 A) (w : World) : (binOp .eql 29 (.agg A) (.agg A)).run Try.prog w = .ok (.bool true) w := by
  rw [run_eql_struct, h.eq64]; rfl

theorem info33 : ∃ i, Try.prog.info? 23 = some i := Option.isSome_iff_exists.1 (by kernel_rfl)
end Go.Proofs.Ytggdjadhenamiaa
