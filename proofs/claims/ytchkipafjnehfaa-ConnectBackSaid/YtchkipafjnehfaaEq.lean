/- connect: two arrays of bytes compared. -/
import Derived.Test.YtchkipafjnehfaaL
import Derived.ChangeKeysEq
import Derived.Laws.StructEq
namespace Go.Proofs.Ytchkipafjnehfaa
set_option linter.unusedVariables false
set_option linter.unusedSimpArgs false
open Go.RowKit

theorem info5 : ∃ i, Try.prog.info? 5 = some i := Option.isSome_iff_exists.1 (by kernel_rfl)
theorem plain5 : Try.prog.plainKey 5 = true := by kernel_rfl
theorem cells5 : Try.prog.cellsOf 5 = 1 := by kernel_rfl

theorem eqItems_bytes (d n : Nat) (a b : Nat → Int) (w : World) : ∀ is : List Nat, (∀ i ∈ is, i < n) →
    (Op.eqItems (d + 1) 5 (Try.prog.cellsOf 5) (arr n fun i => .int .u8 (a i)) (arr n fun i => .int .u8 (b i)) is).run Try.prog w = .ok (is.all fun i => a i == b i) w := by
  intro is
  induction is with
  | nil => intro _; simp [Op.eqItems]
  | cons i is ih =>
    intro h
    have hi := h i (by simp)
    have e1 := run_part_plain (P := Try.prog) (w := w) plain5 (arr_get n (fun i => .int .u8 (a i)) i hi)
    have e2 := run_part_plain (P := Try.prog) (w := w) plain5 (arr_get n (fun i => .int .u8 (b i)) i hi)
    have e3 := run_equalIn_int (P := Try.prog) w d 5 .u8 _ (a i) (b i) Try.underlying5
    rw [cells5] at ih ⊢
    simp only [Op.eqItems, Nat.mul_one, Sem.run_bind, e1, e2, e3, Result.andThen_ok]
    cases hab : (a i == b i)
    · simp [hab]
    · simpa [hab] using ih fun j hj => h j (by simp [hj])

theorem equal64 (a b : Nat → Int) (w : World) : (Op.equalIn 10000 43 (.agg (arr 64 fun i => .int .u8 (a i))) (.agg (arr 64 fun i => .int .u8 (b i)))).run Try.prog w = .ok ((List.range 64).all fun i => a i == b i) w := by
  obtain ⟨i, hi⟩ := info5
  have h := run_equalIn_array (P := Try.prog) (w := w) 9999 (arr 64 fun i => .int .u8 (a i)) (arr 64 fun i => .int .u8 (b i)) Try.underlying43 hi
  exact h.trans (eqItems_bytes 9998 64 a b w _ fun i hi => by simpa using hi)

theorem eql64 (a b : Nat → Int) (w : World) : (binOp .eql 43 (.agg (arr 64 fun i => .int .u8 (a i))) (.agg (arr 64 fun i => .int .u8 (b i)))).run Try.prog w = .ok (.bool ((List.range 64).all fun i => a i == b i)) w := by
  rw [run_eql_struct, equal64]; rfl
theorem neq64 (a b : Nat → Int) (w : World) : (binOp .neq 43 (.agg (arr 64 fun i => .int .u8 (a i))) (.agg (arr 64 fun i => .int .u8 (b i)))).run Try.prog w = .ok (.bool (!(List.range 64).all fun i => a i == b i)) w := by
  rw [run_neq_struct, equal64]; rfl

/-- the number of a byte -/
def nb (v : Value) : Int := match v with | .int _ n => n | _ => 0
/-- all bytes -/
def Bytes8 (F : Nat → Value) : Prop := ∀ j, F j = .int .u8 (nb (F j))
theorem Bytes8.put {F : Nat → Value} (h : Bytes8 F) (p n : Nat) (v : Int) : Bytes8 (putF F p n v) := by
  intro j
  unfold putF
  split
  · rfl
  · exact h j
theorem Bytes8.ofHd (f : Fab) (k : Nat) : Bytes8 (hd f k) := by
  intro j
  unfold hd
  split <;> rfl
theorem Bytes8.z8 : Bytes8 z8 := fun _ => rfl
theorem eql64_same {F : Nat → Value} (h : Bytes8 F) (w : World) : (binOp .eql 43 (.agg (arr 64 F)) (.agg (arr 64 F))).run Try.prog w = .ok (.bool true) w := by
  have e : F = fun i => .int .u8 (nb (F i)) := funext h
  rw [e, eql64]
  simp
theorem equal64_same {F : Nat → Value} (h : Bytes8 F) (w : World) : (Op.equalIn 10000 43 (.agg (arr 64 F)) (.agg (arr 64 F))).run Try.prog w = .ok true w := by
  have e : F = fun i => .int .u8 (nb (F i)) := funext h
  rw [e, equal64]
  simp
end Go.Proofs.Ytchkipafjnehfaa
