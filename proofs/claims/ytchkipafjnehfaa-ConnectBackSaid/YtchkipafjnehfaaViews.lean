/- connect: what a walk is told of a slice of bools that came in. -/
import Derived.Test.YtchkipafjnehfaaLib
import Derived.ProofKit
import Derived.OpenShut
import Derived.ShutString
import Derived.ChangeOld
import Derived.Below
import Derived.ChangeSlices
import Derived.Deep.Slices
namespace Go.Proofs.Ytchkipafjnehfaa
set_option linter.unusedVariables false
set_option linter.unusedSimpArgs false
open Go.ChangeShapes Go.WideShapes Go.ChangeAt Go.RowKit Go.Deep

/-- The elements of a slice of bools. -/
def BoolsAt (W : World) (ao : Option Addr) (len : Nat) (B : Nat → Bool) : Prop :=
  len ≤ 9223372036854775807 ∧ ∀ i, i < len → ∃ x, ao = some x ∧ W.cell? (x.add i) = some (.bool (B i))

theorem choose_below {α : Type} [Inhabited α] {p : Nat → α → Prop} {n : Nat} (h : ∀ i, i < n → ∃ v, p i v) : ∃ V : Nat → α, ∀ i, i < n → p i (V i) := by
  classical
  refine ⟨fun i => if hi : i < n then (h i hi).choose else default, fun i hi => ?_⟩
  simp only [hi, dif_pos]
  exact (h i hi).choose_spec

set_option maxRecDepth 100000 in
theorem bools_view {H : Type} {enc : TypeId × Value → H} {base : Nat} (W : World) (u : Value) (d : DataW H) (p : List MemPlace) (hok : Value.okWide Try.prog W .any base 49 u)
    (h : DataW.Trod enc Try.prog W 0 (fun _ => true) true 49 u d p) :
    ∃ ao len cap B, u = .slice ao len cap ∧ BoolsAt W ao len B := by
  obtain ⟨ao, len, cap, rfl⟩ := okWide_slice Try.underlying49 hok
  obtain ⟨fuel, hf⟩ := h
  rcases open_slice1 Try.underlying49 (by kernel_rfl) hf with ⟨hcs, -⟩ | ⟨a, len', cap', m, n, V, D, Pl, hcs, -, hl, hcm, hm, -, hx⟩
  · simp [Value.cells] at hcs
    obtain ⟨rfl, rfl, rfl⟩ := hcs
    exact ⟨_, _, _, fun _ => false, rfl, by omega, fun i hi => by omega⟩
  · simp [Value.cells] at hcs
    obtain ⟨rfl, rfl, rfl⟩ := hcs
    have hmc : m = cap := by simpa using hm
    obtain ⟨Q, hQ⟩ := choose_below (n := len) (α := Bool) (p := fun i q => W.cell? (a.add i) = some (.bool q)) (fun i hi => by
      obtain ⟨h1, h2⟩ := hx i (by omega)
      obtain ⟨b, e, -⟩ := DataW.trod_bool Try.underlying4 h2
      simp at e
      exact ⟨b, by rw [h1, e]⟩)
    have hb : len ≤ 9223372036854775807 := Nat.le_trans hl (by unfold maxLen at hcm; exact hcm)
    exact ⟨_, _, _, Q, rfl, hb, fun i hi => ⟨a, rfl, hQ i hi⟩⟩
end Go.Proofs.Ytchkipafjnehfaa
