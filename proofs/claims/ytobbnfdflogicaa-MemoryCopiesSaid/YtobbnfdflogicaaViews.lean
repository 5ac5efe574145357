/- memory: what a walk is told of a slice of byte slices, and of a slice of acts, that came in. -/
import Derived.Test.YtobbnfdflogicaaAct
import Derived.Deep.Slices
namespace Go.Proofs.Ytobbnfdflogicaa
open Go.ChangeShapes Go.WideShapes Go.ChangeAt Go.RowKit Go.Deep

/-- The rows of a slice of byte slices. -/
def RowsAt (W : World) (ao : Option Addr) (len : Nat) (A : Nat → Option Addr) (Ln Cp : Nat → Nat) (Z : Nat → List Int) : Prop :=
  ∀ i, i < len → ∃ x, ao = some x ∧ W.cell? (x.add i) = some (.slice (A i) (Ln i) (Cp i)) ∧ IsRow .u8 W (A i) (Ln i) (Cp i) (Z i)

theorem row_of {H : Type} {enc : TypeId × Value → H} {W : World} {n : Nat} {v : Value} {x : DataW H × List MemPlace} (h : DataW.trod enc Try.prog W 0 (fun _ => true) true n 33 [v] = some x) :
    ∃ a l c zs, v = .slice a l c ∧ IsRow .u8 W a l c zs := by
  rcases open_ints Try.underlying33 Try.underlying5 (by kernel_rfl) h with ⟨e3, _⟩ | ⟨x, l, c, zs, e3, _, hlc, hm, hz, _, hcell, hwz⟩
  · obtain ⟨rfl, -⟩ := List.cons.inj e3
    exact ⟨none, 0, 0, [], rfl, .inl ⟨rfl, rfl, rfl, rfl⟩⟩
  · obtain ⟨rfl, -⟩ := List.cons.inj e3
    exact ⟨some x, l, c, zs, rfl, .inr ⟨x, rfl, hlc, hm, by simpa using hz, hcell, hwz⟩⟩

theorem choose_below {α : Type} [Inhabited α] {p : Nat → α → Prop} {n : Nat} (h : ∀ i, i < n → ∃ v, p i v) : ∃ V : Nat → α, ∀ i, i < n → p i (V i) := by
  classical
  refine ⟨fun i => if hi : i < n then (h i hi).choose else default, fun i hi => ?_⟩
  simp only [hi, dif_pos]
  exact (h i hi).choose_spec

theorem rows_view {H : Type} {enc : TypeId × Value → H} {base : Nat} (W : World) (u : Value) (d : DataW H) (p : List MemPlace) (hok : Value.okWide Try.prog W .any base 47 u)
    (h : DataW.Trod enc Try.prog W 0 (fun _ => true) true 47 u d p) :
    ∃ ao len cap A Ln Cp Z, u = .slice ao len cap ∧ RowsAt W ao len A Ln Cp Z := by
  obtain ⟨ao, len, cap, rfl⟩ := okWide_slice Try.underlying47 hok
  obtain ⟨fuel, hf⟩ := h
  rcases open_slice1 Try.underlying47 (by kernel_rfl) hf with ⟨hcs, -⟩ | ⟨a, len', cap', m, n, V, D, Pl, hcs, -, hl, -, hm, -, hx⟩
  · simp [Value.cells] at hcs
    obtain ⟨rfl, rfl, rfl⟩ := hcs
    exact ⟨_, _, _, fun _ => none, fun _ => 0, fun _ => 0, fun _ => [], rfl, fun i hi => by omega⟩
  · simp [Value.cells] at hcs
    obtain ⟨rfl, rfl, rfl⟩ := hcs
    have hmc : m = cap := by simpa using hm
    obtain ⟨Q, hQ⟩ := choose_below (n := len) (α := Option Addr × Nat × Nat × List Int) (p := fun i q => W.cell? (a.add i) = some (.slice q.1 q.2.1 q.2.2.1) ∧ IsRow .u8 W q.1 q.2.1 q.2.2.1 q.2.2.2) (fun i hi => by
      obtain ⟨h1, h2⟩ := hx i (by omega)
      obtain ⟨b, l, c, zs, e, hr⟩ := row_of h2
      exact ⟨(b, l, c, zs), by rw [h1, e], hr⟩)
    exact ⟨_, _, _, fun i => (Q i).1, fun i => (Q i).2.1, fun i => (Q i).2.2.1, fun i => (Q i).2.2.2, rfl, fun i hi => ⟨a, rfl, hQ i hi⟩⟩
end Go.Proofs.Ytobbnfdflogicaa
