/- memory: what a walk is told of a slice of acts, and of two acts by value, that came in. -/
import Derived.Test.YtobbnfdflogicaaViews
import Derived.Test.YtobbnfdflogicaaLHolds
namespace Go.Proofs.Ytobbnfdflogicaa
open Go.ChangeShapes Go.WideShapes Go.ChangeAt Go.RowKit Go.Deep

/-- One act. -/
structure AV where
  what : Int
  n : Int
  addr : Int
  ao : Option Addr
  len : Nat
  cap : Nat
  v : Int
  z : List Int
instance : Inhabited AV := ⟨⟨0, 0, 0, none, 0, 0, 0, []⟩⟩

def AV.cells (x : AV) : List Value := actCells x.what x.n x.addr x.ao x.len x.cap x.v
structure AV.ok (W : World) (x : AV) : Prop where
  what : (Lit.int .i64 x.what).wf = true
  n : (Lit.int .i64 x.n).wf = true
  addr : (Lit.int .u64 x.addr).wf = true
  row : IsRow .u8 W x.ao x.len x.cap x.z

/-- The acts of a slice. -/
def ActsAt (W : World) (ao : Option Addr) (len : Nat) (X : Nat → AV) : Prop :=
  ∀ i, i < len → ∃ g o, ao = some ⟨g, o, none⟩ ∧ (∀ j, j < 5 → W.cell? ⟨g, o + i * 5 + j, none⟩ = (X i).cells[j]?) ∧ (X i).ok W

theorem av_of {H : Type} {enc : TypeId × Value → H} {W : World} {fuel : Nat} {cs : List Value} {x : DataW H × List MemPlace} (h : DataW.trod enc Try.prog W 0 (fun _ => true) true fuel 58 cs = some x) : ∃ X : AV, cs = X.cells ∧ X.ok W := by
  obtain ⟨what, n, addr, ao, len, cap, v, zs, e, h1, h2, h3, h4, -⟩ := act_cells h
  exact ⟨⟨what, n, addr, ao, len, cap, v, zs⟩, e, h1, h2, h3, h4⟩

theorem acts_view {H : Type} {enc : TypeId × Value → H} {base : Nat} (W : World) (u : Value) (d : DataW H) (p : List MemPlace) (hok : Value.okWide Try.prog W .any base 49 u)
    (h : DataW.Trod enc Try.prog W 0 (fun _ => true) true 49 u d p) :
    ∃ ao len cap X, u = .slice ao len cap ∧ ActsAt W ao len X := by
  obtain ⟨ao, len, cap, rfl⟩ := okWide_slice Try.underlying49 hok
  obtain ⟨fuel, hf⟩ := h
  have hc5 : Try.prog.cellsOf 58 = 5 := by kernel_rfl
  rcases open_slice Try.underlying49 hf with ⟨hcs, -⟩ | ⟨a, len', cap', m, n, D, Pl, hcs, -, hl, -, hm, -, hx⟩
  · simp [Value.cells] at hcs
    obtain ⟨rfl, rfl, rfl⟩ := hcs
    exact ⟨_, _, _, default, rfl, fun i hi => by omega⟩
  · simp [Value.cells] at hcs
    obtain ⟨rfl, rfl, rfl⟩ := hcs
    have hmc : m = cap := by simpa using hm
    rw [hc5] at hx
    obtain ⟨X, hX⟩ := choose_below (n := len) (α := AV) (p := fun i X => (∀ j, j < 5 → W.cell? ((a.add (i * 5)).add j) = X.cells[j]?) ∧ X.ok W) (fun i hi => by
      obtain ⟨cs', h1, h2⟩ := hx i (by omega)
      obtain ⟨-, -, h3⟩ := World.cells?_some h1
      obtain ⟨X, rfl, hX⟩ := av_of h2
      exact ⟨X, h3, hX⟩)
    refine ⟨_, _, _, X, rfl, fun i hi => ?_⟩
    obtain ⟨h1, h2⟩ := hX i hi
    have h0 := (hX 0 (by omega)).1 0 (by omega)
    have e0 : (X 0).cells[0]? = some (.int .i64 (X 0).what) := rfl
    rw [e0] at h0
    have ea := addr_of_cell h0
    obtain ⟨g, o, s⟩ := a
    have es : s = none := by
      cases s with
      | none => rfl
      | some s => simp [Addr.add] at ea
    subst es
    refine ⟨g, o, rfl, fun j hj => ?_, h2⟩
    have := h1 j hj
    rw [Addr.add_mid, Addr.add_mid] at this
    exact this

theorem acts2_view {H : Type} {enc : TypeId × Value → H} {base : Nat} (W : World) (u : Value) (d : DataW H) (p : List MemPlace) (hok : Value.okWide Try.prog W .any base 61 u)
    (h : DataW.Trod enc Try.prog W 0 (fun _ => true) true 61 u d p) :
    ∃ X Y : AV, u = .agg (X.cells ++ Y.cells).toArray ∧ (X.ok W ∧ Y.ok W) := by
  have hu : ∃ cs, u = .agg cs ∧ cs.size = Try.prog.cellsOf 61 := by
    simp only [Value.okWide, Try.underlying61] at hok
    obtain ⟨cs, h1, h2, _⟩ := hok
    exact ⟨cs, h1, h2⟩
  obtain ⟨cs, rfl, hsz⟩ := hu
  obtain ⟨fuel, hf⟩ := h
  obtain ⟨xs, m, -, hcs, hl, hlen, hf⟩ := DataW.trod_array Try.underlying61 hf
  have hc5 : Try.prog.cellsOf 58 = 5 := by kernel_rfl
  have hc10 : Try.prog.cellsOf 61 = 10 := by kernel_rfl
  rw [hc10] at hsz
  rw [hc5] at hf
  have e3 : (Value.agg cs).cells.toList = cs.toList := rfl
  rw [e3] at hf
  have h0 := hf 0 (by omega)
  have h1 := hf 1 (by omega)
  rw [List.getElem?_eq_getElem (by omega)] at h0 h1
  obtain ⟨X, eX, hX⟩ := av_of h0
  obtain ⟨Y, eY, hY⟩ := av_of h1
  refine ⟨X, Y, ?_, hX, hY⟩
  have hl10 : cs.toList.length = 10 := by rw [Array.length_toList]; exact hsz
  have e : cs.toList = X.cells ++ Y.cells := by
    rw [← eX, ← eY]
    simp only [Nat.zero_mul, List.drop_zero, Nat.one_mul]
    rw [List.take_of_length_le (l := cs.toList.drop 5) (by rw [List.length_drop]; omega), List.take_append_drop]
  rw [← e]
end Go.Proofs.Ytobbnfdflogicaa
