/- sgl: descriptors and cells of a list that came in. -/
import Derived.Test.YtcljbmkdflkeeaaFlat
import Derived.Test.YtcljbmkdflkeeaaSN
namespace Go.Proofs.Ytcljbmkdflkeeaa
set_option linter.unusedVariables false
set_option linter.unusedSimpArgs false
open Go.ChangeShapes Go.WideShapes Go.ChangeAt Go.RowKit Go.Deep

def lI64 : Leaf := some (some .i64)
def lU8 : Leaf := some (some .u8)
def lU32 : Leaf := some (some .u32)
def lU64 : Leaf := some (some .u64)
theorem flI64 : FlatT Try.prog 3 [lI64] := FlatT.int Try.underlying3 (by kernel_rfl)
theorem flK : FlatT Try.prog 22 [lI64] := FlatT.int Try.underlying22 (by kernel_rfl)
theorem flU8 : FlatT Try.prog 5 [lU8] := FlatT.int Try.underlying5 (by kernel_rfl)
theorem flU32 : FlatT Try.prog 24 [lU32] := FlatT.int Try.underlying24 (by kernel_rfl)
theorem flU64 : FlatT Try.prog 23 [lU64] := FlatT.int Try.underlying23 (by kernel_rfl)
def lsDsc : List Leaf := [lI64, lU64, lI64, lU32]
theorem flDsc : FlatT Try.prog 26 lsDsc :=
  FlatT.struct [(0, [lI64]), (1, [lU64]), (2, [lI64]), (3, [lU32])] Try.underlying26 (by kernel_rfl)
    (fun i s hs => by
      match i, hs with
      | 0, hs => cases hs; exact ⟨_, rfl, rfl, flK⟩
      | 1, hs => cases hs; exact ⟨_, rfl, rfl, flU64⟩
      | 2, hs => cases hs; exact ⟨_, rfl, rfl, flI64⟩
      | 3, hs => cases hs; exact ⟨_, rfl, rfl, flU32⟩
      | n + 4, hs => simp at hs) (by decide)
def lsCel : List Leaf := lsDsc ++ [lU64, lU8]
theorem flCel : FlatT Try.prog 94 lsCel :=
  FlatT.struct [(0, lsDsc), (4, [lU64]), (5, [lU8])] Try.underlying94 (by kernel_rfl)
    (fun i s hs => by
      match i, hs with
      | 0, hs => cases hs; exact ⟨_, rfl, rfl, flDsc⟩
      | 1, hs => cases hs; exact ⟨_, rfl, rfl, flU64⟩
      | 2, hs => cases hs; exact ⟨_, rfl, rfl, flU8⟩
      | n + 3, hs => simp at hs) (by decide)
def vN (v : Value) : Int := match v with | .int _ n => n | _ => 0
theorem leaf_int {k : IntKind} {v : Value} (h : leafOk (some (some k)) v) : v = .int k (vN v) ∧ (Lit.int k (vN v)).wf = true := by
  obtain ⟨n, rfl, hw⟩ := h
  exact ⟨rfl, hw⟩
def dscOf (V : Nat → Value) : Dsc := ⟨vN (V 0), vN (V 1), vN (V 2), vN (V 3)⟩
theorem dscOf_spec {V : Nat → Value} (h : ∀ (j : Nat) l, lsDsc[j]? = some l → leafOk l (V j)) : (∀ j, j < 4 → (dscOf V).cells[j]? = some (V j)) ∧ (dscOf V).Ok := by
  have h0 := leaf_int (h 0 lI64 rfl)
  have h1 := leaf_int (h 1 lU64 rfl)
  have h2 := leaf_int (h 2 lI64 rfl)
  have h3 := leaf_int (h 3 lU32 rfl)
  refine ⟨fun j hj => ?_, ⟨wf_i64 h0.2, wf_u64 h1.2, wf_i64 h2.2, wf_u32 h3.2⟩⟩
  match j, hj with
  | 0, _ => exact congrArg some h0.1.symm
  | 1, _ => exact congrArg some h1.1.symm
  | 2, _ => exact congrArg some h2.1.symm
  | 3, _ => exact congrArg some h3.1.symm
theorem arr_eq {A : Array Value} {n : Nat} {V : Nat → Value} (hs : A.size = n) (h : ∀ j, j < n → A[j]? = some (V j)) : arr n V = A := by
  apply Array.ext_getElem?
  intro j
  by_cases hj : j < n
  · rw [h j hj]; simp [arr, hj]
  · rw [Array.getElem?_eq_none (by simp [arr]; omega), Array.getElem?_eq_none (by omega)]
set_option maxRecDepth 100000 in
theorem dsc_view {H : Type} {enc : TypeId × Value → H} {base : Nat} (W : World) (u : Value) (d : DataW H) (p : List MemPlace) (hok : Value.okWide Try.prog W .any base 26 u)
    (h : DataW.Trod enc Try.prog W 0 (fun _ => true) true 26 u d p) : ∃ x : Dsc, u = .agg x.cells ∧ x.Ok := by
  obtain ⟨cs, rfl, -⟩ := okWide_struct Try.underlying26 hok
  obtain ⟨V, e, hV⟩ := flDsc.view W _ d p ⟨_, rfl⟩ h
  obtain ⟨h1, h2⟩ := dscOf_spec hV
  exact ⟨dscOf V, e.trans (congrArg Value.agg (arr_eq rfl h1)), h2⟩
theorem rng_of {W : World} {g o : Nat} {A : Array Value} {V : Nat → Value} (hs : A.size = 4) (h : ∀ j, j < 4 → A[j]? = some (V j)) (hc : ∀ j, j < 4 → W.cell? ⟨g, o + j, none⟩ = some (V j)) : W.rangeAt g o A.toList := by
  intro j v hv
  have hv : A[j]? = some v := by simpa using hv
  have hj : j < 4 := by rw [← hs]; exact (Array.getElem?_eq_some_iff.1 hv).1
  rw [h j hj] at hv
  cases hv
  exact hc j hj
set_option maxRecDepth 100000 in
theorem dscs_view {H : Type} {enc : TypeId × Value → H} {base : Nat} (W : World) (u : Value) (d : DataW H) (p : List MemPlace) (hok : Value.okWide Try.prog W .any base 40 u)
    (h : DataW.Trod enc Try.prog W 0 (fun _ => true) true 40 u d p) : ∃ ao n c l, u = .slice ao n c ∧ (DAt W ao n l ∧ (∀ i, i < n → (l i).Ok) ∧ n ≤ maxLen) := by
  obtain ⟨ao, n, c, X, rfl, hX, hn⟩ := flDsc.slice (by decide) Try.underlying40 W u d p hok h
  refine ⟨ao, n, c, fun i => dscOf (X i), rfl, fun i hi => ?_, fun i hi => ?_, hn⟩
  · obtain ⟨g, o, e, hc, hk⟩ := hX i hi
    exact ⟨g, o, e, rng_of rfl (dscOf_spec hk).1 (fun j hj => hc j hj)⟩
  · obtain ⟨g, o, e, hc, hk⟩ := hX i hi
    exact (dscOf_spec hk).2
/-- A cell of a list. -/
structure CelV where
  d : Dsc
  at' : Int
  sp : Int
structure CelV.Ok (x : CelV) : Prop where
  d : x.d.Ok
  a : 0 ≤ x.at' ∧ x.at' ≤ 18446744073709551615
  s : 0 ≤ x.sp ∧ x.sp ≤ 255
structure CelIn (W : World) (g o : Nat) (x : CelV) : Prop where
  d : W.rangeAt g o x.d.cells.toList
  a : W.cell? ⟨g, o + 4, none⟩ = some (.int .u64 x.at')
  s : W.cell? ⟨g, o + 5, none⟩ = some (.int .u8 x.sp)
/-- A list of cells lies at ao. -/
def CAt (w : World) (ao : Option Addr) (n : Nat) (l : Nat → CelV) : Prop := ∀ i, i < n → ∃ g o, ao = some ⟨g, o, none⟩ ∧ CelIn w g (o + i * 6) (l i)
set_option maxRecDepth 100000 in
theorem cels_view {H : Type} {enc : TypeId × Value → H} {base : Nat} (W : World) (u : Value) (d : DataW H) (p : List MemPlace) (hok : Value.okWide Try.prog W .any base 74 u)
    (h : DataW.Trod enc Try.prog W 0 (fun _ => true) true 74 u d p) : ∃ ao n c l, u = .slice ao n c ∧ (CAt W ao n l ∧ (∀ i, i < n → (l i).Ok) ∧ n ≤ maxLen) := by
  obtain ⟨ao, n, c, X, rfl, hX, hn⟩ := flCel.slice (by decide) Try.underlying74 W u d p hok h
  have hk : ∀ i, Kinds lsCel (X i) → Kinds lsDsc (X i) := fun i hk j l hl => hk j l (by
    have hj : j < 4 := (List.getElem?_eq_some_iff.1 hl).1
    unfold lsCel
    rw [List.getElem?_append_left hj]
    exact hl)
  refine ⟨ao, n, c, fun i => ⟨dscOf (X i), vN (X i 4), vN (X i 5)⟩, rfl, fun i hi => ?_, fun i hi => ?_, hn⟩
  · obtain ⟨g, o, e, hc, hki⟩ := hX i hi
    have h4 := leaf_int (hki 4 lU64 rfl)
    have h5 := leaf_int (hki 5 lU8 rfl)
    exact ⟨g, o, e, rng_of rfl (dscOf_spec (hk i hki)).1 (fun j hj => hc j (by show j < 6; omega)), by rw [← h4.1]; exact hc 4 (by decide), by rw [← h5.1]; exact hc 5 (by decide)⟩
  · obtain ⟨g, o, e, hc, hki⟩ := hX i hi
    have h4 := leaf_int (hki 4 lU64 rfl)
    have h5 := leaf_int (hki 5 lU8 rfl)
    exact ⟨(dscOf_spec (hk i hki)).2, wf_u64 h4.2, wf_u8 h5.2⟩
end Go.Proofs.Ytcljbmkdflkeeaa
