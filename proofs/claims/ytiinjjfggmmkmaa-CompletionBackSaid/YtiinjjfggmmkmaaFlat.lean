/- What a walk is told of values of flat types (numbers, bools, strings, and structs and arrays of these): each cell's kind. Over any program. -/
import Derived.Test.YtiinjjfggmmkmaaRow
import Derived.ProofKit
import Derived.OpenShut
import Derived.ShutString
import Derived.ChangeOld
import Derived.Below
import Derived.Deep.Slices
namespace Go.Proofs.Ytiinjjfggmmkmaa
set_option linter.unusedVariables false
set_option linter.unusedSimpArgs false
open Go.ChangeShapes Go.WideShapes Go.ChangeAt Go.RowKit Go.Deep

/-- A cell's kind: an integer, a bool, a string. -/
abbrev Leaf := Option (Option IntKind)
def leafOk : Leaf → Value → Prop
  | some (some k), v => ∃ n, v = .int k n ∧ (Lit.int k n).wf = true
  | some none, v => ∃ b, v = .bool b
  | none, v => ∃ s : ByteArray, v = .string s ∧ s.size ≤ maxLen

structure FlatT (P : Program) (t : TypeId) (ls : List Leaf) : Prop where
  cells : P.cellsOf t = ls.length
  read : ∀ {H : Type} {enc : TypeId × Value → H} {W : World} {base : Nat} {spare : Nat → Bool} {held : Bool} {fuel : Nat} {cs : List Value} {x : DataW H × List MemPlace},
    DataW.trod enc P W base spare held fuel t cs = some x → cs.length = ls.length ∧ ∀ (j : Nat) l, ls[j]? = some l → ∃ v, cs[j]? = some v ∧ leafOk l v

theorem FlatT.int {P : Program} {t : TypeId} {k : IntKind} (ht : P.underlying t = some (.int k)) (hc : P.cellsOf t = 1) : FlatT P t [some (some k)] := by
  refine ⟨hc, fun h => ?_⟩
  obtain ⟨n, rfl, -, hw⟩ := DataW.trod_int ht h
  refine ⟨rfl, fun j l hl => ?_⟩
  match j with
  | 0 => simp at hl; subst hl; exact ⟨_, rfl, n, rfl, hw⟩
  | j + 1 => simp at hl
theorem FlatT.bool {P : Program} {t : TypeId} (ht : P.underlying t = some .bool) (hc : P.cellsOf t = 1) : FlatT P t [some none] := by
  refine ⟨hc, fun h => ?_⟩
  obtain ⟨b, rfl, -⟩ := DataW.trod_bool ht h
  refine ⟨rfl, fun j l hl => ?_⟩
  match j with
  | 0 => simp at hl; subst hl; exact ⟨_, rfl, b, rfl⟩
  | j + 1 => simp at hl
theorem FlatT.str {P : Program} {t : TypeId} (ht : P.underlying t = some .string) (hc : P.cellsOf t = 1) : FlatT P t [none] := by
  refine ⟨hc, fun h => ?_⟩
  obtain ⟨s, rfl, -, hs⟩ := DataW.trod_string ht h
  refine ⟨rfl, fun j l hl => ?_⟩
  match j with
  | 0 => simp at hl; subst hl; exact ⟨_, rfl, s, rfl, hs⟩
  | j + 1 => simp at hl

theorem part_get {cs : List Value} {o n j : Nat} (hj : j < n) : ((cs.drop o).take n)[j]? = cs[o + j]? := by
  rw [List.getElem?_take, if_pos hj, List.getElem?_drop]

theorem FlatT.array {P : Program} {t e : TypeId} {n : Nat} {le ls : List Leaf} (ht : P.underlying t = some (.array n e)) (he : FlatT P e le) (hc : P.cellsOf t = ls.length) (h0 : 0 < le.length) (hn : ls.length = n * le.length)
    (hls : ∀ j : Nat, j < ls.length → ls[j]? = le[j % le.length]?) : FlatT P t ls := by
  refine ⟨hc, fun h => ?_⟩
  obtain ⟨xs, m, -, -, hl, hlen, hf⟩ := DataW.trod_array ht h
  rw [hc] at hl
  refine ⟨hl, fun j l hj => ?_⟩
  have hjl : j < ls.length := (List.getElem?_eq_some_iff.1 hj).1
  have hi : j / le.length < n := by rw [Nat.div_lt_iff_lt_mul h0]; omega
  have h1 := hf (j / le.length) hi
  rw [List.getElem?_eq_getElem (by omega)] at h1
  have h2 := (he.read h1).2 (j % le.length) l (by rw [← hls j hjl, hj])
  obtain ⟨v, hv, hlv⟩ := h2
  refine ⟨v, ?_, hlv⟩
  rw [he.cells, part_get (Nat.mod_lt _ h0)] at hv
  rw [← hv]
  congr 1
  rw [Nat.mul_comm]; exact (Nat.div_add_mod _ _).symm

theorem FlatT.struct {P : Program} {t : TypeId} {fs : Array Field} {ls : List Leaf} (subs : List (Nat × List Leaf)) (ht : P.underlying t = some (.struct fs)) (hc : P.cellsOf t = ls.length)
    (hf : ∀ (i : Nat) s, subs[i]? = some s → ∃ f, fs[i]? = some f ∧ f.offset = s.1 ∧ FlatT P f.type s.2)
    (hcov : (List.range ls.length).all (fun j => subs.any fun s => decide (s.1 ≤ j) && (decide (j < s.1 + s.2.length) && (s.2[j - s.1]? == ls[j]?))) = true) : FlatT P t ls := by
  refine ⟨hc, fun h => ?_⟩
  obtain ⟨xs, m, -, -, hl, hlen, hx⟩ := DataW.trod_struct ht h
  rw [hc] at hl
  refine ⟨hl, fun j l hj => ?_⟩
  have hjl : j < ls.length := (List.getElem?_eq_some_iff.1 hj).1
  have h1 := List.all_eq_true.1 hcov j (List.mem_range.2 hjl)
  obtain ⟨s, hs, h2⟩ := List.any_eq_true.1 h1
  simp only [Bool.and_eq_true, decide_eq_true_eq, beq_iff_eq] at h2
  obtain ⟨h3, h4, h5⟩ := h2
  obtain ⟨i, hi, rfl⟩ := List.mem_iff_getElem.1 hs
  obtain ⟨f, hfi, hoff, hflat⟩ := hf i _ (List.getElem?_eq_getElem hi)
  have h6 := hx i f hfi
  have hil : i < xs.length := by rw [hlen]; exact (Array.getElem?_eq_some_iff.1 hfi).1
  rw [List.getElem?_eq_getElem hil] at h6
  obtain ⟨v, hv, hlv⟩ := (hflat.read h6).2 (j - subs[i].1) l (by rw [h5, hj])
  refine ⟨v, ?_, hlv⟩
  rw [hflat.cells, part_get (by omega), hoff] at hv
  rw [← hv]
  congr 1
  omega

theorem choose_below {α : Type} [Inhabited α] {p : Nat → α → Prop} {n : Nat} (h : ∀ i, i < n → ∃ v, p i v) : ∃ V : Nat → α, ∀ i, i < n → p i (V i) := by
  classical
  refine ⟨fun i => if hi : i < n then (h i hi).choose else default, fun i hi => ?_⟩
  simp only [hi, dif_pos]
  exact (h i hi).choose_spec

/-- The values V are of the kinds ls. -/
def Kinds (ls : List Leaf) (V : Nat → Value) : Prop := ∀ (j : Nat) l, ls[j]? = some l → leafOk l (V j)

theorem FlatT.values {P : Program} {t : TypeId} {ls : List Leaf} (hF : FlatT P t ls) {H : Type} {enc : TypeId × Value → H} {W : World} {base : Nat} {spare : Nat → Bool} {held : Bool} {fuel : Nat} {cs : List Value} {x : DataW H × List MemPlace}
    (h : DataW.trod enc P W base spare held fuel t cs = some x) : ∃ V, cs = (arr ls.length V).toList ∧ Kinds ls V := by
  obtain ⟨hl, hr⟩ := hF.read h
  obtain ⟨V, hV⟩ := choose_below (n := ls.length) (α := Value) (p := fun j v => cs[j]? = some v ∧ ∀ l, ls[j]? = some l → leafOk l v) (fun j hj => by
    obtain ⟨v, hv, hlv⟩ := hr j _ (List.getElem?_eq_getElem hj)
    exact ⟨v, hv, fun l hl => by rw [List.getElem?_eq_getElem hj] at hl; cases hl; exact hlv⟩)
  refine ⟨V, ?_, fun j l hl => (hV j (List.getElem?_eq_some_iff.1 hl).1).2 l hl⟩
  apply List.ext_getElem?
  intro j
  by_cases hj : j < ls.length
  · rw [(hV j hj).1]; simp [arr, hj]
  · rw [List.getElem?_eq_none (by omega), List.getElem?_eq_none (by simp [arr]; omega)]

/-- A value of a flat struct or array by value. -/
theorem FlatT.view {P : Program} {t : TypeId} {ls : List Leaf} (hF : FlatT P t ls) {H : Type} {enc : TypeId × Value → H} (W : World) (u : Value) (d : DataW H) (p : List MemPlace) (hu : ∃ cs : Array Value, u = .agg cs)
    (h : DataW.Trod enc P W 0 (fun _ => true) true t u d p) : ∃ V, u = .agg (arr ls.length V) ∧ Kinds ls V := by
  obtain ⟨cs, rfl⟩ := hu
  obtain ⟨fuel, hf⟩ := h
  obtain ⟨V, e, hV⟩ := hF.values hf
  refine ⟨V, ?_, hV⟩
  have e2 : cs.toList = (arr ls.length V).toList := e
  rw [show cs = arr ls.length V from by apply Array.toList_inj.1; exact e2]

theorem addr_of_cell {w : World} {a : Addr} {v : Value} (h : w.cell? a = some v) : a = ⟨a.block, a.off, none⟩ := by
  obtain ⟨b, o, s⟩ := a
  cases s with
  | none => rfl
  | some s =>
    unfold World.cell? at h
    simp only at h
    split at h <;> simp at h

/-- The values of a slice of flat structs, m cells each. -/
def RowsOf (ls : List Leaf) (W : World) (ao : Option Addr) (len : Nat) (X : Nat → Nat → Value) : Prop :=
  ∀ i, i < len → ∃ g o, ao = some ⟨g, o, none⟩ ∧ (∀ j, j < ls.length → W.cell? ⟨g, o + i * ls.length + j, none⟩ = some (X i j)) ∧ Kinds ls (X i)

theorem FlatT.slice {P : Program} {t e : TypeId} {ls : List Leaf} (hF : FlatT P e ls) (h0 : 0 < ls.length) (ht : P.underlying t = some (.slice e)) {H : Type} {enc : TypeId × Value → H} {base : Nat} (W : World) (u : Value) (d : DataW H) (p : List MemPlace) (hok : Value.okWide P W .any base t u)
    (h : DataW.Trod enc P W 0 (fun _ => true) true t u d p) : ∃ ao len cap X, u = .slice ao len cap ∧ (RowsOf ls W ao len X ∧ len ≤ maxLen) := by
  obtain ⟨ao, len, cap, rfl⟩ := okWide_slice ht hok
  obtain ⟨fuel, hf⟩ := h
  rcases open_slice ht hf with ⟨hcs, -⟩ | ⟨a, len', cap', m, n, D, Pl, hcs, -, hl, hcap, hm, -, hx⟩
  · simp [Value.cells] at hcs
    obtain ⟨rfl, rfl, rfl⟩ := hcs
    exact ⟨_, _, _, fun _ _ => undef, rfl, fun i hi => by omega, by unfold maxLen; omega⟩
  · simp [Value.cells] at hcs
    obtain ⟨rfl, rfl, rfl⟩ := hcs
    have hmc : m = cap := by simpa using hm
    rw [hF.cells] at hx
    obtain ⟨X, hX⟩ := choose_below (n := len) (α := Nat → Value) (p := fun i X => (∀ j, j < ls.length → W.cell? ((a.add (i * ls.length)).add j) = some (X j)) ∧ Kinds ls X) (fun i hi => by
      obtain ⟨cs', h1, h2⟩ := hx i (by omega)
      obtain ⟨-, -, h3⟩ := World.cells?_some h1
      obtain ⟨V, rfl, hV⟩ := hF.values h2
      exact ⟨V, fun j hj => by rw [h3 j hj]; simp [arr, hj], hV⟩)
    refine ⟨_, _, _, X, rfl, fun i hi => ?_, by omega⟩
    obtain ⟨h1, h2⟩ := hX i hi
    have h0' := (hX 0 (by omega)).1 0 h0
    have ea := addr_of_cell h0'
    obtain ⟨g, o, s⟩ := a
    have es : s = none := by
      cases s with
      | none => rfl
      | some s => simp [Addr.add] at ea
    subst es
    refine ⟨g, o, rfl, fun j hj => ?_, h2⟩
    have := h1 j hj
    rw [Addr.add_mid, Addr.add_mid] at this
    exact this
end Go.Proofs.Ytiinjjfggmmkmaa
