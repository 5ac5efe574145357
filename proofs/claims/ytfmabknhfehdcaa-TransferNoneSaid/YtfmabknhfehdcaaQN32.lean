/- transfer: Scatter: the next bytes of the data. -/
import Derived.Test.YtfmabknhfehdcaaQN31
import Derived.Test.YtfmabknhfehdcaaQN1
import Derived.ProofKit
import Derived.OpenShut
import Derived.ShutString
import Derived.ChangeOld
import Derived.Below
import Derived.Deep.Slices
import Derived.Test.YtfmabknhfehdcaaQN28
import Derived.Laws.CopyOwn
import Derived.Test.YtfmabknhfehdcaaQN12
namespace Go.Proofs.Ytfmabknhfehdcaa
set_option linter.unusedVariables false
set_option linter.unusedSimpArgs false
open Go.RowKit

theorem tclears_s : Clears 44 #[] (fun _ => False) (fun _ => True) (fun _ => True) := by
  refine ⟨fun args w => by simp [go_sem], fun w h => ?_⟩
  go_enter Try.func44, Try.ntmps44
  go_wp2_with fail
  go_end0
  exact ⟨rfl, Keeps.refl _ _, trivial⟩
set_option maxHeartbeats 2000000 in
theorem next_some (db : Nat) (ap : Addr) (m c n : Nat) (w : World) (hc : w.cell? ⟨db, 0, none⟩ = some (.slice (some ap) m c)) (hf : w.frozen? ⟨db, 0, none⟩ = false) (hn : n ≤ m) (hm : m ≤ c) (h63 : c ≤ 9223372036854775807) :
    Calls Try.prog 45 #[.int .i64 (n : Nat), .pointer (some ⟨db, 0, none⟩)] w fun e w' => e = .returned (.slice (some ap) n n) ∧ w' = w.setCell ⟨db, 0, none⟩ (.slice (some (if c = n then ap else ap.add n)) (m - n) (c - n)) := by
  go_enter Try.func45, Try.ntmps45
  go_wp2_with fail
  all_goals go_ret
  · exact ⟨rfl, rfl⟩
  · exact ⟨rfl, rfl⟩
/-- the next bytes of data that did not come in -/
theorem next_none (db : Nat) (w : World) (hc : w.cell? ⟨db, 0, none⟩ = some (.slice none 0 0)) (hf : w.frozen? ⟨db, 0, none⟩ = false) :
    Calls Try.prog 45 #[.int .i64 0, .pointer (some ⟨db, 0, none⟩)] w fun e w' => e = .returned (.slice none 0 0) ∧ w' = w.setCell ⟨db, 0, none⟩ (.slice none 0 0) := by
  go_enter Try.func45, Try.ntmps45
  go_wp2_with fail
  go_ret
  exact ⟨rfl, rfl⟩
/-- The rest of the data: m numbers g, outside of S. -/
def RestAt (S : Nat → Prop) (W : World) (v : Value) (m : Nat) (g : Nat → Int) : Prop :=
  (v = .slice none 0 0 ∧ m = 0) ∨ ∃ ap c, v = .slice (some ap) m c ∧ m ≤ c ∧ c ≤ 9223372036854775807 ∧ Src S W (some ap) m g
theorem RestAt.kept {S T : Nat → Prop} {w w' : World} {v : Value} {m : Nat} {g : Nat → Int} (h : RestAt S w v m g) (k : Keeps T w w') (hT : ∀ b, T b → S b) : RestAt S w' v m g := by
  rcases h with h | ⟨ap, c, h1, h2, h3, h4⟩
  · exact .inl h
  · exact .inr ⟨ap, c, h1, h2, h3, h4.kept k hT⟩
theorem RestAt.below {S : Nat → Prop} {w w' : World} {v : Value} {m : Nat} {g : Nat → Int} (h : RestAt S w v m g) (hb : Below w.heap.size w w') : RestAt S w' v m g := h.kept (Keeps.of_below (S := fun _ => False) hb) (fun _ e => e.elim)
theorem RestAt.form {S : Nat → Prop} {w : World} {v : Value} {m : Nat} {g : Nat → Int} (h : RestAt S w v m g) : ∃ ap c, v = .slice ap m c := by
  rcases h with ⟨h, h0⟩ | ⟨ap, c, h1, -⟩
  · exact ⟨none, 0, by rw [h, h0]⟩
  · exact ⟨_, _, h1⟩
theorem Src.first {S : Nat → Prop} {w : World} {ap : Option Addr} {m n : Nat} {g : Nat → Int} (h : Src S w ap m g) (hn : n ≤ m) : Src S w ap n g :=
  ⟨Nat.le_trans hn h.small, fun h0 => by
    obtain ⟨x, o, e, h1, h2⟩ := h.at' (by omega)
    exact ⟨x, o, e, h1, fun i hi => h2 i (by omega)⟩⟩
theorem Src.rest {S : Nat → Prop} {w : World} {ap : Addr} {m n c : Nat} {g : Nat → Int} (h : Src S w (some ap) m g) (hn : n ≤ m) (hc : m ≤ c) : Src S w (some (if c = n then ap else ap.add n)) (m - n) (fun i => g (n + i)) :=
  ⟨by have := h.small; omega, fun h0 => by
    obtain ⟨x, o, e, h1, h2⟩ := h.at' (by omega)
    cases e
    refine ⟨x, o + n, by rw [if_neg (by omega), Addr.add_mid], h1, fun i hi => ?_⟩
    have := h2 (n + i) (by omega)
    rw [← Nat.add_assoc] at this
    exact this⟩
/-- What the next bytes leave. -/
def SnPost (S : Nat → Prop) (db m n : Nat) (g : Nat → Int) (w : World) (e : Ending) (w' : World) : Prop :=
  ∃ ap v', e = .returned (.slice ap n n) ∧ w' = w.setCell ⟨db, 0, none⟩ v' ∧ Src S w' ap n g ∧ RestAt S w' v' (m - n) (fun i => g (n + i))
theorem snext_any (S : Nat → Prop) (db : Nat) (v : Value) (m n : Nat) (g : Nat → Int) (w : World) (hc : w.cell? ⟨db, 0, none⟩ = some v) (hf : w.frozen? ⟨db, 0, none⟩ = false) (h : RestAt S w v m g) (hn : n ≤ m) (hS : S db) :
    Calls Try.prog 45 #[.int .i64 (n : Nat), .pointer (some ⟨db, 0, none⟩)] w (SnPost S db m n g w) := by
  have hk : ∀ v', Keeps (One db) w (w.setCell ⟨db, 0, none⟩ v') := fun v' => (Keeps.refl _ w).set1 _ _
  have hTS : ∀ j, One db j → S j := fun j e => by have e : j = db := e; rw [e]; exact hS
  rcases h with ⟨rfl, rfl⟩ | ⟨ap, c, rfl, h1, h2, h3⟩
  · obtain rfl : n = 0 := by omega
    refine (next_none db w hc hf).mono ?_
    rintro e w' ⟨rfl, rfl⟩
    exact ⟨none, _, rfl, rfl, ⟨by omega, fun h => by omega⟩, .inl ⟨rfl, rfl⟩⟩
  · refine (next_some db ap m c n w hc hf hn h1 h2).mono ?_
    rintro e w' ⟨rfl, rfl⟩
    exact ⟨some ap, _, rfl, rfl, (h3.first hn).kept (hk _) hTS, .inr ⟨_, _, rfl, by omega, by omega, (h3.rest hn h1).kept (hk _) hTS⟩⟩
end Go.Proofs.Ytfmabknhfehdcaa

namespace Go.Proofs.Ytfmabknhfehdcaa
open Go.ChangeShapes Go.WideShapes Go.ChangeAt Go.RowKit Go.Deep

/-- A cell's kind: an integer, a bool, a string. -/
abbrev Leaf := Option (Option IntKind)
def leafOk : Leaf → Value → Prop
  | some (some k), v => ∃ n, v = .int k n ∧ (Lit.int k n).wf = true
  | some none, v => ∃ b, v = .bool b
  | none, v => ∃ s : ByteArray, v = .string s ∧ s.size ≤ maxLen

structure FlatT (P : Program) (t : TypeId) (ls : List Leaf) : Prop where
  cells : P.cellsOf t = ls.length
  read : ∀ {H : Type} {enc : TypeId × Value → H} {W : World} {base : Nat} {spare : Nat → Bool} {held : Bool} {fuel : Nat} {cs : List Value} {x : DataW H × List MemPlace},
    DataW.trod enc P W base spare held fuel t cs = some x → cs.length = ls.length ∧ ∀ (j : Nat) l, ls[j]? = some l → ∃ v, cs[j]? = some v ∧ leafOk l v

theorem FlatT.int {P : Program} {t : TypeId} {k : IntKind} (ht : P.underlying t = some (.int k)) (hc : P.cellsOf t = 1) : FlatT P t [some (some k)] := by
  refine ⟨hc, fun h => ?_⟩
  obtain ⟨n, rfl, -, hw⟩ := DataW.trod_int ht h
  refine ⟨rfl, fun j l hl => ?_⟩
  match j with
  | 0 => simp at hl; subst hl; exact ⟨_, rfl, n, rfl, hw⟩
  | j + 1 => simp at hl
theorem FlatT.bool {P : Program} {t : TypeId} (ht : P.underlying t = some .bool) (hc : P.cellsOf t = 1) : FlatT P t [some none] := by
  refine ⟨hc, fun h => ?_⟩
  obtain ⟨b, rfl, -⟩ := DataW.trod_bool ht h
  refine ⟨rfl, fun j l hl => ?_⟩
  match j with
  | 0 => simp at hl; subst hl; exact ⟨_, rfl, b, rfl⟩
  | j + 1 => simp at hl
theorem FlatT.str {P : Program} {t : TypeId} (ht : P.underlying t = some .string) (hc : P.cellsOf t = 1) : FlatT P t [none] := by
  refine ⟨hc, fun h => ?_⟩
  obtain ⟨s, rfl, -, hs⟩ := DataW.trod_string ht h
  refine ⟨rfl, fun j l hl => ?_⟩
  match j with
  | 0 => simp at hl; subst hl; exact ⟨_, rfl, s, rfl, hs⟩
  | j + 1 => simp at hl

theorem part_get {cs : List Value} {o n j : Nat} (hj : j < n) : ((cs.drop o).take n)[j]? = cs[o + j]? := by
  rw [List.getElem?_take, if_pos hj, List.getElem?_drop]

theorem FlatT.array {P : Program} {t e : TypeId} {n : Nat} {le ls : List Leaf} (ht : P.underlying t = some (.array n e)) (he : FlatT P e le) (hc : P.cellsOf t = ls.length) (h0 : 0 < le.length) (hn : ls.length = n * le.length)
    (hls : ∀ j : Nat, j < ls.length → ls[j]? = le[j % le.length]?) : FlatT P t ls := by
  refine ⟨hc, fun h => ?_⟩
  obtain ⟨xs, m, -, -, hl, hlen, hf⟩ := DataW.trod_array ht h
  rw [hc] at hl
  refine ⟨hl, fun j l hj => ?_⟩
  have hjl : j < ls.length := (List.getElem?_eq_some_iff.1 hj).1
  have hi : j / le.length < n := by rw [Nat.div_lt_iff_lt_mul h0]; omega
  have h1 := hf (j / le.length) hi
  rw [List.getElem?_eq_getElem (by omega)] at h1
  have h2 := (he.read h1).2 (j % le.length) l (by rw [← hls j hjl, hj])
  obtain ⟨v, hv, hlv⟩ := h2
  refine ⟨v, ?_, hlv⟩
  rw [he.cells, part_get (Nat.mod_lt _ h0)] at hv
  rw [← hv]
  congr 1
  rw [Nat.mul_comm]; exact (Nat.div_add_mod _ _).symm

theorem FlatT.struct {P : Program} {t : TypeId} {fs : Array Field} {ls : List Leaf} (subs : List (Nat × List Leaf)) (ht : P.underlying t = some (.struct fs)) (hc : P.cellsOf t = ls.length)
    (hf : ∀ (i : Nat) s, subs[i]? = some s → ∃ f, fs[i]? = some f ∧ f.offset = s.1 ∧ FlatT P f.type s.2)
    (hcov : (List.range ls.length).all (fun j => subs.any fun s => decide (s.1 ≤ j) && (decide (j < s.1 + s.2.length) && (s.2[j - s.1]? == ls[j]?))) = true) : FlatT P t ls := by
  refine ⟨hc, fun h => ?_⟩
  obtain ⟨xs, m, -, -, hl, hlen, hx⟩ := DataW.trod_struct ht h
  rw [hc] at hl
  refine ⟨hl, fun j l hj => ?_⟩
  have hjl : j < ls.length := (List.getElem?_eq_some_iff.1 hj).1
  have h1 := List.all_eq_true.1 hcov j (List.mem_range.2 hjl)
  obtain ⟨s, hs, h2⟩ := List.any_eq_true.1 h1
  simp only [Bool.and_eq_true, decide_eq_true_eq, beq_iff_eq] at h2
  obtain ⟨h3, h4, h5⟩ := h2
  obtain ⟨i, hi, rfl⟩ := List.mem_iff_getElem.1 hs
  obtain ⟨f, hfi, hoff, hflat⟩ := hf i _ (List.getElem?_eq_getElem hi)
  have h6 := hx i f hfi
  have hil : i < xs.length := by rw [hlen]; exact (Array.getElem?_eq_some_iff.1 hfi).1
  rw [List.getElem?_eq_getElem hil] at h6
  obtain ⟨v, hv, hlv⟩ := (hflat.read h6).2 (j - subs[i].1) l (by rw [h5, hj])
  refine ⟨v, ?_, hlv⟩
  rw [hflat.cells, part_get (by omega), hoff] at hv
  rw [← hv]
  congr 1
  omega

theorem choose_below {α : Type} [Inhabited α] {p : Nat → α → Prop} {n : Nat} (h : ∀ i, i < n → ∃ v, p i v) : ∃ V : Nat → α, ∀ i, i < n → p i (V i) := by
  classical
  refine ⟨fun i => if hi : i < n then (h i hi).choose else default, fun i hi => ?_⟩
  simp only [hi, dif_pos]
  exact (h i hi).choose_spec

/-- The values V are of the kinds ls. -/
def Kinds (ls : List Leaf) (V : Nat → Value) : Prop := ∀ (j : Nat) l, ls[j]? = some l → leafOk l (V j)

theorem FlatT.values {P : Program} {t : TypeId} {ls : List Leaf} (hF : FlatT P t ls) {H : Type} {enc : TypeId × Value → H} {W : World} {base : Nat} {spare : Nat → Bool} {held : Bool} {fuel : Nat} {cs : List Value} {x : DataW H × List MemPlace}
    (h : DataW.trod enc P W base spare held fuel t cs = some x) : ∃ V, cs = (arr ls.length V).toList ∧ Kinds ls V := by
  obtain ⟨hl, hr⟩ := hF.read h
  obtain ⟨V, hV⟩ := choose_below (n := ls.length) (α := Value) (p := fun j v => cs[j]? = some v ∧ ∀ l, ls[j]? = some l → leafOk l v) (fun j hj => by
    obtain ⟨v, hv, hlv⟩ := hr j _ (List.getElem?_eq_getElem hj)
    exact ⟨v, hv, fun l hl => by rw [List.getElem?_eq_getElem hj] at hl; cases hl; exact hlv⟩)
  refine ⟨V, ?_, fun j l hl => (hV j (List.getElem?_eq_some_iff.1 hl).1).2 l hl⟩
  apply List.ext_getElem?
  intro j
  by_cases hj : j < ls.length
  · rw [(hV j hj).1]; simp [arr, hj]
  · rw [List.getElem?_eq_none (by omega), List.getElem?_eq_none (by simp [arr]; omega)]

/-- A value of a flat struct or array by value. -/
theorem FlatT.view {P : Program} {t : TypeId} {ls : List Leaf} (hF : FlatT P t ls) {H : Type} {enc : TypeId × Value → H} (W : World) (u : Value) (d : DataW H) (p : List MemPlace) (hu : ∃ cs : Array Value, u = .agg cs)
    (h : DataW.Trod enc P W 0 (fun _ => true) true t u d p) : ∃ V, u = .agg (arr ls.length V) ∧ Kinds ls V := by
  obtain ⟨cs, rfl⟩ := hu
  obtain ⟨fuel, hf⟩ := h
  obtain ⟨V, e, hV⟩ := hF.values hf
  refine ⟨V, ?_, hV⟩
  have e2 : cs.toList = (arr ls.length V).toList := e
  rw [show cs = arr ls.length V from by apply Array.toList_inj.1; exact e2]

theorem addr_of_cell {w : World} {a : Addr} {v : Value} (h : w.cell? a = some v) : a = ⟨a.block, a.off, none⟩ := by
  obtain ⟨b, o, s⟩ := a
  cases s with
  | none => rfl
  | some s =>
    unfold World.cell? at h
    simp only at h
    split at h <;> simp at h

/-- The values of a slice of flat structs, m cells each. -/
def RowsOf (ls : List Leaf) (W : World) (ao : Option Addr) (len : Nat) (X : Nat → Nat → Value) : Prop :=
  ∀ i, i < len → ∃ g o, ao = some ⟨g, o, none⟩ ∧ (∀ j, j < ls.length → W.cell? ⟨g, o + i * ls.length + j, none⟩ = some (X i j)) ∧ Kinds ls (X i)

theorem FlatT.slice {P : Program} {t e : TypeId} {ls : List Leaf} (hF : FlatT P e ls) (h0 : 0 < ls.length) (ht : P.underlying t = some (.slice e)) {H : Type} {enc : TypeId × Value → H} {base : Nat} (W : World) (u : Value) (d : DataW H) (p : List MemPlace) (hok : Value.okWide P W .any base t u)
    (h : DataW.Trod enc P W 0 (fun _ => true) true t u d p) : ∃ ao len cap X, u = .slice ao len cap ∧ (RowsOf ls W ao len X ∧ len ≤ maxLen) := by
  obtain ⟨ao, len, cap, rfl⟩ := okWide_slice ht hok
  obtain ⟨fuel, hf⟩ := h
  rcases open_slice ht hf with ⟨hcs, -⟩ | ⟨a, len', cap', m, n, D, Pl, hcs, -, hl, hcap, hm, -, hx⟩
  · simp [Value.cells] at hcs
    obtain ⟨rfl, rfl, rfl⟩ := hcs
    exact ⟨_, _, _, fun _ _ => undef, rfl, fun i hi => by omega, by unfold maxLen; omega⟩
  · simp [Value.cells] at hcs
    obtain ⟨rfl, rfl, rfl⟩ := hcs
    have hmc : m = cap := by simpa using hm
    rw [hF.cells] at hx
    obtain ⟨X, hX⟩ := choose_below (n := len) (α := Nat → Value) (p := fun i X => (∀ j, j < ls.length → W.cell? ((a.add (i * ls.length)).add j) = some (X j)) ∧ Kinds ls X) (fun i hi => by
      obtain ⟨cs', h1, h2⟩ := hx i (by omega)
      obtain ⟨-, -, h3⟩ := World.cells?_some h1
      obtain ⟨V, rfl, hV⟩ := hF.values h2
      exact ⟨V, fun j hj => by rw [h3 j hj]; simp [arr, hj], hV⟩)
    refine ⟨_, _, _, X, rfl, fun i hi => ?_, by omega⟩
    obtain ⟨h1, h2⟩ := hX i hi
    have h0' := (hX 0 (by omega)).1 0 h0
    have ea := addr_of_cell h0'
    obtain ⟨g, o, s⟩ := a
    have es : s = none := by
      cases s with
      | none => rfl
      | some s => simp [Addr.add] at ea
    subst es
    refine ⟨g, o, rfl, fun j hj => ?_, h2⟩
    have := h1 j hj
    rw [Addr.add_mid, Addr.add_mid] at this
    exact this
end Go.Proofs.Ytfmabknhfehdcaa

namespace Go.Proofs.Ytfmabknhfehdcaa
open Go.ChangeShapes Go.WideShapes Go.ChangeAt Go.RowKit Go.Deep

def lU64 : Leaf := some (some .u64)
theorem flU64 : FlatT Try.prog 24 [lU64] := FlatT.int Try.underlying24 (by kernel_rfl)
def lsCel : List Leaf := [lU64, lU64]
def vN (v : Value) : Int := match v with | .int _ n => n | _ => 0
theorem leaf_int {k : IntKind} {v : Value} (h : leafOk (some (some k)) v) : v = .int k (vN v) ∧ (Lit.int k (vN v)).wf = true := by
  obtain ⟨n, rfl, hw⟩ := h
  exact ⟨rfl, hw⟩
/-- A list of cells lies at ao: their addresses, their values. -/
def CAt (w : World) (ao : Option Addr) (n : Nat) (a v : Nat → Int) : Prop := ∀ i, i < n → ∃ g o, ao = some ⟨g, o, none⟩ ∧ w.cell? ⟨g, o + i * 2, none⟩ = some (.int .u64 (a i)) ∧ w.cell? ⟨g, o + i * 2 + 1, none⟩ = some (.int .u64 (v i))
theorem CAt.below {w w' : World} {ao : Option Addr} {n : Nat} {a v : Nat → Int} (h : CAt w ao n a v) (hb : Below w.heap.size w w') : CAt w' ao n a v := fun i hi => by
  obtain ⟨g, o, e, h1, h2⟩ := h i hi
  exact ⟨g, o, e, (hb.cell (p := ⟨g, o + i * 2, none⟩) (World.block_lt_of_cell? _ _ h1)).trans h1, (hb.cell (p := ⟨g, o + i * 2 + 1, none⟩) (World.block_lt_of_cell? _ _ h2)).trans h2⟩
theorem byteOf_bd8 (v : Int) (j : Nat) : 0 ≤ byteOf v j ∧ byteOf v j ≤ 255 := by unfold byteOf; omega
section
variable (pg : Int) (ao : Option Addr) (n c : Nat) (ca cv : Nat → Int) (w : World) (hp0 : 0 ≤ pg) (hp1 : pg ≤ 255) (hC : CAt w ao n ca cv) (hok : U64 n ca) (hov : U64 n cv) (hn : n ≤ maxLen)
include hp0 hp1 hC hok hov hn
end
end Go.Proofs.Ytfmabknhfehdcaa

namespace Go.Proofs.Ytfmabknhfehdcaa
open Go.RowKit Go.Shelf
theorem run_bsu (x : Int) (w : World) : (Instr.buildSlice 54 1 #[(0, .int .u64 x)]).run Try.prog w = .ok (.slice (some ⟨w.heap.size, 0, none⟩) 1 1) (w.alloc (.cells #[.int .u64 x] 24)) := by kernel_rfl
/-- What lies in memory in PrpNone. -/
structure NoneI (w : World) (q : Option Addr) (W : World) : Prop where
  below : Below w.heap.size w W
  nomem : NoMem W q
  r8 : W.rowIs w.heap.size 4 1 (fun _ => .bool false)
theorem NoneI.quiet {w A B : World} {N : Nat} {q : Option Addr} (h : NoneI w q A) (k : Quiet N A B) (hN : w.heap.size ≤ N) : NoneI w q B :=
  ⟨k.below h.below hN, k.nomem h.nomem, k.rowIs h.r8⟩
theorem NoneI.go {w A B : World} {q : Option Addr} (h : NoneI w q A) (k : Below A.heap.size A B) : NoneI w q B :=
  ⟨h.below.trans (k.mono h.below.size), h.nomem.below k, (Keeps.of_below (S := fun _ => False) k).rowIs h.r8 (fun e => e)⟩

end Go.Proofs.Ytfmabknhfehdcaa

namespace Go.Proofs.Ytfmabknhfehdcaa
open Go.RowKit

theorem runP_few (f g : Nat → Int) (size : Nat) (second pages : Int) (h : ¬ 2 < pages) : ∀ (k : Nat) (i : Int) (s : PSt), runP f size second pages k i s = runP g size second pages k i s
  | 0, _, _ => rfl
  | k + 1, i, s => by
    have e : stepP f size second pages i s = stepP g size second pages i s := by
      unfold stepP adrP
      rw [if_neg h, if_neg h]
    unfold runP
    rw [e]
    cases stepP g size second pages i s with
    | error e => rfl
    | ok s' => exact runP_few f g size second pages h k (i + 1) s'
theorem spansP_few (f g : Nat → Int) (size : Nat) (x y n : Int) (h : ¬ 2 < pgs x n) : spansP f size x y n = spansP g size x y n := by
  unfold spansP
  simp only [runP_few f g size y (pgs x n) h]
theorem bytes_blt {f : Nat → Int} {l0 l1 R K : Nat} {p : Nat → Int} (h : Bytes f) : Bytes (bltF f l0 l1 R K p) := by
  unfold bltF
  split
  · exact bytes_upd h (bytes_wB _)
  · exact bytes_upd (bytes_upd h (bytes_wB _)) (bytes_wB _)
/-- two lists -/
def ls2 (l0 l1 : Nat) (i : Nat) : Int := if i = 0 then l0 else l1
theorem bt_varg {size l0 l1 R K : Nat} {p : Nat → Int} {o N : Int} (h : Bt size l0 l1 R K p o N) : VArg K 2 p (ls2 l0 l1) o N := by
  have ha := h.a0
  have hb := h.a1
  refine ⟨by have := h.n0; omega, h.n1, h.o0, h.o1, h.o4, h.k.symm, fun i hi => (h.pg i hi).1, fun i hi => ?_⟩
  unfold ls2
  split
  · exact ⟨by omega, .inl ‹_›⟩
  · exact ⟨by omega, .inr (by omega)⟩
theorem bt_lists {size l0 l1 R K : Nat} {p : Nat → Int} {o N : Int} (h : Bt size l0 l1 R K p o N) : ∃ z : Int, lstsP (ls2 l0 l1 0) (K : Nat) = z ∧ z ≤ ((2 : Nat) : Int) := by
  refine ⟨_, rfl, ?_⟩
  unfold lstsP
  repeat' split
  all_goals omega
theorem outP_length (p : Nat → Int) (o N : Int) (k : Nat) : (outP p o N k).length = k := by simp [outP]
/-- What Build leaves. -/
def BuiltPost (b B size l0 K : Nat) (p : Nat → Int) (o N : Int) (W : World) (e : Ending) (w' : World) : Prop :=
  ∃ (second : Int) (F : Nat → Int) (L : List (Nat × Nat)), e = .returned (.tuple #[.int .u64 (p 0 + o), .int .u64 second, .int .i64 0]) ∧ Keeps (Two b B) W w' ∧ MemAt w' b B size F L ∧ Bytes F ∧ 0 ≤ second ∧ second ≤ 18446744073709551615 ∧ (3 ≤ K → second = l0) ∧ spansP F size (p 0 + o) second N = .ok (outP p o N K)
theorem built_any {size l0 l1 R K : Nat} {p : Nat → Int} {o N : Int} (h : Bt size l0 l1 R K p o N) (b B : Nat) (f : Nat → Int) (hf : Bytes f) (L : List (Nat × Nat)) (hL : L.length < 1000) (pa : Option Addr) (pc : Nat) (W : World) (hM : MemAt W b B size f L) (hu : UAt W pa K p) (hpc : K ≤ pc) (hpc2 : pc ≤ 9223372036854775807) :
    Calls Try.prog 36 #[.pointer (some ⟨b, 0, none⟩), .slice (some ⟨W.heap.size, 0, none⟩) 2 2, .slice pa K pc, .int .i64 o, .int .i64 N] (W.alloc (.cells #[.int .u64 l0, .int .u64 l1] 24)) (BuiltPost b B size l0 K p o N W) := by
  obtain ⟨k1, k2, k3, k4⟩ := bt_k h
  have hv := bt_varg h
  have hn0 := h.n0; have hn1 := h.n1; have ho0 := h.o0; have ho1 := h.o1; have hs := h.sz; have f0 := h.f0; have f1 := h.f1
  obtain ⟨W2, h2⟩ : ∃ z, z = W.alloc (.cells #[.int .u64 l0, .int .u64 l1] 24) := ⟨_, rfl⟩
  have u2 : UAt W2 (some ⟨W.heap.size, 0, none⟩) 2 (ls2 l0 l1) := by
    rw [h2]
    exact uAt_fresh W _ 2 _ _ (fun i hi => by match i, hi with | 0, _ => rfl | 1, _ => rfl)
  have b2 : Below W.heap.size W W2 := by rw [h2]; exact (Below.refl _ _).alloc (Nat.le_refl _) _
  rw [← h2]
  have hM2 := hM.below b2
  have hu2 := hu.below b2
  have hul : U64 2 (ls2 l0 l1) := fun i hi => by unfold ls2; split <;> omega
  have hup : U64 K p := fun i hi => by have := (h.pg i hi).2; omega
  have hsp : ∀ second, (K = 2 → second = p 1) → (3 ≤ K → second = (l0 : Int)) → spansP (bltF f l0 l1 R K p) size (p 0 + o) second N = .ok (outP p o N K) := fun second q1 q2 => spans_blt h second q1 q2
  have hp0 := (h.pg 0 (by omega)).1
  have hpg : pgs (p 0 + o) N = K := by
    have hk := h.k
    unfold pgs at hk ⊢
    rw [show (p 0 + o) % 4096 = o % 4096 by omega]
    exact hk
  rcases Nat.lt_or_ge K 3 with c | c
  · rcases (by omega : K = 1 ∨ K = 2) with rfl | rfl
    · refine (bld_1 _ pa 2 1 2 pc (ls2 l0 l1) p o N b B size f L W2 hM2 (by omega) u2 hu2 hul hup (by omega) (by omega) (by omega) (by omega) (by omega) (by omega) hv rfl).mono ?_
      rintro e w' ⟨rfl, hb⟩
      refine ⟨0, f, L, rfl, Keeps.of_below (b2.trans (hb.mono b2.size)), hM2.below hb, hf, by omega, by omega, fun e => by omega, ?_⟩
      rw [spansP_few f (bltF f l0 l1 R 1 p) _ _ _ _ (by rw [hpg]; omega)]
      exact hsp 0 (fun e => by omega) (fun e => by omega)
    · refine (bld_2 _ pa 2 2 2 pc (ls2 l0 l1) p o N b B size f L W2 hM2 (by omega) u2 hu2 hul hup (by omega) (by omega) (by omega) (by omega) (by omega) (by omega) hv rfl).mono ?_
      rintro e w' ⟨rfl, hb⟩
      refine ⟨p 1, f, L, rfl, Keeps.of_below (b2.trans (hb.mono b2.size)), hM2.below hb, hf, (hup 1 (by omega)).1, (hup 1 (by omega)).2, fun e => by omega, ?_⟩
      rw [spansP_few f (bltF f l0 l1 R 2 p) _ _ _ _ (by rw [hpg]; omega)]
      exact hsp _ (fun e => rfl) (fun e => by omega)
  · obtain ⟨D, hD1, hD2, hD3⟩ := plan_blt (f := f) h c (l := ls2 l0 l1) rfl (fun _ => rfl)
    obtain ⟨z, hz1, hz2⟩ := bt_lists h
    refine (bld_lists _ pa 2 K 2 pc (ls2 l0 l1) p o N b B size f L W2 hM2 (by omega) u2 hu2 hul hup (by omega) (by omega) (by omega) (by omega) (by omega) (by omega) hv c hpc hpc2 (by omega) (by omega) (fun a e hb => ?_) z hz1 hz2 _ hD1).mono ?_
    · cases e
      rcases hb with e | e
      · have := hM.lt; have e : W.heap.size = b := e; omega
      · have := hM.lt'; have e : W.heap.size = B := e; omega
    · rintro e w' (⟨D', hD', rfl, hk, hm⟩ | ⟨hD', -⟩)
      · cases hD'
        rw [hD2] at hm
        exact ⟨l0, _, _, rfl, (Keeps.of_below b2).trans hk, hm, bytes_blt hf, by omega, by omega, fun _ => rfl, hsp _ (fun e => by omega) (fun _ => rfl)⟩
      · cases hD'
/-- the lengths add up -/
def sumP (o N : Int) : Nat → Int
  | 0 => 0
  | k + 1 => sumP o N k + lenP o N k
theorem sumP_eq {o N : Int} (hn : 1 ≤ N) (ho : 0 ≤ o) (h1 : o < 4096) : ∀ k, sumP o N (k + 1) = min N (4096 * (k + 1 : Nat) - o) ∨ N + o < 4096 * k
  | 0 => by
    left
    show 0 + lenP o N 0 = _
    unfold lenP
    rw [if_pos rfl]
    omega
  | k + 1 => by
    rcases Int.lt_or_le (N + o) (4096 * (k + 1 : Nat)) with c | c
    · right; exact c
    · left
      rcases sumP_eq hn ho h1 k with h | h
      · show sumP o N (k + 1) + lenP o N (k + 1) = _
        rw [h]
        unfold lenP
        rw [if_neg (by omega)]
        omega
      · omega
theorem bt_sum {size l0 l1 R K : Nat} {p : Nat → Int} {o N : Int} (h : Bt size l0 l1 R K p o N) : sumP o N K = N := by
  obtain ⟨k1, k2, k3, k4⟩ := bt_k h
  obtain ⟨k, rfl⟩ : ∃ k, K = k + 1 := ⟨K - 1, by omega⟩
  rcases sumP_eq h.n0 h.o0 h.o1 k with e | e
  · rw [e]; omega
  · omega
/-- each span -/
theorem bt_span {size l0 l1 R K : Nat} {p : Nat → Int} {o N : Int} (h : Bt size l0 l1 R K p o N) (i : Nat) (hi : i < K) : 0 ≤ adP p o i ∧ 1 ≤ lenP o N i ∧ lenP o N i ≤ 4096 ∧ adP p o i + lenP o N i ≤ size ∧ adP p o i / 4096 = (adP p o i + lenP o N i - 1) / 4096 := by
  obtain ⟨k1, k2, k3, k4⟩ := bt_k h
  have hn0 := h.n0; have ho0 := h.o0; have ho1 := h.o1
  obtain ⟨p1, p2, p3⟩ := h.pg i hi
  unfold adP lenP
  split
  · subst i
    omega
  · omega
end Go.Proofs.Ytfmabknhfehdcaa

namespace Go.Proofs.Ytfmabknhfehdcaa
open Go.RowKit

/-- no span holds the byte -/
def Off (l : List Spn) (j : Nat) : Prop := ∀ x ∈ l, x.bk = false → ¬ (x.a.toNat ≤ j ∧ j < x.a.toNat + x.n.toNat)
theorem Off.tail {x : Spn} {r : List Spn} {j : Nat} (h : Off (x :: r) j) : Off r j := fun y hy => h y (List.mem_cons_of_mem _ hy)
theorem scat_off (g : Nat → Int) : ∀ (l : List Spn) (k : Nat) (f : Nat → Int) (j : Nat), Off l j → scatF g l k f j = f j
  | [], _, _, _, _ => rfl
  | x :: r, k, f, j, h => by
    unfold scatF
    rw [scat_off g r _ _ j h.tail]
    cases hb : x.bk
    · have := h x List.mem_cons_self hb
      rw [if_neg (by decide)]
      unfold upd
      rw [if_neg this]
    · rfl
theorem scat_pt (g : Nat → Int) : ∀ (l : List Spn) (k : Nat) (f f' : Nat → Int) (j : Nat), f j = f' j → scatF g l k f j = scatF g l k f' j
  | [], _, _, _, _, h => h
  | x :: r, k, f, f', j, h => by
    unfold scatF
    refine scat_pt g r _ _ _ j ?_
    cases x.bk
    · rw [if_neg (by decide), if_neg (by decide)]
      unfold upd
      rw [h]
    · exact h
theorem scat_upd (g h f : Nat → Int) (l : List Spn) (k a n : Nat) (ho : ∀ j, a ≤ j → j < a + n → Off l j) : scatF g l k (upd f a n h) = upd (scatF g l k f) a n h := by
  funext j
  by_cases c : a ≤ j ∧ j < a + n
  · rw [scat_off g l k _ j (ho j c.1 c.2)]
    unfold upd
    rw [if_pos c, if_pos c]
  · have e : upd f a n h j = f j := by unfold upd; rw [if_neg c]
    rw [scat_pt g l k _ f j e]
    unfold upd
    rw [if_neg c]
/-- spans apart from each other, without buckets -/
def Apart (l : List Spn) : Prop := l.Pairwise fun x y => x.a.toNat + x.n.toNat ≤ y.a.toNat ∨ y.a.toNat + y.n.toNat ≤ x.a.toNat
theorem gat_congr {F F' : Nat → Int} : ∀ (l : List Spn), (∀ x ∈ l, ∀ i, i < x.n.toNat → F (x.a.toNat + i) = F' (x.a.toNat + i)) → gatF F l = gatF F' l
  | [], _ => rfl
  | x :: r, h => by
    unfold gatF
    rw [gat_congr r fun y hy => h y (List.mem_cons_of_mem _ hy)]
    congr 1
    exact List.map_congr_left fun i hi => h x List.mem_cons_self i (List.mem_range.1 hi)
def sumN : List Spn → Nat
  | [] => 0
  | x :: r => x.n.toNat + sumN r
theorem gat_scat (g : Nat → Int) : ∀ (l : List Spn) (k : Nat) (f : Nat → Int), Apart l → (∀ x ∈ l, x.bk = false) → gatF (scatF g l k f) l = (List.range (sumN l)).map fun i => g (k + i)
  | [], _, _, _, _ => rfl
  | x :: r, k, f, ha, hb => by
    have h1 := List.pairwise_cons.1 ha
    have hx := hb x List.mem_cons_self
    unfold gatF scatF sumN
    rw [hx, if_neg (by decide), gat_scat g r (k + x.n.toNat) _ h1.2 (fun y hy => hb y (List.mem_cons_of_mem _ hy)), List.range_add, List.map_append, List.map_map]
    congr 1
    · refine List.map_congr_left fun i hi => ?_
      have hi := List.mem_range.1 hi
      rw [scat_off g r _ _ _ (fun y hy _ hc => by have := h1.1 y hy; omega)]
      unfold upd
      rw [if_pos (by omega), Nat.add_sub_cancel_left]
    · refine List.map_congr_left fun i _ => ?_
      show g (k + x.n.toNat + i) = g (k + (x.n.toNat + i))
      rw [Nat.add_assoc]
section
variable {p : Nat → Int} {o N : Int} {K : Nat}
/-- the pages are apart -/
structure Pgs (p : Nat → Int) (o : Int) (K : Nat) : Prop where
  o0 : 0 ≤ o
  o1 : o < 4096
  pg : ∀ i, i < K → p i % 4096 = 0 ∧ 0 ≤ p i
  ne : ∀ i j, i < K → j < K → i ≠ j → p i ≠ p j
theorem out_mem {x : Spn} {k : Nat} (h : x ∈ outP p o N k) : ∃ i, i < k ∧ x = ⟨adP p o i, lenP o N i, false⟩ := by
  obtain ⟨i, hi, e⟩ := List.mem_map.1 h
  exact ⟨i, List.mem_range.1 hi, e.symm⟩
theorem out_in (h : Pgs p o K) (i : Nat) (hi : i < K) : p i ≤ adP p o i ∧ adP p o i + lenP o N i ≤ p i + 4096 ∧ (i = 0 → adP p o i = p 0 + o) ∧ adP p o i < p i + 4096 := by
  have := h.o0; have := h.o1
  unfold adP lenP
  split
  · subst i; omega
  · omega
theorem out_off (h : Pgs p o K) {k : Nat} (hk : k ≤ K) (j : Nat) (hj : ∀ i, i < k → ¬ (adP p o i ≤ j ∧ (j : Int) < p i + 4096)) : Off (outP p o N k) j := fun x hx _ hc => by
  obtain ⟨i, hi, rfl⟩ := out_mem hx
  have h1 := out_in (N := N) h i (by omega)
  have h2 := (h.pg i (by omega)).2
  refine hj i hi ⟨?_, ?_⟩ <;> simp only [] at hc <;> omega
theorem out_apart (h : Pgs p o K) : ∀ k, k ≤ K → Apart (outP p o N k)
  | 0, _ => List.Pairwise.nil
  | k + 1, hk => by
    rw [outP_succ]
    refine List.pairwise_append.2 ⟨out_apart h k (by omega), List.pairwise_singleton _ _, fun x hx y hy => ?_⟩
    obtain ⟨i, hi, rfl⟩ := out_mem hx
    rw [List.mem_singleton] at hy
    subst hy
    have a1 := out_in (N := N) h i (by omega)
    have a2 := out_in (N := N) h k (by omega)
    have b1 := h.pg i (by omega)
    have b2 := h.pg k (by omega)
    have := h.ne i k (by omega) (by omega) (by omega)
    simp only []
    omega
theorem out_plain {k : Nat} : ∀ x ∈ outP p o N k, x.bk = false := fun x hx => by
  obtain ⟨i, hi, rfl⟩ := out_mem hx
  rfl
theorem out_sum (h0 : ∀ i, i < K → 0 ≤ lenP o N i) : ∀ k, k ≤ K → ((sumN (outP p o N k) : Nat) : Int) = sumP o N k
  | 0, _ => rfl
  | k + 1, hk => by
    have ih := out_sum h0 k (by omega)
    have hs : ∀ (a : List Spn) (x : Spn), sumN (a ++ [x]) = sumN a + x.n.toNat := fun a x => by
      induction a with
      | nil => simp [sumN]
      | cons y r ih => simp [sumN, ih]; omega
    rw [outP_succ, hs]
    have := h0 k (by omega)
    show ((sumN (outP p o N k) + (lenP o N k).toNat : Nat) : Int) = sumP o N k + lenP o N k
    omega
end
end Go.Proofs.Ytfmabknhfehdcaa
