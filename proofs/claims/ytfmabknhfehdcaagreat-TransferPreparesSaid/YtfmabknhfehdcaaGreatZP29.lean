/- transfer: Scatter: the next bytes of the data. -/
import Derived.Test.YtfmabknhfehdcaaGreatZP28
import Derived.Test.YtfmabknhfehdcaaGreatZP1
import Derived.ProofKit
import Derived.OpenShut
import Derived.ShutString
import Derived.ChangeOld
import Derived.Below
import Derived.Deep.Slices
import Derived.Test.YtfmabknhfehdcaaGreatZP25
import Derived.Laws.CopyOwn
import Derived.Test.YtfmabknhfehdcaaGreatZP11
namespace Go.Proofs.YtfmabknhfehdcaaGreat
set_option linter.unusedSimpArgs false
set_option linter.unusedVariables false
open Go.RowKit
theorem tclears_s : Clears 33 #[] (fun _ => False) (fun _ => True) (fun _ => True) := by
 refine ⟨fun args w => by simp [go_sem], fun w h => ?_⟩
 go_enter Tryz.func33, Tryz.ntmps33
 go_wp2_with fail
 go_end0
 exact ⟨rfl, Keeps.refl _ _, trivial⟩
set_option maxHeartbeats 2000000 in
theorem next_some (db : Nat) (ap : Addr) (m c n : Nat) (w : World) (hc : w.cell? ⟨db, 0, none⟩ = some (.slice (some ap) m c)) (hf : w.frozen? ⟨db, 0, none⟩ = false) (hn : n ≤ m) (hm : m ≤ c) (h63 : c ≤ 9223372036854775807) :
  Calls Tryz.prog 34 #[.int .i64 (n : Nat), .pointer (some ⟨db, 0, none⟩)] w fun e w' => e = .returned (.slice (some ap) n n) ∧ w' = w.setCell ⟨db, 0, none⟩ (.slice (some (if c = n then ap else ap.add n)) (m - n) (c - n)) := by
 go_enter Tryz.func34, Tryz.ntmps34
 go_wp2_with fail
 all_goals go_ret
 ·exact ⟨rfl, rfl⟩
 ·exact ⟨rfl, rfl⟩
/-- the next bytes of data that did not come in -/
theorem next_none (db : Nat) (w : World) (hc : w.cell? ⟨db, 0, none⟩ = some (.slice none 0 0)) (hf : w.frozen? ⟨db, 0, none⟩ = false) :
  Calls Tryz.prog 34 #[.int .i64 0, .pointer (some ⟨db, 0, none⟩)] w fun e w' => e = .returned (.slice none 0 0) ∧ w' = w.setCell ⟨db, 0, none⟩ (.slice none 0 0) := by
 go_enter Tryz.func34, Tryz.ntmps34
 go_wp2_with fail
 go_ret
 exact ⟨rfl, rfl⟩
/-- The rest of the data: m numbers g, outside of S. -/
def RestAt (S : Nat → Prop) (W : World) (v : Value) (m : Nat) (g : Nat → Int) : Prop :=
 (v = .slice none 0 0 ∧ m = 0) ∨ ∃ ap c, v = .slice (some ap) m c ∧ m ≤ c ∧ c ≤ 9223372036854775807 ∧ Src S W (some ap) m g
theorem RestAt.kept {S T : Nat → Prop} {w w' : World} {v : Value} {m : Nat} {g : Nat → Int} (h : RestAt S w v m g) (k : Keeps T w w') (hT : ∀ b, T b → S b) : RestAt S w' v m g := by
 rcases h with h | ⟨ap, c, h1, h2, h3, h4⟩
 ·exact .inl h
 ·exact .inr ⟨ap, c, h1, h2, h3, h4.kept k hT⟩
theorem RestAt.below {S : Nat → Prop} {w w' : World} {v : Value} {m : Nat} {g : Nat → Int} (h : RestAt S w v m g) (hb : Below w.heap.size w w') : RestAt S w' v m g := h.kept (Keeps.of_below (S := fun _ => False) hb) (fun _ e => e.elim)
theorem RestAt.form {S : Nat → Prop} {w : World} {v : Value} {m : Nat} {g : Nat → Int} (h : RestAt S w v m g) : ∃ ap c, v = .slice ap m c := by
 rcases h with ⟨h, h0⟩ | ⟨ap, c, h1, -⟩
 ·exact ⟨none, 0, by rw [h, h0]⟩
 ·exact ⟨_, _, h1⟩
theorem Src.first {S : Nat → Prop} {w : World} {ap : Option Addr} {m n : Nat} {g : Nat → Int} (h : Src S w ap m g) (hn : n ≤ m) : Src S w ap n g :=
 ⟨Nat.le_trans hn h.small, fun h0 => by
  obtain ⟨x, o, e, h1, h2⟩ := h.at' (by omega)
  exact ⟨x, o, e, h1, fun i hi => h2 i (by omega)⟩⟩
theorem Src.rest {S : Nat → Prop} {w : World} {ap : Addr} {m n c : Nat} {g : Nat → Int} (h : Src S w (some ap) m g) (hn : n ≤ m) (hc : m ≤ c) : Src S w (some (if c = n then ap else ap.add n)) (m - n) (fun i => g (n + i)) :=
 ⟨by have := h.small; omega, fun h0 => by
  obtain ⟨x, o, e, h1, h2⟩ := h.at' (by omega)
  cases e
  refine ⟨x, o + n, by rw [if_neg (by omega), Addr.add_mid], h1, fun i hi => ?_⟩
  have := h2 (n + i) (by omega)
  rw [← Nat.add_assoc] at this
  exact this⟩
/-- What the next bytes leave. -/
def SnPost (S : Nat → Prop) (db m n : Nat) (g : Nat → Int) (w : World) (e : Ending) (w' : World) : Prop :=
 ∃ ap v', e = .returned (.slice ap n n) ∧ w' = w.setCell ⟨db, 0, none⟩ v' ∧ Src S w' ap n g ∧ RestAt S w' v' (m - n) (fun i => g (n + i))
theorem snext_any (S : Nat → Prop) (db : Nat) (v : Value) (m n : Nat) (g : Nat → Int) (w : World) (hc : w.cell? ⟨db, 0, none⟩ = some v) (hf : w.frozen? ⟨db, 0, none⟩ = false) (h : RestAt S w v m g) (hn : n ≤ m) (hS : S db) :
  Calls Tryz.prog 34 #[.int .i64 (n : Nat), .pointer (some ⟨db, 0, none⟩)] w (SnPost S db m n g w) := by
 have hk : ∀ v', Keeps (One db) w (w.setCell ⟨db, 0, none⟩ v') := fun v' => (Keeps.refl _ w).set1 _ _
 have hTS : ∀ j, One db j → S j := fun j e => by have e : j = db := e; rw [e]; exact hS
 rcases h with ⟨rfl, rfl⟩ | ⟨ap, c, rfl, h1, h2, h3⟩
 ·obtain rfl : n = 0 := by omega
  refine (next_none db w hc hf).mono ?_
  rintro e w' ⟨rfl, rfl⟩
  exact ⟨none, _, rfl, rfl, ⟨by omega, fun h => by omega⟩, .inl ⟨rfl, rfl⟩⟩
 ·refine (next_some db ap m c n w hc hf hn h1 h2).mono ?_
  rintro e w' ⟨rfl, rfl⟩
  exact ⟨some ap, _, rfl, rfl, (h3.first hn).kept (hk _) hTS, .inr ⟨_, _, rfl, by omega, by omega, (h3.rest hn h1).kept (hk _) hTS⟩⟩
end Go.Proofs.YtfmabknhfehdcaaGreat
namespace Go.Proofs.YtfmabknhfehdcaaGreat
set_option linter.unusedSimpArgs false
set_option linter.unusedVariables false
open Go.ChangeShapes Go.WideShapes Go.ChangeAt Go.RowKit Go.Deep
/-- A cell's kind: an integer, a bool, a string. -/
abbrev Leaf := Option (Option IntKind)
def leafOk : Leaf → Value → Prop
 | some (some k), v => ∃ n, v = .int k n ∧ (Lit.int k n).wf = true
 | some none, v => ∃ b, v = .bool b
 | none, v => ∃ s : ByteArray, v = .string s ∧ s.size ≤ maxLen
structure FlatT (P : Program) (t : TypeId) (ls : List Leaf) : Prop where
 cells : P.cellsOf t = ls.length
 read : ∀ {H : Type} {enc : TypeId × Value → H} {W : World} {base : Nat} {spare : Nat → Bool} {held : Bool} {fuel : Nat} {cs : List Value} {x : DataW H × List MemPlace},
  DataW.trod enc P W base spare held fuel t cs = some x → cs.length = ls.length ∧ ∀ (j : Nat) l, ls[j]? = some l → ∃ v, cs[j]? = some v ∧ leafOk l v
theorem FlatT.int {P : Program} {t : TypeId} {k : IntKind} (ht : P.underlying t = some (.int k)) (hc : P.cellsOf t = 1) : FlatT P t [some (some k)] := by
 refine ⟨hc, fun h => ?_⟩
 obtain ⟨n, rfl, -, hw⟩ := DataW.trod_int ht h
 refine ⟨rfl, fun j l hl => ?_⟩
 match j with
 | 0 => simp at hl; subst hl; exact ⟨_, rfl, n, rfl, hw⟩
 | j + 1 => simp at hl
theorem FlatT.bool {P : Program} {t : TypeId} (ht : P.underlying t = some .bool) (hc : P.cellsOf t = 1) : FlatT P t [some none] := by
 refine ⟨hc, fun h => ?_⟩
 obtain ⟨b, rfl, -⟩ := DataW.trod_bool ht h
 refine ⟨rfl, fun j l hl => ?_⟩
 match j with
 | 0 => simp at hl; subst hl; exact ⟨_, rfl, b, rfl⟩
 | j + 1 => simp at hl
theorem part_get {cs : List Value} {o n j : Nat} (hj : j < n) : ((cs.drop o).take n)[j]? = cs[o + j]? := by
 rw [List.getElem?_take, if_pos hj, List.getElem?_drop]
theorem FlatT.array {P : Program} {t e : TypeId} {n : Nat} {le ls : List Leaf} (ht : P.underlying t = some (.array n e)) (he : FlatT P e le) (hc : P.cellsOf t = ls.length) (h0 : 0 < le.length) (hn : ls.length = n * le.length)
  (hls : ∀ j : Nat, j < ls.length → ls[j]? = le[j % le.length]?) : FlatT P t ls := by
 refine ⟨hc, fun h => ?_⟩
 obtain ⟨xs, m, -, -, hl, hlen, hf⟩ := DataW.trod_array ht h
 rw [hc] at hl
 refine ⟨hl, fun j l hj => ?_⟩
 have hjl : j < ls.length := (List.getElem?_eq_some_iff.1 hj).1
 have hi : j / le.length < n := by rw [Nat.div_lt_iff_lt_mul h0]; omega
 have h1 := hf (j / le.length) hi
 rw [List.getElem?_eq_getElem (by omega)] at h1
 have h2 := (he.read h1).2 (j % le.length) l (by rw [← hls j hjl, hj])
 obtain ⟨v, hv, hlv⟩ := h2
 refine ⟨v, ?_, hlv⟩
 rw [he.cells, part_get (Nat.mod_lt _ h0)] at hv
 rw [← hv]
 congr 1
 rw [Nat.mul_comm]; exact (Nat.div_add_mod _ _).symm
theorem FlatT.struct {P : Program} {t : TypeId} {fs : Array Field} {ls : List Leaf} (subs : List (Nat × List Leaf)) (ht : P.underlying t = some (.struct fs)) (hc : P.cellsOf t = ls.length)
  (hf : ∀ (i : Nat) s, subs[i]? = some s → ∃ f, fs[i]? = some f ∧ f.offset = s.1 ∧ FlatT P f.type s.2)
  (hcov : (List.range ls.length).all (fun j => subs.any fun s => decide (s.1 ≤ j) && (decide (j < s.1 + s.2.length) && (s.2[j - s.1]? == ls[j]?))) = true) : FlatT P t ls := by
 refine ⟨hc, fun h => ?_⟩
 obtain ⟨xs, m, -, -, hl, hlen, hx⟩ := DataW.trod_struct ht h
 rw [hc] at hl
 refine ⟨hl, fun j l hj => ?_⟩
 have hjl : j < ls.length := (List.getElem?_eq_some_iff.1 hj).1
 have h1 := List.all_eq_true.1 hcov j (List.mem_range.2 hjl)
 obtain ⟨s, hs, h2⟩ := List.any_eq_true.1 h1
 simp only [Bool.and_eq_true, decide_eq_true_eq, beq_iff_eq] at h2
 obtain ⟨h3, h4, h5⟩ := h2
 obtain ⟨i, hi, rfl⟩ := List.mem_iff_getElem.1 hs
 obtain ⟨f, hfi, hoff, hflat⟩ := hf i _ (List.getElem?_eq_getElem hi)
 have h6 := hx i f hfi
 have hil : i < xs.length := by rw [hlen]; exact (Array.getElem?_eq_some_iff.1 hfi).1
 rw [List.getElem?_eq_getElem hil] at h6
 obtain ⟨v, hv, hlv⟩ := (hflat.read h6).2 (j - subs[i].1) l (by rw [h5, hj])
 refine ⟨v, ?_, hlv⟩
 rw [hflat.cells, part_get (by omega), hoff] at hv
 rw [← hv]
 congr 1
 omega
theorem choose_below {α : Type} [Inhabited α] {p : Nat → α → Prop} {n : Nat} (h : ∀ i, i < n → ∃ v, p i v) : ∃ V : Nat → α, ∀ i, i < n → p i (V i) := by
 classical
 refine ⟨fun i => if hi : i < n then (h i hi).choose else default, fun i hi => ?_⟩
 simp only [hi, dif_pos]
 exact (h i hi).choose_spec
/-- The values V are of the kinds ls. -/
def Kinds (ls : List Leaf) (V : Nat → Value) : Prop := ∀ (j : Nat) l, ls[j]? = some l → leafOk l (V j)
theorem FlatT.values {P : Program} {t : TypeId} {ls : List Leaf} (hF : FlatT P t ls) {H : Type} {enc : TypeId × Value → H} {W : World} {base : Nat} {spare : Nat → Bool} {held : Bool} {fuel : Nat} {cs : List Value} {x : DataW H × List MemPlace}
  (h : DataW.trod enc P W base spare held fuel t cs = some x) : ∃ V, cs = (arr ls.length V).toList ∧ Kinds ls V := by
 obtain ⟨hl, hr⟩ := hF.read h
 obtain ⟨V, hV⟩ := choose_below (n := ls.length) (α := Value) (p := fun j v => cs[j]? = some v ∧ ∀ l, ls[j]? = some l → leafOk l v) (fun j hj => by
  obtain ⟨v, hv, hlv⟩ := hr j _ (List.getElem?_eq_getElem hj)
  exact ⟨v, hv, fun l hl => by rw [List.getElem?_eq_getElem hj] at hl; cases hl; exact hlv⟩)
 refine ⟨V, ?_, fun j l hl => (hV j (List.getElem?_eq_some_iff.1 hl).1).2 l hl⟩
 apply List.ext_getElem?
 intro j
 by_cases hj : j < ls.length
 ·rw [(hV j hj).1]; simp [arr, hj]
 ·rw [List.getElem?_eq_none (by omega), List.getElem?_eq_none (by simp [arr]; omega)]
/-- A value of a flat struct or array by value. -/
theorem FlatT.view {P : Program} {t : TypeId} {ls : List Leaf} (hF : FlatT P t ls) {H : Type} {enc : TypeId × Value → H} (W : World) (u : Value) (d : DataW H) (p : List MemPlace) (hu : ∃ cs : Array Value, u = .agg cs)
  (h : DataW.Trod enc P W 0 (fun _ => true) true t u d p) : ∃ V, u = .agg (arr ls.length V) ∧ Kinds ls V := by
 obtain ⟨cs, rfl⟩ := hu
 obtain ⟨fuel, hf⟩ := h
 obtain ⟨V, e, hV⟩ := hF.values hf
 refine ⟨V, ?_, hV⟩
 have e2 : cs.toList = (arr ls.length V).toList := e
 rw [show cs = arr ls.length V from by apply Array.toList_inj.1; exact e2]
theorem addr_of_cell {w : World} {a : Addr} {v : Value} (h : w.cell? a = some v) : a = ⟨a.block, a.off, none⟩ := by
 obtain ⟨b, o, s⟩ := a
 cases s with
 | none => rfl
 | some s =>
  unfold World.cell? at h
  simp only at h
  split at h <;> simp at h
/-- The values of a slice of flat structs, m cells each. -/
def RowsOf (ls : List Leaf) (W : World) (ao : Option Addr) (len : Nat) (X : Nat → Nat → Value) : Prop :=
 ∀ i, i < len → ∃ g o, ao = some ⟨g, o, none⟩ ∧ (∀ j, j < ls.length → W.cell? ⟨g, o + i * ls.length + j, none⟩ = some (X i j)) ∧ Kinds ls (X i)
theorem FlatT.slice {P : Program} {t e : TypeId} {ls : List Leaf} (hF : FlatT P e ls) (h0 : 0 < ls.length) (ht : P.underlying t = some (.slice e)) {H : Type} {enc : TypeId × Value → H} {base : Nat} (W : World) (u : Value) (d : DataW H) (p : List MemPlace) (hok : Value.okWide P W .any base t u)
  (h : DataW.Trod enc P W 0 (fun _ => true) true t u d p) : ∃ ao len cap X, u = .slice ao len cap ∧ (RowsOf ls W ao len X ∧ len ≤ maxLen) := by
 obtain ⟨ao, len, cap, rfl⟩ := okWide_slice ht hok
 obtain ⟨fuel, hf⟩ := h
 rcases open_slice ht hf with ⟨hcs, -⟩ | ⟨a, len', cap', m, n, D, Pl, hcs, -, hl, hcap, hm, -, hx⟩
 ·simp [Value.cells] at hcs
  obtain ⟨rfl, rfl, rfl⟩ := hcs
  exact ⟨_, _, _, fun _ _ => undef, rfl, fun i hi => by omega, by unfold maxLen; omega⟩
 ·simp [Value.cells] at hcs
  obtain ⟨rfl, rfl, rfl⟩ := hcs
  have hmc : m = cap := by simpa using hm
  rw [hF.cells] at hx
  obtain ⟨X, hX⟩ := choose_below (n := len) (α := Nat → Value) (p := fun i X => (∀ j, j < ls.length → W.cell? ((a.add (i * ls.length)).add j) = some (X j)) ∧ Kinds ls X) (fun i hi => by
   obtain ⟨cs', h1, h2⟩ := hx i (by omega)
   obtain ⟨-, -, h3⟩ := World.cells?_some h1
   obtain ⟨V, rfl, hV⟩ := hF.values h2
   exact ⟨V, fun j hj => by rw [h3 j hj]; simp [arr, hj], hV⟩)
  refine ⟨_, _, _, X, rfl, fun i hi => ?_, by omega⟩
  obtain ⟨h1, h2⟩ := hX i hi
  have h0' := (hX 0 (by omega)).1 0 h0
  have ea := addr_of_cell h0'
  obtain ⟨g, o, s⟩ := a
  have es : s = none := by
   cases s with
   | none => rfl
   | some s => simp [Addr.add] at ea
  subst es
  refine ⟨g, o, rfl, fun j hj => ?_, h2⟩
  have := h1 j hj
  rw [Addr.add_mid, Addr.add_mid] at this
  exact this
end Go.Proofs.YtfmabknhfehdcaaGreat
namespace Go.Proofs.YtfmabknhfehdcaaGreat
set_option linter.unusedSimpArgs false
set_option linter.unusedVariables false
open Go.ChangeShapes Go.WideShapes Go.ChangeAt Go.RowKit Go.Deep
def lU64 : Leaf := some (some .u64)
theorem flU64 : FlatT Tryz.prog 24 [lU64] := FlatT.int Tryz.underlying24 (by kernel_rfl)
def lsCel : List Leaf := [lU64, lU64]
def vN (v : Value) : Int := match v with | .int _ n => n | _ => 0
theorem leaf_int {k : IntKind} {v : Value} (h : leafOk (some (some k)) v) : v = .int k (vN v) ∧ (Lit.int k (vN v)).wf = true := by
 obtain ⟨n, rfl, hw⟩ := h
 exact ⟨rfl, hw⟩
/-- A list of cells lies at ao: their addresses, their values. -/
def CAt (w : World) (ao : Option Addr) (n : Nat) (a v : Nat → Int) : Prop := ∀ i, i < n → ∃ g o, ao = some ⟨g, o, none⟩ ∧ w.cell? ⟨g, o + i * 2, none⟩ = some (.int .u64 (a i)) ∧ w.cell? ⟨g, o + i * 2 + 1, none⟩ = some (.int .u64 (v i))
theorem CAt.below {w w' : World} {ao : Option Addr} {n : Nat} {a v : Nat → Int} (h : CAt w ao n a v) (hb : Below w.heap.size w w') : CAt w' ao n a v := fun i hi => by
 obtain ⟨g, o, e, h1, h2⟩ := h i hi
 exact ⟨g, o, e, (hb.cell (p := ⟨g, o + i * 2, none⟩) (World.block_lt_of_cell? _ _ h1)).trans h1, (hb.cell (p := ⟨g, o + i * 2 + 1, none⟩) (World.block_lt_of_cell? _ _ h2)).trans h2⟩
section
variable (pg : Int) (ao : Option Addr) (n c : Nat) (ca cv : Nat → Int) (w : World) (hp0 : 0 ≤ pg) (hp1 : pg ≤ 255) (hC : CAt w ao n ca cv) (hok : U64 n ca) (hov : U64 n cv) (hn : n ≤ maxLen)
include hp0 hp1 hC hok hov hn
end
end Go.Proofs.YtfmabknhfehdcaaGreat
namespace Go.Proofs.YtfmabknhfehdcaaGreat
set_option linter.unusedSimpArgs false
set_option linter.unusedVariables false
open Go.RowKit Go.Shelf
/-- What lies in memory in PrpNone. -/
structure NoneI (w : World) (q : Option Addr) (W : World) : Prop where
 below : Below w.heap.size w W
 nomem : NoMem W q
 r8 : W.rowIs w.heap.size 4 1 (fun _ => .bool false)
theorem NoneI.quiet {w A B : World} {N : Nat} {q : Option Addr} (h : NoneI w q A) (k : Quiet N A B) (hN : w.heap.size ≤ N) : NoneI w q B :=
 ⟨k.below h.below hN, k.nomem h.nomem, k.rowIs h.r8⟩
theorem NoneI.go {w A B : World} {q : Option Addr} (h : NoneI w q A) (k : Below A.heap.size A B) : NoneI w q B :=
 ⟨h.below.trans (k.mono h.below.size), h.nomem.below k, (Keeps.of_below (S := fun _ => False) k).rowIs h.r8 (fun e => e)⟩
end Go.Proofs.YtfmabknhfehdcaaGreat
namespace Go.Proofs.YtfmabknhfehdcaaGreat
set_option linter.unusedSimpArgs false
set_option linter.unusedVariables false
open Go.RowKit
/-- two lists -/
def ls2 (l0 l1 : Nat) (i : Nat) : Int := if i = 0 then l0 else l1
/-- What Build leaves. -/
def BuiltPost (b B size l0 K : Nat) (p : Nat → Int) (o N : Int) (W : World) (e : Ending) (w' : World) : Prop :=
 ∃ (second : Int) (F : Nat → Int) (L : List (Nat × Nat)), e = .returned (.tuple #[.int .u64 (p 0 + o), .int .u64 second, .int .i64 0]) ∧ Keeps (Two b B) W w' ∧ MemAt w' b B size F L ∧ Bytes F ∧ 0 ≤ second ∧ second ≤ 18446744073709551615 ∧ (3 ≤ K → second = l0) ∧ spansP F size (p 0 + o) second N = .ok (outP p o N K)
/-- the lengths add up -/
def sumP (o N : Int) : Nat → Int
 | 0 => 0
 | k + 1 => sumP o N k + lenP o N k
end Go.Proofs.YtfmabknhfehdcaaGreat
namespace Go.Proofs.YtfmabknhfehdcaaGreat
set_option linter.unusedSimpArgs false
set_option linter.unusedVariables false
open Go.RowKit
/-- no span holds the byte -/
def Off (l : List Spn) (j : Nat) : Prop := ∀ x ∈ l, x.bk = false → ¬ (x.a.toNat ≤ j ∧ j < x.a.toNat + x.n.toNat)
/-- spans apart from each other, without buckets -/
def Apart (l : List Spn) : Prop := l.Pairwise fun x y => x.a.toNat + x.n.toNat ≤ y.a.toNat ∨ y.a.toNat + y.n.toNat ≤ x.a.toNat
def sumN : List Spn → Nat
 | [] => 0
 | x :: r => x.n.toNat + sumN r
section
variable {p : Nat → Int} {o N : Int} {K : Nat}
/-- the pages are apart -/
structure Pgs (p : Nat → Int) (o : Int) (K : Nat) : Prop where
 o0 : 0 ≤ o
 o1 : o < 4096
 pg : ∀ i, i < K → p i % 4096 = 0 ∧ 0 ≤ p i
 ne : ∀ i j, i < K → j < K → i ≠ j → p i ≠ p j
end
end Go.Proofs.YtfmabknhfehdcaaGreat
