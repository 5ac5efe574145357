/- prp: the plan of Build is the memory that is known. -/
import Derived.Test.YtfmabknhfehdcaaZT14
import Derived.Test.YtfmabknhfehdcaaZT10
import Derived.Test.YtfmabknhfehdcaaZT1
import Derived.ProofKit
import Derived.OpenShut
import Derived.ShutString
import Derived.ChangeOld
import Derived.Below
import Derived.Deep.Slices
import Derived.Laws.CopyOwn
namespace Go.Proofs.Ytfmabknhfehdcaa
set_option linter.unusedVariables false
set_option linter.unusedSimpArgs false
open Go.RowKit

theorem plan_blt {f : Nat → Int} {size l0 l1 R K : Nat} {p : Nat → Int} {o N : Int} (h : Bt size l0 l1 R K p o N) (h3 : 3 ≤ K) {l : Nat → Int} (e0 : l 0 = l0) (e1 : R + 1 < K → l 1 = l1) :
    ∃ D, planP l p K size 2 0 1 [] = .ok D ∧ itF f D = bltF f l0 l1 R K p ∧ D.length ≤ 2 := by
  have hr := h.r; have ha := h.a0; have hne := h.ne; have hk := bt_k h; have hf0 := h.f0; have hf1 := h.f1; have ha1 := h.a1
  have hR : (roomP (l 0)).toNat = R := by rw [e0]; unfold roomP; omega
  have hR1 : 1 ≤ R := by omega
  by_cases hK : K ≤ R + 1
  · have i0 : itm l p K 0 1 = ⟨l 0, fun e => p (1 + e), K - 1⟩ := by unfold itm; rw [if_pos (by rw [hR]; omega)]
    have n0 : nxs l K 0 1 = K := by unfold nxs; rw [if_pos (by rw [hR]; omega)]
    refine ⟨[⟨l 0, fun e => p (1 + e), K - 1⟩], ?_, ?_, by simp⟩
    · unfold planP
      rw [if_neg (by omega), i0, if_pos (by unfold Itm.Fits; simp only [e0]; omega), n0, planP_end (Nat.le_refl _)]
      rfl
    · show upd f (l 0).toNat (8 * (K - 1)) (wB fun e => p (1 + e)) = _
      unfold bltF
      rw [if_pos hK, e0, Int.toNat_natCast]
      simp only [Nat.add_comm]
  · have e1 := e1 (by omega)
    have i0 : itm l p K 0 1 = ⟨l 0, fun e => if e + 1 < R then p (1 + e) else l 1, R⟩ := by unfold itm; rw [if_neg (by rw [hR]; omega), hR]
    have n0 : nxs l K 0 1 = R := by unfold nxs; rw [if_neg (by rw [hR]; omega), hR]; omega
    have hR2 : (roomP (l 1)).toNat = 512 := by rw [e1]; unfold roomP; omega
    have i1 : itm l p K 1 R = ⟨l 1, fun e => p (R + e), K - R⟩ := by unfold itm; rw [if_pos (by rw [hR2]; omega)]
    have n1 : nxs l K 1 R = K := by unfold nxs; rw [if_pos (by rw [hR2]; omega)]
    refine ⟨[⟨l 0, fun e => if e + 1 < R then p (1 + e) else l 1, R⟩, ⟨l 1, fun e => p (R + e), K - R⟩], ?_, ?_, by simp⟩
    · unfold planP
      rw [if_neg (by omega), i0, if_pos (by unfold Itm.Fits; simp only [e0]; omega), n0]
      unfold planP
      rw [if_neg (by omega), i1, if_pos (by unfold Itm.Fits; simp only [e1]; omega), n1, planP_end (Nat.le_refl _)]
      rfl
    · show upd (upd f (l 0).toNat (8 * R) (wB fun e => if e + 1 < R then p (1 + e) else l 1)) (l 1).toNat (8 * (K - R)) (wB fun e => p (R + e)) = _
      unfold bltF
      rw [if_neg hK, e0, e1, Int.toNat_natCast, Int.toNat_natCast]
      simp only [Nat.add_comm]
end Go.Proofs.Ytfmabknhfehdcaa

namespace Go.Proofs.Ytfmabknhfehdcaa
open Go.RowKit

theorem spans_all (x y n : Int) (b B size : Nat) (f : Nat → Int) (L : List (Nat × Nat)) (w : World) (hM : MemAt w b B size f L) (hs : 0 < size) (hx0 : 0 ≤ x) (hx1 : x ≤ 18446744073709551615) (hy0 : 0 ≤ y) (hy1 : y ≤ 18446744073709551615) (hby : Bytes f) :
    Calls Try.prog 92 #[.pointer (some ⟨b, 0, none⟩), .int .u64 x, .int .u64 y, .int .i64 n] w (SpPost w (spansP f size x y n)) := by
  by_cases h0 : n < 0 ∨ 1048576 < n
  · have e : spansP f size x y n = .error 2 := by unfold spansP; rw [if_pos h0]
    rw [e]
    exact spans_arg x y n b B size f L w hM hs h0
  · by_cases hz : n = 0
    · have e : spansP f size x y n = .ok [] := by unfold spansP; rw [if_neg h0, if_pos hz]
      rw [e]
      exact spans_zero x y n b B size f L w hM hs hz
    · exact spans_pos x y n b B size f L w hM hs hx0 hx1 hy0 hy1 hby (by omega) (by omega) _ rfl
theorem new4 (w : World) : Calls Try.prog 15 #[.int .i64 4] w fun e w' => ∃ b B, e = .returned (.tuple #[.pointer (some ⟨b, 0, none⟩), .int .i64 0]) ∧ w.heap.size ≤ b ∧ w.heap.size ≤ B ∧ Below w.heap.size w w' ∧ MemAt w' b B 16384 (fun _ => 0) [] := by
  have h := new_ok 4 w (by omega) (by omega)
  rw [show 4 * 4096 = 16384 by omega] at h
  exact h
theorem bytes_wB (g : Nat → Int) : Bytes (wB g) := wB_bd g
/-- the pages of the examples -/
def wkP (i : Nat) : Int := if i = 1 then 4096 else if i = 2 then 8192 else if i = 3 then 4096 else 0
def wkF : Nat → Int := upd (fun _ => 0) 12272 16 (wB fun e => wkP (1 + e))
theorem uAt_fresh (w : World) (A : Array Value) (n : Nat) (l : Nat → Int) (T : TypeId) (h : ∀ i, i < n → A[i]? = some (.int .u64 (l i))) : UAt (w.alloc (.cells A T)) (some ⟨w.heap.size, 0, none⟩) n l := fun h0 => by
  have hp : 0 < A.size := by
    have := (Array.getElem?_eq_some_iff.1 (h 0 h0)).1
    omega
  refine ⟨_, 0, rfl, fun i hi => ?_⟩
  rw [Nat.zero_add]
  exact (ArrAt.fresh w A T hp).cell (h i hi)
/-- The examples so far: nothing older is touched, the memory is there. -/
structure Wk (w : World) (b B : Nat) (f : Nat → Int) (L : List (Nat × Nat)) (W : World) : Prop where
  below : Below w.heap.size w W
  mem : MemAt W b B 16384 f L
theorem Wk.go {w : World} {b B : Nat} {f : Nat → Int} {L : List (Nat × Nat)} {W W' : World} (h : Wk w b B f L W) (hb : Below W.heap.size W W') : Wk w b B f L W' := ⟨h.below.trans (hb.mono h.below.size), h.mem.below hb⟩
end Go.Proofs.Ytfmabknhfehdcaa

namespace Go.Proofs.Ytfmabknhfehdcaa
open Go.ChangeShapes Go.WideShapes Go.ChangeAt Go.RowKit Go.Deep

/-- A cell's kind: an integer, a bool, a string. -/
abbrev Leaf := Option (Option IntKind)
def leafOk : Leaf → Value → Prop
  | some (some k), v => ∃ n, v = .int k n ∧ (Lit.int k n).wf = true
  | some none, v => ∃ b, v = .bool b
  | none, v => ∃ s : ByteArray, v = .string s ∧ s.size ≤ maxLen

structure FlatT (P : Program) (t : TypeId) (ls : List Leaf) : Prop where
  cells : P.cellsOf t = ls.length
  read : ∀ {H : Type} {enc : TypeId × Value → H} {W : World} {base : Nat} {spare : Nat → Bool} {held : Bool} {fuel : Nat} {cs : List Value} {x : DataW H × List MemPlace},
    DataW.trod enc P W base spare held fuel t cs = some x → cs.length = ls.length ∧ ∀ (j : Nat) l, ls[j]? = some l → ∃ v, cs[j]? = some v ∧ leafOk l v

theorem FlatT.int {P : Program} {t : TypeId} {k : IntKind} (ht : P.underlying t = some (.int k)) (hc : P.cellsOf t = 1) : FlatT P t [some (some k)] := by
  refine ⟨hc, fun h => ?_⟩
  obtain ⟨n, rfl, -, hw⟩ := DataW.trod_int ht h
  refine ⟨rfl, fun j l hl => ?_⟩
  match j with
  | 0 => simp at hl; subst hl; exact ⟨_, rfl, n, rfl, hw⟩
  | j + 1 => simp at hl
theorem FlatT.bool {P : Program} {t : TypeId} (ht : P.underlying t = some .bool) (hc : P.cellsOf t = 1) : FlatT P t [some none] := by
  refine ⟨hc, fun h => ?_⟩
  obtain ⟨b, rfl, -⟩ := DataW.trod_bool ht h
  refine ⟨rfl, fun j l hl => ?_⟩
  match j with
  | 0 => simp at hl; subst hl; exact ⟨_, rfl, b, rfl⟩
  | j + 1 => simp at hl
theorem part_get {cs : List Value} {o n j : Nat} (hj : j < n) : ((cs.drop o).take n)[j]? = cs[o + j]? := by
  rw [List.getElem?_take, if_pos hj, List.getElem?_drop]

theorem FlatT.array {P : Program} {t e : TypeId} {n : Nat} {le ls : List Leaf} (ht : P.underlying t = some (.array n e)) (he : FlatT P e le) (hc : P.cellsOf t = ls.length) (h0 : 0 < le.length) (hn : ls.length = n * le.length)
    (hls : ∀ j : Nat, j < ls.length → ls[j]? = le[j % le.length]?) : FlatT P t ls := by
  refine ⟨hc, fun h => ?_⟩
  obtain ⟨xs, m, -, -, hl, hlen, hf⟩ := DataW.trod_array ht h
  rw [hc] at hl
  refine ⟨hl, fun j l hj => ?_⟩
  have hjl : j < ls.length := (List.getElem?_eq_some_iff.1 hj).1
  have hi : j / le.length < n := by rw [Nat.div_lt_iff_lt_mul h0]; omega
  have h1 := hf (j / le.length) hi
  rw [List.getElem?_eq_getElem (by omega)] at h1
  have h2 := (he.read h1).2 (j % le.length) l (by rw [← hls j hjl, hj])
  obtain ⟨v, hv, hlv⟩ := h2
  refine ⟨v, ?_, hlv⟩
  rw [he.cells, part_get (Nat.mod_lt _ h0)] at hv
  rw [← hv]
  congr 1
  rw [Nat.mul_comm]; exact (Nat.div_add_mod _ _).symm

theorem FlatT.struct {P : Program} {t : TypeId} {fs : Array Field} {ls : List Leaf} (subs : List (Nat × List Leaf)) (ht : P.underlying t = some (.struct fs)) (hc : P.cellsOf t = ls.length)
    (hf : ∀ (i : Nat) s, subs[i]? = some s → ∃ f, fs[i]? = some f ∧ f.offset = s.1 ∧ FlatT P f.type s.2)
    (hcov : (List.range ls.length).all (fun j => subs.any fun s => decide (s.1 ≤ j) && (decide (j < s.1 + s.2.length) && (s.2[j - s.1]? == ls[j]?))) = true) : FlatT P t ls := by
  refine ⟨hc, fun h => ?_⟩
  obtain ⟨xs, m, -, -, hl, hlen, hx⟩ := DataW.trod_struct ht h
  rw [hc] at hl
  refine ⟨hl, fun j l hj => ?_⟩
  have hjl : j < ls.length := (List.getElem?_eq_some_iff.1 hj).1
  have h1 := List.all_eq_true.1 hcov j (List.mem_range.2 hjl)
  obtain ⟨s, hs, h2⟩ := List.any_eq_true.1 h1
  simp only [Bool.and_eq_true, decide_eq_true_eq, beq_iff_eq] at h2
  obtain ⟨h3, h4, h5⟩ := h2
  obtain ⟨i, hi, rfl⟩ := List.mem_iff_getElem.1 hs
  obtain ⟨f, hfi, hoff, hflat⟩ := hf i _ (List.getElem?_eq_getElem hi)
  have h6 := hx i f hfi
  have hil : i < xs.length := by rw [hlen]; exact (Array.getElem?_eq_some_iff.1 hfi).1
  rw [List.getElem?_eq_getElem hil] at h6
  obtain ⟨v, hv, hlv⟩ := (hflat.read h6).2 (j - subs[i].1) l (by rw [h5, hj])
  refine ⟨v, ?_, hlv⟩
  rw [hflat.cells, part_get (by omega), hoff] at hv
  rw [← hv]
  congr 1
  omega

theorem choose_below {α : Type} [Inhabited α] {p : Nat → α → Prop} {n : Nat} (h : ∀ i, i < n → ∃ v, p i v) : ∃ V : Nat → α, ∀ i, i < n → p i (V i) := by
  classical
  refine ⟨fun i => if hi : i < n then (h i hi).choose else default, fun i hi => ?_⟩
  simp only [hi, dif_pos]
  exact (h i hi).choose_spec

/-- The values V are of the kinds ls. -/
def Kinds (ls : List Leaf) (V : Nat → Value) : Prop := ∀ (j : Nat) l, ls[j]? = some l → leafOk l (V j)

theorem FlatT.values {P : Program} {t : TypeId} {ls : List Leaf} (hF : FlatT P t ls) {H : Type} {enc : TypeId × Value → H} {W : World} {base : Nat} {spare : Nat → Bool} {held : Bool} {fuel : Nat} {cs : List Value} {x : DataW H × List MemPlace}
    (h : DataW.trod enc P W base spare held fuel t cs = some x) : ∃ V, cs = (arr ls.length V).toList ∧ Kinds ls V := by
  obtain ⟨hl, hr⟩ := hF.read h
  obtain ⟨V, hV⟩ := choose_below (n := ls.length) (α := Value) (p := fun j v => cs[j]? = some v ∧ ∀ l, ls[j]? = some l → leafOk l v) (fun j hj => by
    obtain ⟨v, hv, hlv⟩ := hr j _ (List.getElem?_eq_getElem hj)
    exact ⟨v, hv, fun l hl => by rw [List.getElem?_eq_getElem hj] at hl; cases hl; exact hlv⟩)
  refine ⟨V, ?_, fun j l hl => (hV j (List.getElem?_eq_some_iff.1 hl).1).2 l hl⟩
  apply List.ext_getElem?
  intro j
  by_cases hj : j < ls.length
  · rw [(hV j hj).1]; simp [arr, hj]
  · rw [List.getElem?_eq_none (by omega), List.getElem?_eq_none (by simp [arr]; omega)]

theorem addr_of_cell {w : World} {a : Addr} {v : Value} (h : w.cell? a = some v) : a = ⟨a.block, a.off, none⟩ := by
  obtain ⟨b, o, s⟩ := a
  cases s with
  | none => rfl
  | some s =>
    unfold World.cell? at h
    simp only at h
    split at h <;> simp at h

/-- The values of a slice of flat structs, m cells each. -/
def RowsOf (ls : List Leaf) (W : World) (ao : Option Addr) (len : Nat) (X : Nat → Nat → Value) : Prop :=
  ∀ i, i < len → ∃ g o, ao = some ⟨g, o, none⟩ ∧ (∀ j, j < ls.length → W.cell? ⟨g, o + i * ls.length + j, none⟩ = some (X i j)) ∧ Kinds ls (X i)

theorem FlatT.slice {P : Program} {t e : TypeId} {ls : List Leaf} (hF : FlatT P e ls) (h0 : 0 < ls.length) (ht : P.underlying t = some (.slice e)) {H : Type} {enc : TypeId × Value → H} {base : Nat} (W : World) (u : Value) (d : DataW H) (p : List MemPlace) (hok : Value.okWide P W .any base t u)
    (h : DataW.Trod enc P W 0 (fun _ => true) true t u d p) : ∃ ao len cap X, u = .slice ao len cap ∧ (RowsOf ls W ao len X ∧ len ≤ maxLen) := by
  obtain ⟨ao, len, cap, rfl⟩ := okWide_slice ht hok
  obtain ⟨fuel, hf⟩ := h
  rcases open_slice ht hf with ⟨hcs, -⟩ | ⟨a, len', cap', m, n, D, Pl, hcs, -, hl, hcap, hm, -, hx⟩
  · simp [Value.cells] at hcs
    obtain ⟨rfl, rfl, rfl⟩ := hcs
    exact ⟨_, _, _, fun _ _ => undef, rfl, fun i hi => by omega, by unfold maxLen; omega⟩
  · simp [Value.cells] at hcs
    obtain ⟨rfl, rfl, rfl⟩ := hcs
    have hmc : m = cap := by simpa using hm
    rw [hF.cells] at hx
    obtain ⟨X, hX⟩ := choose_below (n := len) (α := Nat → Value) (p := fun i X => (∀ j, j < ls.length → W.cell? ((a.add (i * ls.length)).add j) = some (X j)) ∧ Kinds ls X) (fun i hi => by
      obtain ⟨cs', h1, h2⟩ := hx i (by omega)
      obtain ⟨-, -, h3⟩ := World.cells?_some h1
      obtain ⟨V, rfl, hV⟩ := hF.values h2
      exact ⟨V, fun j hj => by rw [h3 j hj]; simp [arr, hj], hV⟩)
    refine ⟨_, _, _, X, rfl, fun i hi => ?_, by omega⟩
    obtain ⟨h1, h2⟩ := hX i hi
    have h0' := (hX 0 (by omega)).1 0 h0
    have ea := addr_of_cell h0'
    obtain ⟨g, o, s⟩ := a
    have es : s = none := by
      cases s with
      | none => rfl
      | some s => simp [Addr.add] at ea
    subst es
    refine ⟨g, o, rfl, fun j hj => ?_, h2⟩
    have := h1 j hj
    rw [Addr.add_mid, Addr.add_mid] at this
    exact this
end Go.Proofs.Ytfmabknhfehdcaa

namespace Go.Proofs.Ytfmabknhfehdcaa
open Go.ChangeShapes Go.WideShapes Go.ChangeAt Go.RowKit Go.Deep

def lU64 : Leaf := some (some .u64)
theorem flU64 : FlatT Try.prog 24 [lU64] := FlatT.int Try.underlying24 (by kernel_rfl)
def lsCel : List Leaf := [lU64, lU64]
def vN (v : Value) : Int := match v with | .int _ n => n | _ => 0
theorem leaf_int {k : IntKind} {v : Value} (h : leafOk (some (some k)) v) : v = .int k (vN v) ∧ (Lit.int k (vN v)).wf = true := by
  obtain ⟨n, rfl, hw⟩ := h
  exact ⟨rfl, hw⟩
/-- A list of cells lies at ao: their addresses, their values. -/
def CAt (w : World) (ao : Option Addr) (n : Nat) (a v : Nat → Int) : Prop := ∀ i, i < n → ∃ g o, ao = some ⟨g, o, none⟩ ∧ w.cell? ⟨g, o + i * 2, none⟩ = some (.int .u64 (a i)) ∧ w.cell? ⟨g, o + i * 2 + 1, none⟩ = some (.int .u64 (v i))
theorem CAt.below {w w' : World} {ao : Option Addr} {n : Nat} {a v : Nat → Int} (h : CAt w ao n a v) (hb : Below w.heap.size w w') : CAt w' ao n a v := fun i hi => by
  obtain ⟨g, o, e, h1, h2⟩ := h i hi
  exact ⟨g, o, e, (hb.cell (p := ⟨g, o + i * 2, none⟩) (World.block_lt_of_cell? _ _ h1)).trans h1, (hb.cell (p := ⟨g, o + i * 2 + 1, none⟩) (World.block_lt_of_cell? _ _ h2)).trans h2⟩
section
variable (pg : Int) (ao : Option Addr) (n c : Nat) (ca cv : Nat → Int) (w : World) (hp0 : 0 ≤ pg) (hp1 : pg ≤ 255) (hC : CAt w ao n ca cv) (hok : U64 n ca) (hov : U64 n cv) (hn : n ≤ maxLen)
include hp0 hp1 hC hok hov hn
end
end Go.Proofs.Ytfmabknhfehdcaa

namespace Go.Proofs.Ytfmabknhfehdcaa
open Go.RowKit Go.Shelf
theorem run_bsu (x : Int) (w : World) : (Instr.buildSlice 54 1 #[(0, .int .u64 x)]).run Try.prog w = .ok (.slice (some ⟨w.heap.size, 0, none⟩) 1 1) (w.alloc (.cells #[.int .u64 x] 24)) := by kernel_rfl
/-- What lies in memory in PrpNone. -/
structure NoneI (w : World) (q : Option Addr) (W : World) : Prop where
  below : Below w.heap.size w W
  nomem : NoMem W q
  r8 : W.rowIs w.heap.size 4 1 (fun _ => .bool false)
theorem NoneI.quiet {w A B : World} {N : Nat} {q : Option Addr} (h : NoneI w q A) (k : Quiet N A B) (hN : w.heap.size ≤ N) : NoneI w q B :=
  ⟨k.below h.below hN, k.nomem h.nomem, k.rowIs h.r8⟩
theorem NoneI.go {w A B : World} {q : Option Addr} (h : NoneI w q A) (k : Below A.heap.size A B) : NoneI w q B :=
  ⟨h.below.trans (k.mono h.below.size), h.nomem.below k, (Keeps.of_below (S := fun _ => False) k).rowIs h.r8 (fun e => e)⟩

end Go.Proofs.Ytfmabknhfehdcaa

namespace Go.Proofs.Ytfmabknhfehdcaa
open Go.RowKit

theorem runP_few (f g : Nat → Int) (size : Nat) (second pages : Int) (h : ¬ 2 < pages) : ∀ (k : Nat) (i : Int) (s : PSt), runP f size second pages k i s = runP g size second pages k i s
  | 0, _, _ => rfl
  | k + 1, i, s => by
    have e : stepP f size second pages i s = stepP g size second pages i s := by
      unfold stepP adrP
      rw [if_neg h, if_neg h]
    unfold runP
    rw [e]
    cases stepP g size second pages i s with
    | error e => rfl
    | ok s' => exact runP_few f g size second pages h k (i + 1) s'
theorem spansP_few (f g : Nat → Int) (size : Nat) (x y n : Int) (h : ¬ 2 < pgs x n) : spansP f size x y n = spansP g size x y n := by
  unfold spansP
  simp only [runP_few f g size y (pgs x n) h]
theorem bytes_blt {f : Nat → Int} {l0 l1 R K : Nat} {p : Nat → Int} (h : Bytes f) : Bytes (bltF f l0 l1 R K p) := by
  unfold bltF
  split
  · exact bytes_upd h (bytes_wB _)
  · exact bytes_upd (bytes_upd h (bytes_wB _)) (bytes_wB _)
/-- two lists -/
def ls2 (l0 l1 : Nat) (i : Nat) : Int := if i = 0 then l0 else l1
theorem bt_varg {size l0 l1 R K : Nat} {p : Nat → Int} {o N : Int} (h : Bt size l0 l1 R K p o N) : VArg K 2 p (ls2 l0 l1) o N := by
  have ha := h.a0
  have hb := h.a1
  refine ⟨by have := h.n0; omega, h.n1, h.o0, h.o1, h.o4, h.k.symm, fun i hi => (h.pg i hi).1, fun i hi => ?_⟩
  unfold ls2
  split
  · exact ⟨by omega, .inl ‹_›⟩
  · exact ⟨by omega, .inr (by omega)⟩
theorem bt_lists {size l0 l1 R K : Nat} {p : Nat → Int} {o N : Int} (h : Bt size l0 l1 R K p o N) : ∃ z : Int, lstsP (ls2 l0 l1 0) (K : Nat) = z ∧ z ≤ ((2 : Nat) : Int) := by
  refine ⟨_, rfl, ?_⟩
  unfold lstsP
  repeat' split
  all_goals omega
theorem outP_length (p : Nat → Int) (o N : Int) (k : Nat) : (outP p o N k).length = k := by simp [outP]
/-- What Build leaves. -/
def BuiltPost (b B size l0 K : Nat) (p : Nat → Int) (o N : Int) (W : World) (e : Ending) (w' : World) : Prop :=
  ∃ (second : Int) (F : Nat → Int) (L : List (Nat × Nat)), e = .returned (.tuple #[.int .u64 (p 0 + o), .int .u64 second, .int .i64 0]) ∧ Keeps (Two b B) W w' ∧ MemAt w' b B size F L ∧ Bytes F ∧ 0 ≤ second ∧ second ≤ 18446744073709551615 ∧ (3 ≤ K → second = l0) ∧ spansP F size (p 0 + o) second N = .ok (outP p o N K)
/-- the lengths add up -/
def sumP (o N : Int) : Nat → Int
  | 0 => 0
  | k + 1 => sumP o N k + lenP o N k
end Go.Proofs.Ytfmabknhfehdcaa

namespace Go.Proofs.Ytfmabknhfehdcaa
open Go.RowKit

theorem bltF_self {f F2 : Nat → Int} {l0 l1 R K : Nat} {p : Nat → Int} (hl : l0 ≤ l1) (h : ∀ j, l0 ≤ j → F2 j = bltF f l0 l1 R K p j) : bltF F2 l0 l1 R K p = F2 := by
  funext j
  by_cases hj : l0 ≤ j
  · have e := h j hj
    unfold bltF at e ⊢
    split at e
    · rename_i c
      rw [if_pos c]
      unfold upd at e ⊢
      split
      · rename_i d
        rw [if_pos d] at e
        exact e.symm
      · rfl
    · rename_i c
      rw [if_neg c]
      unfold upd at e ⊢
      split
      · rename_i d
        rw [if_pos d] at e
        exact e.symm
      · rename_i d
        rw [if_neg d] at e
        split
        · rename_i d2
          rw [if_pos d2] at e
          exact e.symm
        · rfl
  · unfold bltF
    by_cases c : K ≤ R + 1
    · rw [if_pos c]
      unfold upd
      rw [if_neg (by omega)]
    · rw [if_neg c]
      unfold upd
      rw [if_neg (by omega), if_neg (by omega)]
/-- What Build leaves. -/
def BuiltPost2 (b B size l0 K ll : Nat) (p : Nat → Int) (o N : Int) (W : World) (e : Ending) (w' : World) : Prop :=
  ∃ (second : Int) (F : Nat → Int) (L' : List (Nat × Nat)), e = .returned (.tuple #[.int .u64 (p 0 + o), .int .u64 second, .int .i64 0]) ∧ Keeps (Two b B) W w' ∧ MemAt w' b B size F L' ∧ L'.length ≤ ll + 2 ∧ Bytes F ∧ 0 ≤ second ∧ second ≤ 18446744073709551615 ∧ (∀ F2 : Nat → Int, (∀ j, l0 ≤ j → F2 j = F j) → spansP F2 size (p 0 + o) second N = .ok (outP p o N K))
theorem built_any2 {size l0 l1 R K : Nat} {p : Nat → Int} {o N : Int} (h : Bt size l0 l1 R K p o N) (hl01 : l0 ≤ l1) (b B : Nat) (f : Nat → Int) (hf : Bytes f) (L : List (Nat × Nat)) (hL : L.length < 1000) (la pa : Option Addr) (lc pc : Nat) (W2 : World) (hM2 : MemAt W2 b B size f L) (hu2 : UAt W2 pa K p) (u2 : UAt W2 la 2 (ls2 l0 l1)) (hlm : ∀ a, la = some a → ¬ Two b B a.block) (hpc : K ≤ pc) (hpc2 : pc ≤ 9223372036854775807) :
    Calls Try.prog 36 #[.pointer (some ⟨b, 0, none⟩), .slice la 2 lc, .slice pa K pc, .int .i64 o, .int .i64 N] W2 (BuiltPost2 b B size l0 K L.length p o N W2) := by
  obtain ⟨k1, k2, k3, k4⟩ := bt_k h
  have hv := bt_varg h
  have hn0 := h.n0; have hn1 := h.n1; have ho0 := h.o0; have ho1 := h.o1; have hs := h.sz; have f0 := h.f0; have f1 := h.f1
  have hul : U64 2 (ls2 l0 l1) := fun i hi => by unfold ls2; split <;> omega
  have hup : U64 K p := fun i hi => by have := (h.pg i hi).2; omega
  have hsp : ∀ (g : Nat → Int) second, (K = 2 → second = p 1) → (3 ≤ K → second = (l0 : Int)) → spansP (bltF g l0 l1 R K p) size (p 0 + o) second N = .ok (outP p o N K) := fun g second q1 q2 => spans_blt h second q1 q2
  have hp0 := (h.pg 0 (by omega)).1
  have hpg : pgs (p 0 + o) N = K := by
    have hk := h.k
    unfold pgs at hk ⊢
    rw [show (p 0 + o) % 4096 = o % 4096 by omega]
    exact hk
  rcases Nat.lt_or_ge K 3 with c | c
  · rcases (by omega : K = 1 ∨ K = 2) with rfl | rfl
    · refine (bld_1 la pa 2 1 lc pc (ls2 l0 l1) p o N b B size f L W2 hM2 (by omega) u2 hu2 hul hup (by omega) (by omega) (by omega) (by omega) (by omega) (by omega) hv rfl).mono ?_
      rintro e w' ⟨rfl, hb⟩
      refine ⟨0, f, L, rfl, Keeps.of_below hb, hM2.below hb, Nat.le_add_right _ _, hf, by omega, by omega, fun F2 _ => ?_⟩
      rw [spansP_few F2 (bltF F2 l0 l1 R 1 p) _ _ _ _ (by rw [hpg]; omega)]
      exact hsp F2 0 (fun e => by omega) (fun e => by omega)
    · refine (bld_2 la pa 2 2 lc pc (ls2 l0 l1) p o N b B size f L W2 hM2 (by omega) u2 hu2 hul hup (by omega) (by omega) (by omega) (by omega) (by omega) (by omega) hv rfl).mono ?_
      rintro e w' ⟨rfl, hb⟩
      refine ⟨p 1, f, L, rfl, Keeps.of_below hb, hM2.below hb, Nat.le_add_right _ _, hf, (hup 1 (by omega)).1, (hup 1 (by omega)).2, fun F2 _ => ?_⟩
      rw [spansP_few F2 (bltF F2 l0 l1 R 2 p) _ _ _ _ (by rw [hpg]; omega)]
      exact hsp F2 _ (fun e => rfl) (fun e => by omega)
  · obtain ⟨D, hD1, hD2, hD3⟩ := plan_blt (f := f) h c (l := ls2 l0 l1) rfl (fun _ => rfl)
    obtain ⟨z, hz1, hz2⟩ := bt_lists h
    refine (bld_lists la pa 2 K lc pc (ls2 l0 l1) p o N b B size f L W2 hM2 (by omega) u2 hu2 hul hup (by omega) (by omega) (by omega) (by omega) (by omega) (by omega) hv c hpc hpc2 (by omega) (by omega) hlm z hz1 hz2 _ hD1).mono ?_
    · rintro e w' (⟨D', hD', rfl, hk, hm⟩ | ⟨hD', -⟩)
      · cases hD'
        rw [hD2] at hm
        exact ⟨l0, _, _, rfl, hk, hm, Nat.le_trans (itL_len D L) (by omega), bytes_blt hf, by omega, by omega, fun F2 hF => by
          have e := bltF_self hl01 hF
          have := hsp F2 l0 (fun e => by omega) (fun _ => rfl)
          rwa [e] at this⟩
      · cases hD'
end Go.Proofs.Ytfmabknhfehdcaa
