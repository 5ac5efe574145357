/- sgl: what the examples of the chapter need: operations under guards, lists made on the spot. -/
import Derived.Test.YtcljbmkdflkeeaaLB
import Derived.Test.YtcljbmkdflkeeaaBW
import Derived.Test.YtcljbmkdflkeeaaSN
namespace Go.Proofs.Ytcljbmkdflkeeaa
set_option linter.unusedVariables false
set_option linter.unusedSimpArgs false
open Go.RowKit

section
variable {P : Program} {ops : Array Oper} {Q : Exit → Act → World → Prop} {a : Act} {w : World} {rest : List Oper} {o : Oper}
/-- An operation whose value is known, under a guard that holds. -/
theorem wpList_valG (hw : Region.wanted o (yielded ops a.tmps) = true) {v : Value} (he : (execOp a.eval o).run P w = .ok (.value v) w) (h : wpList P ops Q rest (a.put o.dst v) w) : wpList P ops Q (o :: rest) a w :=
  wpList_step fun K hK => by
    rw [if_pos hw]
    unfold Oper.wp
    rw [he]
    exact hK _ _ h
theorem wpList_loadAG (hw : Region.wanted o (yielded ops a.tmps) = true) {b : Nat} {A : Array Value} (H : ArrAt w b A) (ty : TypeId) (x : Operand) (ho : o.op = .load ty x) (hx : a.eval x = .pointer (some ⟨b, 0, none⟩)) {d : TypeDesc}
    (hu : P.underlying ty = some d) (hd : d.isRow = true) (hi : (P.info? ty).map (·.size) = some A.size) (h : wpList P ops Q rest (a.put o.dst (.agg A)) w) : wpList P ops Q (o :: rest) a w :=
  wpList_load_midG hw ty x ho b 0 hx A.toList d H.rng hu hd (by simpa using hi) (by simpa using h)
end

theorem spAt_fresh (w : World) (l : List Spn) (T : TypeId) : SpAt (w.alloc (.cells (spC l).toArray T)) (some ⟨w.heap.size, 0, none⟩) l := by
  intro i hi
  refine ⟨_, 0, rfl, fun j v hv => ?_⟩
  have h1 := spC_get l i hi j v hv
  have h0 : 0 < (spC l).toArray.size := by
    have := (List.getElem?_eq_some_iff.1 h1).1
    simpa using Nat.lt_of_le_of_lt (Nat.zero_le _) this
  have h2 := (ArrAt.fresh w (spC l).toArray T h0).cell (i := i * 3 + j) (v := v) (by simpa using h1)
  rw [Nat.zero_add]
  exact h2
/-- the cells of descriptors -/
def dCs : List Dsc → List Value
  | [] => []
  | d :: r => d.cells.toList ++ dCs r
theorem dCs_get : ∀ (l : List Dsc) (i : Nat) (h : i < l.length) (j : Nat) (v : Value), (l[i]'h).cells.toList[j]? = some v → (dCs l)[i * 4 + j]? = some v
  | x :: r, 0, _, j, v, hv => by
    show (x.cells.toList ++ dCs r)[0 * 4 + j]? = _
    have hj : j < x.cells.toList.length := (List.getElem?_eq_some_iff.1 hv).1
    rw [Nat.zero_mul, Nat.zero_add, List.getElem?_append_left hj]
    exact hv
  | x :: r, i + 1, h, j, v, hv => by
    show (x.cells.toList ++ dCs r)[(i + 1) * 4 + j]? = _
    have hx : x.cells.toList.length = 4 := rfl
    rw [List.getElem?_append_right (by rw [hx]; omega), hx, show (i + 1) * 4 + j - 4 = i * 4 + j by omega]
    exact dCs_get r i (by simpa using h) j v hv
theorem dAt_fresh (w : World) (l : List Dsc) (T : TypeId) (n : Nat) (hn : n = l.length) : DAt (w.alloc (.cells (dCs l).toArray T)) (some ⟨w.heap.size, 0, none⟩) n (fun i => l.getD i zDsc) := by
  subst hn
  intro i hi
  refine ⟨_, 0, rfl, fun j v hv => ?_⟩
  have e : l.getD i zDsc = l[i]'hi := by simp [List.getD_eq_getElem?_getD, hi]
  have hv : ((l.getD i zDsc).cells.toList)[j]? = some v := hv
  rw [e] at hv
  have h1 := dCs_get l i hi j v hv
  have h0 : 0 < (dCs l).toArray.size := by
    have := (List.getElem?_eq_some_iff.1 h1).1
    simpa using Nat.lt_of_le_of_lt (Nat.zero_le _) this
  have h2 := (ArrAt.fresh w (dCs l).toArray T h0).cell (i := i * 4 + j) (v := v) (by simpa using h1)
  rw [Nat.zero_add]
  exact h2
theorem bytes0 : Bytes fun _ => 0 := fun _ => ⟨Int.le_refl 0, show (0 : Int) ≤ 255 by omega⟩
theorem bytes_upd {f g : Nat → Int} {a n : Nat} (hf : Bytes f) (hg : Bytes g) : Bytes (upd f a n g) := fun i => by
  unfold upd
  split
  · exact hg _
  · exact hf _
theorem bytes_lst (l : Nat → Dsc) : Bytes (lstB l) := fun i => by
  unfold lstB
  split
  · exact byteOf_bd _ _
  · exact byteOf_bd _ _

/-- One memory of one page. -/
theorem new1 (w : World) : Calls Try.prog 23 #[.int .i64 1] w fun e w' => ∃ b B, e = .returned (.tuple #[.pointer (some ⟨b, 0, none⟩), .int .i64 0]) ∧ w.heap.size ≤ b ∧ w.heap.size ≤ B ∧ Below w.heap.size w w' ∧ MemAt w' b B 4096 (fun _ => 0) [] := by
  have h := new_ok 1 w (by omega) (by omega)
  rw [show 1 * 4096 = 4096 by omega] at h
  exact h

/-- the descriptors of the examples -/
def wkL : List Dsc := [⟨1, 1000, 8, 0⟩, ⟨2, 0, 4, 0⟩, ⟨1, 2000, 8, 0⟩]
theorem wk1 (f : Nat → Int) : spansM f 4096 ⟨1, 100, 50, 0⟩ 40 true = .ok [⟨100, 40, false⟩] := by rfl
theorem wk2 (f : Nat → Int) : spansM f 4096 ⟨1, 100, 50, 0⟩ 51 true = .error 162 := by rfl
theorem wk3 (f : Nat → Int) : spansM f 4096 ⟨1, 4090, 7, 0⟩ 1 true = .error 3 := by rfl
theorem wk4 : spansM (upd (fun _ => 0) 0 48 (lstB fun i => wkL.getD i zDsc)) 4096 ⟨4, 0, 48, 0⟩ 15 true = .ok [⟨1000, 8, false⟩, ⟨0, 4, true⟩, ⟨2000, 3, false⟩] := by rfl
theorem wk5 : spansM (upd (fun _ => 0) 0 48 (lstB fun i => wkL.getD i zDsc)) 4096 ⟨4, 0, 48, 0⟩ 15 false = .ok [⟨1000, 8, false⟩, ⟨2000, 7, false⟩] := by rfl
theorem wkOk (k a n key : Int) (h1 : 0 ≤ k ∧ k ≤ 5) (h2 : 0 ≤ a ∧ a ≤ 100000) (h3 : 0 ≤ n ∧ n ≤ 100000) (h4 : 0 ≤ key ∧ key ≤ 100000) : (⟨k, a, n, key⟩ : Dsc).Ok := ⟨by simp only []; omega, by simp only []; omega, by simp only []; omega, by simp only []; omega⟩
theorem wkEnc1 (w : World) : Calls Try.prog 10 #[.agg (⟨1, 4096, 512, 0⟩ : Dsc).cells] w fun e w' => e = .returned (.tuple #[.agg #[.int .u64 4096, .int .u64 512], .int .i64 0]) ∧ Below w.heap.size w w' :=
  encode_ok ⟨1, 4096, 512, 0⟩ w (wkOk _ _ _ _ (by omega) (by omega) (by omega) (by omega)) (by decide)
theorem wkEnc2 (w : World) : Calls Try.prog 10 #[.agg (⟨2, 1, 5, 0⟩ : Dsc).cells] w fun e w' => e = .returned (.tuple #[.agg #[.int .u64 0, .int .u64 0], .int .i64 2]) ∧ Below w.heap.size w w' :=
  encode_no ⟨2, 1, 5, 0⟩ w (wkOk _ _ _ _ (by omega) (by omega) (by omega) (by omega)) (by decide)
theorem wkEnc3 (w : World) : Calls Try.prog 10 #[.agg (⟨5, 1, 2, 3⟩ : Dsc).cells] w fun e w' => e = .returned (.tuple #[.agg #[.int .u64 1, .int .u64 4611686018477719554], .int .i64 0]) ∧ Below w.heap.size w w' :=
  encode_ok ⟨5, 1, 2, 3⟩ w (wkOk _ _ _ _ (by omega) (by omega) (by omega) (by omega)) (by decide)
theorem wkDec1 (w : World) : Calls Try.prog 11 #[.agg #[.int .u64 0, .int .u64 1152921504606846983]] w fun e w' => e = .returned (.tuple #[.agg (⟨2, 0, 7, 0⟩ : Dsc).cells, .int .i64 0]) ∧ Below w.heap.size w w' :=
  decode_any 0 1152921504606846983 w (by omega) (by omega)
theorem wkDec2 (w : World) : Calls Try.prog 11 #[.agg #[.int .u64 0, .int .u64 72057594037927936]] w fun e w' => e = .returned (.tuple #[.agg (decD 0 72057594037927936).cells, .int .i64 160]) ∧ Below w.heap.size w w' :=
  decode_any 0 72057594037927936 w (by omega) (by omega)
theorem wkSp (d : Dsc) (n no : Int) (th : Bool) (b B : Nat) (f : Nat → Int) (L : List (Nat × Nat)) (R : Except Int (List Spn)) (hR : spansM f 4096 d n th = R) (hd : d.Ok) (hb : Bytes f) (ao : Option Addr) (m c : Nat) (w : World) (hM : MemAt w b B 4096 f L) (hW : SpW R no m ao w) :
    Calls Try.prog 27 #[.pointer (some ⟨b, 0, none⟩), .agg d.cells, .int .i64 n, .bool th, .int .i64 no, .slice ao m c] w fun e w' => e = .returned (.bool true) ∧ Below w.heap.size w w' :=
  spansL_of _ d n no th R ao m c w (fun w' hw => by rw [← hR]; exact spans_any d n th b B 4096 f L w' (hM.below hw) (by omega) hd hb) hW
theorem wkBld (b B : Nat) (w : World) (c : Nat) (ao : Option Addr) (hM : MemAt w b B 4096 (fun _ => 0) []) (hD : DAt w ao 3 fun i => wkL.getD i zDsc) :
    Calls Try.prog 19 #[.pointer (some ⟨b, 0, none⟩), .int .u64 0, .slice ao 3 c] w fun e w' => e = .returned (.tuple #[.agg (⟨4, 0, 48, 0⟩ : Dsc).cells, .int .i64 0]) ∧ Keeps (Two b B) w w' ∧ MemAt w' b B 4096 (upd (fun _ => 0) 0 48 (lstB fun i => wkL.getD i zDsc)) [(0, 48)] := by
  have hg : ∀ i, i < 3 → Good (wkL.getD i zDsc) := by decide
  have h := bld_any 0 ao 3 c b B 4096 (fun _ => 0) [] w hM (by omega) (fun i => wkL.getD i zDsc) hD (fun i hi => by
    obtain rfl | rfl | rfl : i = 0 ∨ i = 1 ∨ i = 2 := by omega
    all_goals exact wkOk _ _ _ _ (by decide) (by decide) (by decide) (by decide)) (by omega) (by omega) (by omega) (by simp)
  refine h.mono ?_
  rintro e w' (⟨⟨i, hi, hn⟩, -⟩ | ⟨-, hn, -⟩ | ⟨-, -, hn, -⟩ | ⟨-, -, -, rfl, hk, hm⟩)
  · exact absurd (hg i hi) hn
  · omega
  · omega
  · exact ⟨rfl, hk, hm⟩
end Go.Proofs.Ytcljbmkdflkeeaa
