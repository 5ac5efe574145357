/- Rows of cells: a range of a row, a store over it; arrays by value. Over any program. -/
import Derived.Test.YtiinjjfggmmkmaaLib
import Derived.Deep.MidRow
import Derived.Laws.ResultCell
namespace Go.Proofs.Ytiinjjfggmmkmaa
set_option linter.unusedVariables false
set_option linter.unusedSimpArgs false
open Go.RowKit

theorem rowIs_setCells {w : World} {b : Nat} {t : TypeId} {n : Nat} {f : Nat → Value} (h : w.rowIs b t n f) : ∀ (vs : List Value) (o : Nat),
    (w.setCells b o vs).rowIs b t n (fun j => if o ≤ j ∧ j < o + vs.length then vs.getD (j - o) undef else f j) := by
  intro vs
  induction vs generalizing w f with
  | nil => intro o; exact h.congr fun i _ => by rw [if_neg (by simp only [List.length_nil]; omega)]
  | cons v r ih =>
    intro o
    refine (ih (h.set o v) (o + 1)).congr fun i hi => ?_
    simp only [List.length_cons]
    by_cases h1 : i = o
    · subst h1
      rw [if_neg (by omega)]; simp
    · by_cases h2 : o + 1 ≤ i ∧ i < o + 1 + r.length
      · rw [if_pos h2, if_pos (by omega)]
        have : i - o = (i - (o + 1)) + 1 := by omega
        rw [this]; rfl
      · rw [if_neg h2, if_neg h1, if_neg (by omega)]

theorem Keeps.setCells {b : Nat} {a : World} : ∀ (vs : List Value) {w : World} (_ : Keeps (One b) a w) (o : Nat), Keeps (One b) a (w.setCells b o vs)
  | [], _, h, _ => h
  | v :: r, _, h, o => Keeps.setCells r (h.set1 o v) (o + 1)

theorem rowIs_there {w : World} {b : Nat} {t : TypeId} {n : Nat} {f : Nat → Value} (h : w.rowIs b t n f) (o m : Nat) (hm : o + m ≤ n) : w.there b o m := fun j hj =>
  ⟨by rw [h.cell (by omega)]; rfl, h.frozen _⟩

theorem rowIs_range {w : World} {b : Nat} {t : TypeId} {n : Nat} {f : Nat → Value} (h : w.rowIs b t n f) (o m : Nat) (hm : o + m ≤ n) : w.rangeAt b o ((List.range m).map fun j => f (o + j)) := fun j v hv => by
  simp only [List.getElem?_map, Option.map_eq_some_iff] at hv
  obtain ⟨k, hk, rfl⟩ := hv
  simp only [List.range_eq_range'] at hk
  by_cases hj : j < m
  · simp [hj] at hk; subst hk; exact h.cell (by omega)
  · simp [hj] at hk

/-- The first n values of f, as an array. -/
def arr (n : Nat) (f : Nat → Value) : Array Value := ((List.range n).map f).toArray
theorem arr_size (n : Nat) (f : Nat → Value) : (arr n f).size = n := by simp [arr]
theorem arr_get (n : Nat) (f : Nat → Value) (i : Nat) (h : i < n) : (arr n f)[i]? = some (f i) := by simp [arr, h]
theorem arr_congr {n : Nat} {f g : Nat → Value} (h : ∀ i, i < n → f i = g i) : arr n f = arr n g := by
  unfold arr
  congr 1
  exact List.map_congr_left fun i hi => h i (List.mem_range.1 hi)
theorem arr_list (n : Nat) (f : Nat → Value) : (arr n f).toList = (List.range n).map f := rfl

theorem rowIs_range0 {w : World} {b : Nat} {t : TypeId} {n : Nat} {f : Nat → Value} (h : w.rowIs b t n f) : w.rangeAt b 0 (arr n f).toList := by
  have := rowIs_range h 0 n (by omega)
  simpa [arr_list] using this

/-- The whole row stored over itself, or another. -/
theorem rowIs_store {w : World} {b : Nat} {t : TypeId} {n : Nat} {f g : Nat → Value} (h : w.rowIs b t n f) : (w.setCells b 0 (arr n g).toList).rowIs b t n g := by
  refine (rowIs_setCells h _ 0).congr fun i hi => ?_
  have hl : (arr n g).toList.length = n := by simp [arr]
  rw [hl, if_pos (by omega), Nat.sub_zero, List.getD_eq_getElem?_getD, arr_list]
  simp [hi]

theorem arr_one {n : Nat} {f : Nat → Value} (h : ∀ i, i < n → (f i).oneCell' = true) : (arr n f).all (·.oneCell') = true :=
  all_oneCell_toArray fun v hv => by
    simp only [List.mem_map, List.mem_range] at hv
    obtain ⟨i, hi, rfl⟩ := hv
    exact h i hi

theorem rowIs_arr (w : World) (t n : Nat) (f : Nat → Value) : (w.alloc (.cells (arr n f) t)).rowIs w.heap.size t n f := by
  have := World.rowIs_alloc w (arr n f) t f (fun i hi => arr_get n f i (by simpa [arr_size] using hi))
  rw [arr_size] at this
  exact this

section
variable {P : Program} {ops : Array Oper} {Q : Exit → Act → World → Prop} {a : Act} {w : World} {rest : List Oper} {o : Oper}
/-- A struct or an array built out of parts, its outcome known. -/
theorem wpList_buildC (hgd : o.guard = none) (t : Nat) (parts : Array (Nat × Operand)) (ho : o.op = .build t parts) (pv : Array (Nat × Value)) (hp : parts.map (fun p => (p.1, a.eval p.2)) = pv)
    {v : Value} (hb : (Instr.build t pv).run P w = .ok v w) (h : wpList P ops Q rest (a.put o.dst v) w) : wpList P ops Q (o :: rest) a w :=
  wpList_plain hgd fun K hK => by
    subst hp
    unfold Oper.wp execOp
    simp only [ho]
    simp only [Sem.run_bind, hb, Result.andThen_ok, Sem.run_pure]
    exact hK _ _ h
/-- The load of a row, under a guard that holds. -/
theorem wpList_load_midG (hw : Region.wanted o (yielded ops a.tmps) = true) (ty : TypeId) (x : Operand) (ho : o.op = .load ty x)
    (b p : Nat) (hx : a.eval x = .pointer (some ⟨b, p, none⟩)) (cs : List Value) (d : TypeDesc) (hc : w.rangeAt b p cs)
    (hu : P.underlying ty = some d) (hd : d.isRow = true) (hi : (P.info? ty).map (·.size) = some cs.length)
    (h : wpList P ops Q rest (a.put o.dst (.agg cs.toArray)) w) : wpList P ops Q (o :: rest) a w :=
  wpList_step fun K hK => by
    rw [if_pos hw]
    exact wp_load_mid ty x ho b p hx cs d hc hu hd hi (hK _ _ h)
end
end Go.Proofs.Ytiinjjfggmmkmaa
