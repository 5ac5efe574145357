/- queue: the slots that both ends share; numbers of calls and the ends' places. -/
import Derived.Test.YtpoeepdpoblfcaaSeq
namespace Go.Proofs.Ytpoeepdpoblfcaa
open Go.RowKit

section
variable {P : Program} {ops : Array Oper} {Q : Exit → Act → World → Prop} {a : Act} {w : World} {rest : List Oper} {o : Oper}
/-- 'make([]T, n)' for a T of many cells. -/
theorem wpList_makeA (hgd : o.guard = none) (l c : Operand) (t : TypeId) (hop : o.op = .makeSlice t l c) (e : TypeId) (z : Value) (size bytes : Nat) (ht : P.underlying t = some (.slice e))
    (hinfo : (P.info? e).map (fun i => (i.zero, i.size, i.bytes)) = some (some z, size, bytes)) (n : Nat) (hl : a.eval l = .int .i64 (n : Int)) (hc : a.eval c = .int .i64 (n : Int)) (hb : bytes * n ≤ 281474976710656) (h63 : n ≤ 9223372036854775807)
    (h : wpList P ops Q rest (a.put o.dst (.slice (some ⟨w.heap.size, 0, none⟩) n n)) (w.alloc (.cells (madeCells z.cells (n * size)) e))) : wpList P ops Q (o :: rest) a w := by
  refine wpList_plain hgd fun K hK' => ?_
  obtain ⟨i, hi, hz, hs, hbt⟩ := info_parts hinfo
  have hb' : (i.bytes : Int) * (n : Int) ≤ 281474976710656 := by
    have h : ((i.bytes * n : Nat) : Int) ≤ 281474976710656 := by rw [hbt]; omega
    rwa [Int.natCast_mul] at h
  have hrun := run_make (P := P) (w := w) t e i z ht hi hz .i64 .i64 n n (by omega) (Int.le_refl _) hb' (by omega)
  simp only [Int.toNat_natCast, hs] at hrun
  unfold Oper.wp
  simp [execOp, hop, hl, hc, hrun, Result.andThen]
  exact hK' _ _ h
end

section
variable {w : World} {b n : Nat} {t : TypeId} {f : Nat → Value}
theorem rowIs_setCells2 : ∀ (vs : List Value) (o : Nat) (w : World) (f g : Nat → Value), w.rowIs b t n f → (∀ j, g j = if o ≤ j ∧ j < o + vs.length then vs.getD (j - o) undef else f j) → (w.setCells b o vs).rowIs b t n g
  | [], o, w, f, g, h, hg => by
    have e : g = f := funext fun j => by rw [hg j, if_neg (by simp only [List.length_nil]; omega)]
    rw [e]; exact h
  | v :: r, o, w, f, g, h, hg => by
    rw [World.setCells]
    refine rowIs_setCells2 r (o + 1) _ (fun j => if j = o then v else f j) g (h.set o v) (fun j => ?_)
    rw [hg j]
    simp only [List.length_cons]
    by_cases e : j = o
    · subst e
      rw [if_pos (by omega), if_neg (by omega), if_pos rfl]
      simp
    · rw [if_neg e]
      by_cases h1 : o ≤ j ∧ j < o + (r.length + 1)
      · rw [if_pos h1, if_pos (by omega)]
        obtain ⟨d, hd⟩ : ∃ d, j - o = d + 1 := ⟨j - o - 1, by omega⟩
        have hd2 : j - (o + 1) = d := by omega
        rw [hd, hd2]; rfl
      · rw [if_neg h1, if_neg (by omega)]
theorem rowIs_there2 (h : w.rowIs b t n f) {o m : Nat} (hm : o + m ≤ n) : w.there b o m := fun j hj => ⟨by rw [h.cell (by omega)]; rfl, h.frozen _⟩
theorem rowIs_range2 (h : w.rowIs b t n f) {o : Nat} {A : Array Value} (hm : o + A.size ≤ n) (hA : ∀ j, j < A.size → A[j]? = some (f (o + j))) : w.rangeAt b o A.toList := fun j v hv => by
  have hj : j < A.size := by simpa using (List.getElem?_eq_some_iff.1 hv).1
  rw [h.cell (by omega)]
  rw [Array.getElem?_toList, hA j hj] at hv
  exact hv
theorem rowIs_any (w : World) (c : Array Value) (t : TypeId) : (w.alloc (.cells c t)).rowIs w.heap.size t c.size (fun i => c.getD i undef) := World.rowIs_alloc w c t _ fun i hi => by
  rw [Array.getD_eq_getD_getElem?, Array.getElem?_eq_getElem hi]; rfl
end

/-! Numbers of calls. -/
theorem div_near {n a b : Nat} (hn : 0 < n) (h1 : a ≤ b) (h2 : b < a + n) : b / n = a / n ∨ b / n = a / n + 1 := by
  have e1 := Nat.div_le_div_right (c := n) h1
  have e2 := Nat.div_le_div_right (c := n) (Nat.le_of_lt h2)
  rw [Nat.add_div_right a hn] at e2
  omega
theorem mod_near {n a b : Nat} (hn : 0 < n) (h1 : a ≤ b) (h2 : b < a + n) : (a % n ≤ b % n ∧ b % n = a % n + (b - a)) ∨ (b % n < a % n ∧ b % n + n = a % n + (b - a)) := by
  have ea := Nat.div_add_mod a n
  have eb := Nat.div_add_mod b n
  have la := Nat.mod_lt a hn
  have lb := Nat.mod_lt b hn
  rcases div_near hn h1 h2 with e | e
  · rw [e] at eb
    left
    omega
  · rw [e, Nat.mul_succ] at eb
    by_cases h : a % n ≤ b % n
    · left; omega
    · right; omega
theorem usd_mod {n a b : Nat} (hn : 0 < n) (h1 : a ≤ b) (h2 : b < a + n) : usd n (a % n) (b % n) = b - a := by
  rw [usd_eq (Nat.mod_lt _ hn) (Nat.mod_lt _ hn)]
  rcases mod_near hn h1 h2 with h | h
  · rw [if_pos h.1]; omega
  · rw [if_neg (by omega)]; omega
theorem mod_ne {n a b : Nat} (hn : 0 < n) (h1 : a < b) (h2 : b < a + n) : a % n ≠ b % n := by
  have := mod_near hn (Nat.le_of_lt h1) h2
  omega
theorem nxt_mod (n a : Nat) : nxt n (a % n) = (a + 1) % n := by unfold nxt; exact Nat.mod_add_mod a n 1
theorem ring_mod {n f tr p : Nat} (hn : 0 < n) (h1 : f ≤ tr) (h2 : tr ≤ p) (h3 : p < f + n) : rgT n (f % n) (tr % n) ((p % n : Nat) : Int) = p % n ∧ rgEr n (f % n) (tr % n) ((p % n : Nat) : Int) = 0 := by
  have hk : rgOk n (f % n) (tr % n) ((p % n : Nat) : Int) := by
    refine ⟨by omega, by have := Nat.mod_lt p hn; omega, ?_⟩
    rw [Int.toNat_natCast, usd_mod hn h1 (by omega), usd_mod hn (by omega) h3]
    omega
  unfold rgT rgEr
  rw [if_pos hk, if_pos hk, Int.toNat_natCast]
  exact ⟨rfl, rfl⟩
theorem head_mod {n hr f p : Nat} (hn : 0 < n) (h1 : hr ≤ f) (h2 : f ≤ p) (h3 : p < hr + n) : rlH n (hr % n) (p % n) ((f % n : Nat) : Int) = f % n ∧ rlEr n (hr % n) (p % n) ((f % n : Nat) : Int) = 0 := by
  have hk : relOk n (hr % n) (p % n) ((f % n : Nat) : Int) := by
    refine ⟨by omega, by have := Nat.mod_lt f hn; omega, ?_⟩
    rw [Int.toNat_natCast, usd_mod hn h1 (by omega), usd_mod hn (by omega) h3]
    omega
  unfold rlH rlEr
  rw [if_pos hk, if_pos hk, Int.toNat_natCast]
  exact ⟨rfl, rfl⟩
theorem next_none (n f : Nat) : nxEr (f % n) (f % n) = 9 ∧ nxAt (f % n) (f % n) = 0 ∧ nxH n (f % n) (f % n) = f % n := by
  unfold nxEr nxAt nxH
  rw [if_pos rfl, if_pos rfl, if_pos rfl]
  exact ⟨rfl, rfl, rfl⟩
theorem next_mod {n f tr : Nat} (hn : 0 < n) (h1 : f < tr) (h2 : tr < f + n) : nxEr (f % n) (tr % n) = 0 ∧ nxAt (f % n) (tr % n) = f % n ∧ nxH n (f % n) (tr % n) = (f + 1) % n := by
  have := mod_ne hn h1 h2
  unfold nxEr nxAt nxH
  rw [if_neg this, if_neg this, if_neg this]
  exact ⟨rfl, rfl, nxt_mod _ _⟩
end Go.Proofs.Ytpoeepdpoblfcaa
