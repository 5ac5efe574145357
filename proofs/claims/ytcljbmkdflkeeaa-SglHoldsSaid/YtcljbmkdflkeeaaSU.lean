/- sgl: Spans: what holds in the loop. -/
import Derived.Test.YtcljbmkdflkeeaaST
namespace Go.Proofs.Ytcljbmkdflkeeaa
set_option linter.unusedVariables false
set_option linter.unusedSimpArgs false
open Go.RowKit

theorem owns_less {w : World} {a b : Nat} {t : TypeId} {sz : Nat} {v : Value} {n : Nat} {xs : List Value} (h : w.ownsRow a t sz v n xs) (hb : b ≤ a) : w.ownsRow b t sz v n xs := by
  refine ⟨h.1, ?_⟩
  rcases h.2 with e | ⟨g, cap, cur, h1, h2, h3⟩
  · exact .inl e
  · exact .inr ⟨g, cap, cur, h1, by omega, h3⟩

namespace Wlk
variable {P : Nat → Prop} {wb : Nat} {W W' : World} {m : Value} {th : Bool} {ex : Int} {s : WSt}
/-- A block that is not the walk's own turned. -/
theorem kept1 (h : Wlk P wb W m th ex s) {g : Nat} (hg : P g) (k : Keeps (One g) W W') : Wlk P wb W' m th ex s := by
  obtain ⟨v, hr, ho, hp⟩ := h.ex
  refine ⟨⟨v, k.rowIs hr (fun e => h.notg (by have e : wb = g := e; rw [e]; exact hg)), ho.kept (row := some g) ⟨k.os, k.tape, k.output, k.size, fun j hj hne => k.block j hj (fun e => hne (by have e : j = g := e; rw [e]))⟩ (.inr (fun e => hp g hg e)), hp⟩, h.notg, fun j hj => Nat.lt_of_lt_of_le (h.lt j hj) k.size⟩
theorem set4 (h : Wlk P wb W m th ex s) (x : Int) : Wlk P wb (W.setCell ⟨wb, 4, none⟩ (.int .i64 x)) m th x s := by
  obtain ⟨v, hr, ho, hp⟩ := h.ex
  refine ⟨⟨v, (hr.set 4 _).congr fun i _ => ?_, own_set ho 4 _, hp⟩, h.notg, fun k hk => by have := h.lt k hk; simpa using this⟩
  unfold wcell
  by_cases e : i = 4
  · subst e; rfl
  · simp only [e, if_false]
theorem set5 (h : Wlk P wb W m th ex s) (x : Int) : Wlk P wb (W.setCell ⟨wb, 5, none⟩ (.int .u64 x)) m th ex { s with at' := x } := by
  obtain ⟨v, hr, ho, hp⟩ := h.ex
  refine ⟨⟨v, (hr.set 5 _).congr fun i _ => ?_, own_set ho 5 _, hp⟩, h.notg, fun k hk => by have := h.lt k hk; simpa using this⟩
  unfold wcell
  by_cases e : i = 5
  · subst e; rfl
  · simp only [e, if_false]
end Wlk

theorem build_walk (p : Option Addr) (th : Bool) (n : Int) (w : World) : (Instr.build 114 #[(0, .pointer p), (1, .bool th), (2, .int .i64 n)]).run Try.prog w = .ok (.agg #[.pointer p, .bool th, .int .i64 n, .slice none 0 0, .int .i64 0, .int .u64 0, .int .u64 0, .bool false, .bool false]) w := by kernel_rfl
def wArr (m : Value) (th : Bool) (n : Int) : Array Value := #[m, .bool th, .int .i64 n, .slice none 0 0, .int .i64 0, .int .u64 0, .int .u64 0, .bool false, .bool false]
theorem Wlk.fresh (P : Nat → Prop) (m : Value) (th : Bool) (n : Int) (w : World) (hP : ∀ k, P k → k < w.heap.size) : Wlk P w.heap.size (w.alloc (.cells (wArr m th n) 114)) m th 0 ⟨false, false, 0, 0, n, []⟩ := by
  refine ⟨⟨.slice none 0 0, World.rowIs_alloc w (wArr m th n) 114 _ fun i hi => ?_, World.ownsRow_nil _ _ _ _, fun k _ e => by cases e⟩, fun e => by have := hP _ e; omega, fun k hk => by have := hP k hk; simp; omega⟩
  have hi : i < 9 := hi
  match i, hi with
  | 0, _ => rfl | 1, _ => rfl | 2, _ => rfl | 3, _ => rfl | 4, _ => rfl | 5, _ => rfl | 6, _ => rfl | 7, _ => rfl | 8, _ => rfl

/-- What holds in the loop of Spans. -/
structure LSt (w : World) (b B size : Nat) (f : Nat → Int) (L : List (Nat × Nat)) (kb wb lb : Nat) (th : Bool) (ex : Int) (s : WSt) (d : Dsc) (W : World) : Prop where
  sst : SSt w W
  mem : MemAt W b B size f L
  map : W.heap[kb]? = some (.map kindEs 5)
  arr : ArrAt W lb d.cells
  wlk : Wlk (fun j => j ≤ kb ∨ j = lb) wb W (.pointer (some ⟨b, 0, none⟩)) th ex s
  kbl : w.heap.size + 2 < kb
  bl : b < w.heap.size
  Bl : B < w.heap.size
  lbl : kb < lb
namespace LSt
variable {w : World} {b B size : Nat} {f : Nat → Int} {L : List (Nat × Nat)} {kb wb lb : Nat} {th : Bool} {ex : Int} {s : WSt} {d : Dsc} {W W' : World}
theorem wbk (h : LSt w b B size f L kb wb lb th ex s d W) : kb < wb := by have := h.wlk.notg; omega
theorem step (h : LSt w b B size f L kb wb lb th ex s d W) {ex' : Int} {s' : WSt} (k : Keeps (fun j => ¬ (j ≤ kb ∨ j = lb)) W W') (hw : Wlk (fun j => j ≤ kb ∨ j = lb) wb W' (.pointer (some ⟨b, 0, none⟩)) th ex' s') : LSt w b B size f L kb wb lb th ex' s' d W' := by
  have h1 := h.kbl; have h2 := h.bl; have h3 := h.Bl
  refine ⟨h.sst.kept k (fun j hj e => e (.inl (by omega))), h.mem.kept k (fun e => e (.inl (by omega))) (fun e => e (.inl (by omega))), ?_, ?_, hw, h1, h2, h3, h.lbl⟩
  · rw [k.block kb (h.wlk.lt kb (.inl (Nat.le_refl _))) (fun e => e (.inl (Nat.le_refl _)))]; exact h.map
  · exact h.arr.kept k (fun e => e (.inr rfl))
theorem beyond (h : LSt w b B size f L kb wb lb th ex s d W) (hb : Below W.heap.size W W') : LSt w b B size f L kb wb lb th ex s d W' :=
  h.step (Keeps.of_below hb) (h.wlk.below hb)
theorem set4 (h : LSt w b B size f L kb wb lb th ex s d W) (x : Int) : LSt w b B size f L kb wb lb th x s d (W.setCell ⟨wb, 4, none⟩ (.int .i64 x)) :=
  h.step ((Keeps.refl _ W).setCell (p := ⟨wb, 4, none⟩) (fun _ => h.wlk.notg) _) (h.wlk.set4 x)
theorem set5 (h : LSt w b B size f L kb wb lb th ex s d W) (x : Int) : LSt w b B size f L kb wb lb th ex { s with at' := x } d (W.setCell ⟨wb, 5, none⟩ (.int .u64 x)) :=
  h.step ((Keeps.refl _ W).setCell (p := ⟨wb, 5, none⟩) (fun _ => h.wlk.notg) _) (h.wlk.set5 x)
theorem put (h : LSt w b B size f L kb wb lb th ex s d W) (d' : Dsc) : LSt w b B size f L kb wb lb th ex s d' (W.setCells lb 0 d'.cells.toList) := by
  have k : Keeps (One lb) W (W.setCells lb 0 d'.cells.toList) := Keeps.store (S := One lb) (Keeps.refl _ _) (fun _ => rfl) _ _
  have h1 := h.kbl; have h2 := h.bl; have h3 := h.Bl; have h4 := h.lbl
  refine ⟨h.sst.kept k (fun j hj e => by have e : j = lb := e; omega), h.mem.kept k (fun e => by have e : b = lb := e; omega) (fun e => by have e : B = lb := e; omega), ?_, h.arr.store d'.cells rfl, h.wlk.kept1 (.inr rfl) k, h1, h2, h3, h4⟩
  rw [k.block kb (h.wlk.lt kb (.inl (Nat.le_refl _))) (fun e => by have e : kb = lb := e; omega)]
  exact h.map
/-- A new variable of the loop. -/
theorem var (h : LSt w b B size f L kb wb lb th ex s d W) (d' : Dsc) (hb : Below W.heap.size W W') (l' : Nat) (h1 : W.heap.size ≤ l') (h2 : l' < W'.heap.size) (ha : ArrAt W' l' d'.cells) : LSt w b B size f L kb wb l' th ex s d' W' := by
  have k := h.beyond hb
  refine ⟨k.sst, k.mem, k.map, ha, (h.wlk.more hb).less ?_, h.kbl, h.bl, h.Bl, ?_⟩
  · intro j hj
    rcases hj with hj | rfl
    · exact .inl (.inl hj)
    · exact .inr ⟨h1, h2⟩
  · have := h.wlk.lt kb (.inl (Nat.le_refl _)); omega
theorem cells (h : LSt w b B size f L kb wb lb th ex s d W) : ∃ v, W.cell? ⟨wb, 2, none⟩ = some (.int .i64 s.left) ∧ W.cell? ⟨wb, 3, none⟩ = some v ∧ W.cell? ⟨wb, 4, none⟩ = some (.int .i64 ex) ∧ W.cell? ⟨wb, 5, none⟩ = some (.int .u64 s.at') ∧ W.cell? ⟨wb, 6, none⟩ = some (.int .u64 s.en) ∧
    W.frozen? ⟨wb, 4, none⟩ = false ∧ W.frozen? ⟨wb, 5, none⟩ = false ∧ W.ownsRow (wb + 1) 62 3 v s.out.length (spC s.out) ∧ v.ownBlock ≠ some (w.heap.size + 1) ∧ v.ownBlock ≠ some (w.heap.size + 2) := by
  obtain ⟨v, hr, ho, hp⟩ := h.wlk.ex
  have := h.kbl
  exact ⟨v, hr.cell (i := 2) (by omega), hr.cell (i := 3) (by omega), hr.cell (i := 4) (by omega), hr.cell (i := 5) (by omega), hr.cell (i := 6) (by omega), hr.frozen 4, hr.frozen 5, ho, hp _ (.inl (by omega)), hp _ (.inl (by omega))⟩
end LSt

/-- What is still to be reckoned. -/
def nxtS (f : Nat → Int) (size : Nat) (th : Bool) (k : Nat) (d : Dsc) (s : WSt) : Except Int (List Spn) := if s.left = 0 then .ok s.out else runS f size th (1023 - k) d s
theorem spansM_nxt {f : Nat → Int} {size : Nat} {d : Dsc} {n : Int} {th : Bool} (hv : Vld d) (h0 : 0 ≤ n) (h1 : n ≤ 1048576) : spansM f size d n th = nxtS f size th 0 d ⟨false, false, 0, 0, n, []⟩ := by
  unfold spansM nxtS
  rw [if_neg (by simp [hv, h0, h1])]
theorem nxt_exam {f : Nat → Int} {size : Nat} {th : Bool} {k : Nat} {d : Dsc} {s : WSt} {R : Except Int (List Spn)} (h : nxtS f size th k d s = R) (hl : s.left ≠ 0) {no : Int} (he : exam size th d s = .error no) : R = .error no := by
  unfold nxtS at h
  rw [if_neg hl] at h
  cases hm : 1023 - k with
  | zero => rw [hm] at h; unfold runS at h; rw [he] at h; exact h.symm
  | succ m => rw [hm] at h; unfold runS at h; rw [he] at h; exact h.symm
theorem nxt_done {f : Nat → Int} {size : Nat} {th : Bool} {k : Nat} {d : Dsc} {s s' : WSt} {R : Except Int (List Spn)} (h : nxtS f size th k d s = R) (hl : s.left ≠ 0) (he : exam size th d s = .ok s') (h0 : s'.left = 0) : R = .ok s'.out := by
  unfold nxtS at h
  rw [if_neg hl] at h
  cases hm : 1023 - k with
  | zero => rw [hm] at h; unfold runS at h; rw [he] at h; simp only [h0, if_true] at h; exact h.symm
  | succ m => rw [hm] at h; unfold runS at h; rw [he] at h; simp only [h0, if_true] at h; exact h.symm
theorem nxt_short {f : Nat → Int} {size : Nat} {th : Bool} {k : Nat} {d : Dsc} {s s' : WSt} {R : Except Int (List Spn)} (h : nxtS f size th k d s = R) (hl : s.left ≠ 0) (he : exam size th d s = .ok s') (h0 : s'.left ≠ 0) (h1 : ¬ s'.at' < s'.en) : R = .error 162 := by
  unfold nxtS at h
  rw [if_neg hl] at h
  cases hm : 1023 - k with
  | zero => rw [hm] at h; unfold runS at h; rw [he] at h; simp only [h0, h1, if_false, not_false_eq_true, if_true] at h; exact h.symm
  | succ m => rw [hm] at h; unfold runS at h; rw [he] at h; simp only [h0, h1, if_false, not_false_eq_true, if_true] at h; exact h.symm
theorem nxt_long {f : Nat → Int} {size : Nat} {th : Bool} {k : Nat} {d : Dsc} {s s' : WSt} {R : Except Int (List Spn)} (h : nxtS f size th k d s = R) (hl : s.left ≠ 0) (he : exam size th d s = .ok s') (h0 : s'.left ≠ 0) (h1 : s'.at' < s'.en) (hk : k = 1023) : R = .error 5 := by
  subst hk
  unfold nxtS at h
  rw [if_neg hl, Nat.sub_self] at h
  unfold runS at h
  rw [he] at h
  simp only [h0, h1, if_false, not_true_eq_false] at h
  exact h.symm
theorem nxt_more {f : Nat → Int} {size : Nat} {th : Bool} {k : Nat} {d : Dsc} {s s' : WSt} {R : Except Int (List Spn)} (h : nxtS f size th k d s = R) (hl : s.left ≠ 0) (he : exam size th d s = .ok s') (h0 : s'.left ≠ 0) (h1 : s'.at' < s'.en) (hk : k < 1023) :
    (errAt f s'.at' ≠ 0 → R = .error (errAt f s'.at')) ∧ (errAt f s'.at' = 0 → ¬ Vld (dscAt f s'.at') → R = .error 2) ∧ (errAt f s'.at' = 0 → Vld (dscAt f s'.at') → nxtS f size th (k + 1) (dscAt f s'.at') { s' with at' := s'.at' + 16 } = R) := by
  unfold nxtS at h
  rw [if_neg hl, show 1023 - k = (1023 - (k + 1)) + 1 by omega] at h
  unfold runS at h
  rw [he] at h
  simp only [h0, h1, if_false, not_true_eq_false] at h
  refine ⟨fun e => ?_, fun e v => ?_, fun e v => ?_⟩
  · rw [if_pos e] at h; exact h.symm
  · rw [if_neg (fun c => c e), if_pos v] at h; exact h.symm
  · rw [if_neg (fun c => c e), if_neg (fun c => c v)] at h
    unfold nxtS
    simp only [h0, if_false]
    exact h

/-- how many are still left -/
def exLeft (wb : Nat) (W : World) : Nat := 1024 - (match W.cell? ⟨wb, 4, none⟩ with | some (.int _ n) => n.toNat | _ => 0)
theorem exLeft_of {w : World} {b B size : Nat} {f : Nat → Int} {L : List (Nat × Nat)} {kb wb lb : Nat} {th : Bool} {k : Nat} {s : WSt} {d : Dsc} {W : World} (h : LSt w b B size f L kb wb lb th (k : Int) s d W) : exLeft wb W = 1024 - k := by
  obtain ⟨v, -, -, h4, -⟩ := h.cells
  unfold exLeft
  rw [h4]
  simp

/-- A panic, wherever it comes up in a region: the slots 8 and 9 and the deferred calls are as they were. -/
def PanQ (w9 : World) (x8 x9 : Value) (D : List Deferred) (no : Int) : Exit → Act → World → Prop
  | .panic c, a, w => c = [pan no] ∧ a.tmps.getD 8 undef = x8 ∧ a.tmps.getD 9 undef = x9 ∧ a.defers = D ∧ w = w9
  | _, _, _ => False
theorem PanQ.put {w9 : World} {x8 x9 : Value} {D : List Deferred} {no : Int} {c : List PanicEntry} {a : Act} {w : World} {d : Nat} {v : Value} (h : PanQ w9 x8 x9 D no (.panic c) (a.put (some d) v) w) (h8 : d ≠ 8) (h9 : d ≠ 9) : PanQ w9 x8 x9 D no (.panic c) a w := by
  obtain ⟨e1, e2, e3, e4, e5⟩ := h
  refine ⟨e1, ?_, ?_, e4, e5⟩
  · rw [← e2]; simp [Act.put, Array.getElem?_setIfInBounds, h8]
  · rw [← e3]; simp [Act.put, Array.getElem?_setIfInBounds, h9]
theorem wp_pan {P : Program} {Q : Exit → Act → World → Prop} {c : Code} {a : Act} {w w9 : World} {x8 x9 : Value} {D : List Deferred} {no : Int} (h : c.wp P (PanQ w9 x8 x9 D no) a w) (hq : ∀ tmps, tmps.getD 8 undef = x8 → tmps.getD 9 undef = x9 → Q (.panic [pan no]) { tmps := tmps, defers := D } w9) : c.wp P Q a w :=
  wp_mono h fun e a' w' q => by
    cases e with
    | panic c =>
      obtain ⟨e1, e2, e3, e4, e5⟩ := q
      subst e1 e4 e5
      exact hq a'.tmps e2 e3
    | _ => exact q.elim
/-- Ends normally, in K. -/
def NormalOnly (K : Act → World → Prop) : Exit → Act → World → Prop
  | .normal, a, w => K a w
  | _, _, _ => False
theorem NormalOnly.intro {K : Act → World → Prop} {a : Act} {w : World} (h : K a w) : NormalOnly K .normal a w := h
theorem wp_normal {P : Program} {Q : Exit → Act → World → Prop} {a : Act} {w : World} {c : Code} (h : c.wp P (NormalOnly fun a w => Q .normal a w) a w) : c.wp P Q a w :=
  wp_mono h fun e _ _ q => by cases e <;> first | exact q | exact q.elim
end Go.Proofs.Ytcljbmkdflkeeaa
