/- sgl: a plain model of Spans; the walk that examines a list, in memory. -/
import Derived.Test.YtcljbmkdflkeeaaSC
import Derived.Deep.RegionHeld3
import Derived.Deep.AppendLies
import Derived.Deep.RegionLaw
namespace Go.Proofs.Ytcljbmkdflkeeaa
set_option linter.unusedVariables false
set_option linter.unusedSimpArgs false
open Go.RowKit

/-- A span. -/
structure Spn where
  a : Int
  n : Int
  bk : Bool
def Spn.l (x : Spn) : List Value := [.int .u64 x.a, .int .i64 x.n, .bool x.bk]
def spC : List Spn → List Value
  | [] => []
  | x :: r => x.l ++ spC r
theorem spC_append (a : List Spn) (x : Spn) : spC (a ++ [x]) = spC a ++ x.l := by
  induction a with
  | nil => simp [spC]
  | cons y r ih => simp [spC, ih]
theorem spC_length (a : List Spn) : (spC a).length = a.length * 3 := by
  induction a with
  | nil => rfl
  | cons y r ih => simp [spC, ih, Spn.l]; omega

/-- The state of a walk. -/
structure WSt where
  ins : Bool
  las : Bool
  at' : Int
  en : Int
  left : Int
  out : List Spn
def addS (x : Spn) (s : WSt) : WSt :=
  if 0 < min x.n s.left then { s with out := s.out ++ [{ x with n := min x.n s.left }], left := s.left - min x.n s.left } else s
/-- what is examined: an error, or the next state -/
def exam (size : Nat) (th : Bool) (d : Dsc) (s : WSt) : Except Int WSt :=
  if d.k = 3 ∨ d.k = 4 then
    if ¬ (0 < d.n ∧ d.n % 16 = 0 ∧ (s.ins = false ∨ (s.las = false ∧ s.at' = s.en))) then .error 161
    else if chk size d.a d.n ≠ 0 then .error (chk size d.a d.n)
    else .ok { s with ins := true, las := decide (d.k = 4), at' := d.a, en := d.a + d.n }
  else if d.k = 2 then .ok (if th then addS ⟨0, d.n, true⟩ s else s)
  else if chk size d.a d.n ≠ 0 then .error (chk size d.a d.n)
  else .ok (addS ⟨d.a, d.n, false⟩ s)
/-- the descriptor at an address -/
def dscAt (f : Nat → Int) (at' : Int) : Dsc := decD (hz (fun i => f (at'.toNat + i)) 7 8) (hiW fun i => f (at'.toNat + i))
def errAt (f : Nat → Int) (at' : Int) : Int := decE (hiW fun i => f (at'.toNat + i))
/-- what follows: at most k + 1 descriptors are examined -/
def runS (f : Nat → Int) (size : Nat) (th : Bool) : Nat → Dsc → WSt → Except Int (List Spn)
  | 0, d, s => match exam size th d s with
    | .error e => .error e
    | .ok s' => if s'.left = 0 then .ok s'.out else if ¬ s'.at' < s'.en then .error 162 else .error 5
  | k + 1, d, s => match exam size th d s with
    | .error e => .error e
    | .ok s' => if s'.left = 0 then .ok s'.out else if ¬ s'.at' < s'.en then .error 162
      else if errAt f s'.at' ≠ 0 then .error (errAt f s'.at') else if ¬ Vld (dscAt f s'.at') then .error 2
      else runS f size th k (dscAt f s'.at') { s' with at' := s'.at' + 16 }
def spansM (f : Nat → Int) (size : Nat) (d : Dsc) (n : Int) (th : Bool) : Except Int (List Spn) :=
  if ¬ (Vld d ∧ 0 ≤ n ∧ n ≤ 1048576) then .error 2 else if n = 0 then .ok [] else runS f size th 1023 d ⟨false, false, 0, 0, n, []⟩

/-- What holds of a state. -/
structure WSt.Ok (s : WSt) (size : Nat) : Prop where
  a0 : 0 ≤ s.at'
  ae : s.at' ≤ s.en
  es : s.en ≤ size
  m : (s.en - s.at') % 16 = 0
  l0 : 0 ≤ s.left
  l1 : (s.out.length : Int) + s.left ≤ 1048576
theorem addS_ok {s : WSt} {size : Nat} (x : Spn) (h : s.Ok size) : (addS x s).Ok size := by
  unfold addS
  split
  · obtain ⟨h1, h2, h3, h4, h5, h6⟩ := h
    exact ⟨h1, h2, h3, h4, by simp only []; omega, by simp only [List.length_append, List.length_cons, List.length_nil]; omega⟩
  · exact h
theorem chk_ok {size : Nat} {a n : Int} (h : chk size a n = 0) : 0 ≤ n ∧ a + n ≤ size := by
  unfold chk at h
  split at h
  · omega
  · split at h <;> omega
theorem exam_ok {size : Nat} {th : Bool} {d : Dsc} {s s' : WSt} (h : exam size th d s = .ok s') (hd : 0 ≤ d.a) (hs : s.Ok size) : s'.Ok size := by
  unfold exam at h
  split at h
  · split at h
    · cases h
    · rename_i hc
      split at h
      · cases h
      · rename_i hk
        cases h
        have hk' := chk_ok (Classical.not_not.1 hk)
        have hc' := Classical.not_not.1 hc
        obtain ⟨h1, h2, h3, h4, h5, h6⟩ := hs
        exact ⟨hd, by simp only []; omega, by simp only []; omega, by simp only []; omega, h5, h6⟩
  · split at h
    · cases h
      split
      · exact addS_ok _ hs
      · exact hs
    · split at h
      · cases h
      · cases h
        exact addS_ok _ hs

/-- the cells of a walk -/
def wcell (m : Value) (th : Bool) (v : Value) (ex : Int) (s : WSt) : Nat → Value := fun i =>
  if i = 0 then m else if i = 1 then .bool th else if i = 2 then .int .i64 s.left else if i = 3 then v else if i = 4 then .int .i64 ex else if i = 5 then .int .u64 s.at' else if i = 6 then .int .u64 s.en else if i = 7 then .bool s.ins else .bool s.las
/-- A walk lies in block wb; the blocks P are not its own. -/
structure Wlk (P : Nat → Prop) (wb : Nat) (W : World) (m : Value) (th : Bool) (ex : Int) (s : WSt) : Prop where
  ex : ∃ v, W.rowIs wb 114 9 (wcell m th v ex s) ∧ W.ownsRow (wb + 1) 62 3 v s.out.length (spC s.out) ∧ ∀ k, P k → v.ownBlock ≠ some k
  notg : ¬ P wb
  lt : ∀ k, P k → k < W.heap.size
namespace Wlk
variable {P : Nat → Prop} {wb : Nat} {W W' : World} {m : Value} {th : Bool} {ex : Int} {s : WSt}
theorem wlt (h : Wlk P wb W m th ex s) : wb < W.heap.size := by obtain ⟨v, hr, -⟩ := h.ex; exact hr.lt
theorem less {Q : Nat → Prop} (h : Wlk P wb W m th ex s) (hQ : ∀ k, Q k → P k) : Wlk Q wb W m th ex s := by
  obtain ⟨v, hr, ho, hp⟩ := h.ex
  exact ⟨⟨v, hr, ho, fun k hk => hp k (hQ k hk)⟩, fun hg => h.notg (hQ _ hg), fun k hk => h.lt k (hQ k hk)⟩
theorem below (h : Wlk P wb W m th ex s) (hb : Below W.heap.size W W') : Wlk P wb W' m th ex s := by
  obtain ⟨v, hr, ho, hp⟩ := h.ex
  have k := Keeps.of_below (S := fun _ => False) hb
  exact ⟨⟨v, k.rowIs hr (fun e => e), ho.kept (row := none) ⟨k.os, k.tape, k.output, k.size, fun j hj _ => k.block j hj (fun e => e)⟩ (by cases v.ownBlock <;> simp), hp⟩, h.notg, fun j hj => Nat.lt_of_lt_of_le (h.lt j hj) k.size⟩
/-- Blocks made since are not the walk's own. -/
theorem more (h : Wlk P wb W m th ex s) (hb : Below W.heap.size W W') : Wlk (fun k => P k ∨ (W.heap.size ≤ k ∧ k < W'.heap.size)) wb W' m th ex s := by
  obtain ⟨v, hr, ho, hp⟩ := h.ex
  have k := Keeps.of_below (S := fun _ => False) hb
  refine ⟨⟨v, k.rowIs hr (fun e => e), ho.kept (row := none) ⟨k.os, k.tape, k.output, k.size, fun j hj _ => k.block j hj (fun e => e)⟩ (by cases v.ownBlock <;> simp), fun j hj => ?_⟩, fun hg => hg.elim h.notg (fun e => by have := hr.lt; omega), fun j hj => hj.elim (fun e => Nat.lt_of_lt_of_le (h.lt j e) k.size) (fun e => e.2)⟩
  rcases hj with hj | hj
  · exact hp j hj
  · intro e
    have := (ho.lt j e).2
    omega
end Wlk
end Go.Proofs.Ytcljbmkdflkeeaa
