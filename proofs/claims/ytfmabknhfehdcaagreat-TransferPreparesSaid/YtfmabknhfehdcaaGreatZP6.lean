/- prp: plain laws (no walk): the walk's steps; the spans of what was built. -/
import Derived.Test.YtfmabknhfehdcaaGreatZP5
import Derived.Test.YtfmabknhfehdcaaGreatZP2
import Derived.Test.YtfmabknhfehdcaaGreatZP4
import Derived.Deep.RegionHeld3
import Derived.Outline
namespace Go.Proofs.YtfmabknhfehdcaaGreat
set_option linter.unusedSimpArgs false
set_option linter.unusedVariables false
open Go.RowKit
/-- Count -/
def pgs (first n : Int) : Int := if n < 1 ∨ 1048576 < n then 0 else (first % 4096 + n + 4095) / 4096
/-- the number of addresses up to the end of a page -/
def roomP (l : Int) : Int := (4096 - l % 4096 + 7) / 8
/-- Lists -/
def lstsP (second pages : Int) : Int := if pages < 3 ∨ 257 < pages then 0 else if pages - 1 ≤ roomP second then 1 else 2
/-- the address that is stored at an address -/
def wrd (f : Nat → Int) (a : Int) : Int := hz (fun i => f (a.toNat + i)) 7 8
structure PSt where
 list : Int
 fresh : Bool
 left : Int
 out : List Spn
def nxtP (f : Nat → Int) (size : Nat) (missing : Int) (s : PSt) : Except Int (Int × PSt) :=
 if s.fresh = true ∧ s.list % 8 ≠ 0 then .error 150
 else if chk size s.list 8 ≠ 0 then .error (chk size s.list 8)
 else if s.list % 4096 = 4088 ∧ 1 < missing then
  if wrd f s.list % 4096 ≠ 0 then .error 150
  else if chk size (wrd f s.list) 8 ≠ 0 then .error (chk size (wrd f s.list) 8)
  else .ok (wrd f (wrd f s.list), ⟨wrd f s.list + 8, false, s.left, s.out⟩)
 else .ok (wrd f s.list, ⟨s.list + 8, false, s.left, s.out⟩)
def addA (size : Nat) (a : Int) (s : PSt) : Except Int PSt :=
 if chk size a (min s.left (4096 - a % 4096)) ≠ 0 then .error (chk size a (min s.left (4096 - a % 4096)))
 else .ok ⟨s.list, s.fresh, s.left - min s.left (4096 - a % 4096), s.out ++ [⟨a, min s.left (4096 - a % 4096), false⟩]⟩
def adrP (f : Nat → Int) (size : Nat) (second pages : Int) (i : Int) (s : PSt) : Except Int (Int × PSt) :=
 if 2 < pages then nxtP f size (pages - i) s else .ok (second, s)
def stepP (f : Nat → Int) (size : Nat) (second pages : Int) (i : Int) (s : PSt) : Except Int PSt :=
 match adrP f size second pages i s with
 | .error e => .error e
 | .ok x => if x.1 % 4096 ≠ 0 then .error 150 else addA size x.1 x.2
def runP (f : Nat → Int) (size : Nat) (second pages : Int) : Nat → Int → PSt → Except Int (List Spn)
 | 0, _, s => .ok s.out
 | k + 1, i, s => match stepP f size second pages i s with
  | .error e => .error e
  | .ok s' => runP f size second pages k (i + 1) s'
def spansP (f : Nat → Int) (size : Nat) (first second n : Int) : Except Int (List Spn) :=
 if n < 0 ∨ 1048576 < n then .error 2 else if n = 0 then .ok [] else if first % 4 ≠ 0 then .error 150
 else match addA size first ⟨second, true, n, []⟩ with
  | .error e => .error e
  | .ok s => runP f size second (pgs first n) ((pgs first n).toNat - 1) 1 s
/-- bytes of words -/
def wB (g : Nat → Int) (j : Nat) : Int := byteOf (g (j / 8)) (j % 8)
/-- the memory behind Build -/
def bltF (f : Nat → Int) (l0 l1 R K : Nat) (p : Nat → Int) : Nat → Int :=
 if K ≤ R + 1 then upd f l0 (8 * (K - 1)) (wB fun e => p (e + 1))
 else upd (upd f l0 (8 * R) (wB fun e => if e + 1 < R then p (e + 1) else l1)) l1 (8 * (K - R)) (wB fun e => p (R + e))
section
variable {f : Nat → Int} {size l0 l1 R K : Nat} {p : Nat → Int} {o N : Int}
/-- what is known of the pages and lists of a transfer -/
structure Bt (size l0 l1 R K : Nat) (p : Nat → Int) (o N : Int) : Prop where
 n0 : 1 ≤ N
 n1 : N ≤ 1048576
 o0 : 0 ≤ o
 o1 : o < 4096
 o4 : o % 4 = 0
 k : pgs o N = K
 pg : ∀ i, i < K → p i % 4096 = 0 ∧ 0 ≤ p i ∧ p i + 4096 ≤ size
 sz : size ≤ 4194304
 a0 : l0 % 8 = 0
 r : R = (4096 - l0 % 4096) / 8
 f0 : l0 / 4096 * 4096 + 4096 ≤ size
 a1 : l1 % 4096 = 0
 f1 : l1 + 4096 ≤ size
 ne : l0 / 4096 ≠ l1 / 4096
def lenP (o N : Int) (i : Nat) : Int := if i = 0 then min N (4096 - o) else min (N + o - 4096 * i) 4096
def adP (p : Nat → Int) (o : Int) (i : Nat) : Int := if i = 0 then p 0 + o else p i
def outP (p : Nat → Int) (o N : Int) (k : Nat) : List Spn := (List.range k).map fun i => ⟨adP p o i, lenP o N i, false⟩
/-- where the e-th address is sought -/
def posP (l0 l1 R K e : Nat) : Int := if K ≤ R + 1 ∨ e < R then l0 + 8 * e else l1 + 8 * (e - (R - 1) : Nat)
end
end Go.Proofs.YtfmabknhfehdcaaGreat
namespace Go.Proofs.YtfmabknhfehdcaaGreat
set_option linter.unusedSimpArgs false
set_option linter.unusedVariables false
open Go.RowKit
/-- A descriptor. -/
structure Dsc where
 k : Int
 a : Int
 n : Int
 key : Int
def Dsc.cells (d : Dsc) : Array Value := #[.int .i64 d.k, .int .u64 d.a, .int .i64 d.n, .int .u32 d.key]
structure Dsc.Ok (d : Dsc) : Prop where
 k : -9223372036854775808 ≤ d.k ∧ d.k ≤ 9223372036854775807
 a : 0 ≤ d.a ∧ d.a ≤ 18446744073709551615
 n : -9223372036854775808 ≤ d.n ∧ d.n ≤ 9223372036854775807
 key : 0 ≤ d.key ∧ d.key ≤ 4294967295
/-- the greatest length of a kind, and one -/
def lim (k : Int) : Int := if k = 5 then 16777216 else 4294967296
def Vld (d : Dsc) : Prop := (1 ≤ d.k ∧ d.k ≤ 5) ∧ (0 ≤ d.n ∧ d.n < lim d.k) ∧ (d.key = 0 ∨ d.k = 5) ∧ (d.a = 0 ∨ d.k ≠ 2)
instance (d : Dsc) : Decidable (Vld d) := by unfold Vld; infer_instance
def vldD (d : Dsc) : Bool := decide (Vld d)
/-- the kinds -/
def kinds5 : Array Value := #[.int .i64 1, .int .i64 2, .int .i64 3, .int .i64 4, .int .i64 5]
theorem size5 : (Tryz.prog.info? 117).map (·.size) = some kinds5.size := by kernel_rfl
def zer5 : Array Value := #[.int .i64 0, .int .i64 0, .int .i64 0, .int .i64 0, .int .i64 0]
theorem zero5 (w : World) : (zeroValue 117).run Tryz.prog w = .ok (.agg zer5) w := by kernel_rfl
theorem build5 (w : World) : (Instr.build 117 #[(0, .int .i64 1), (1, .int .i64 2), (2, .int .i64 3), (3, .int .i64 4), (4, .int .i64 5)]).run Tryz.prog w = .ok (.agg kinds5) w := by kernel_rfl
theorem kinds5_one : kinds5.all (·.oneCell') = true := by simp [kinds5, Value.oneCell']
set_option maxRecDepth 100000 in
theorem types_any (w : World) : Calls Tryz.prog 64 #[] w fun e w' => e = .returned (.agg kinds5) ∧ Below w.heap.size w w' := by
 go_enter Tryz.func64, Tryz.ntmps64
 go_wp2_with (first
  | ((with_reducible show wpList _ _ _ (⟨some 0, _, _, _, _, _⟩ :: _) _ _); refine wpList_alloc rfl 117 rfl zero5 ?_; rw [show (Value.agg zer5).cells = zer5 from rfl])
  | ((with_reducible show wpList _ _ _ (⟨some 1, _, _, _, _, _⟩ :: _) _ _); refine wpList_buildC rfl 117 #[(0, .const (.int .i64 1)), (1, .const (.int .i64 2)), (2, .const (.int .i64 3)), (3, .const (.int .i64 4)), (4, .const (.int .i64 5))] rfl #[(0, .int .i64 1), (1, .int .i64 2), (2, .int .i64 3), (3, .int .i64 4), (4, .int .i64 5)] (by simp [Act.eval, Act.put]) (build5 _) ?_)
  | ((with_reducible show wpList _ _ _ (⟨none, _, _, _, _, _⟩ :: _) _ _); refine wpList_storeA rfl (b := w.heap.size) (A := zer5) (A' := kinds5) (ArrAt.fresh w zer5 _ (by decide)) 117 (.tmp 0) (.tmp 1) rfl (by simp [Act.eval, Act.put]) (by simp [Act.eval, Act.put]) size5 rfl kinds5_one ?_))
 exact bodyPost_ret (results_c rfl _ _ _ ((ArrAt.fresh w zer5 _ (by decide)).store kinds5 rfl) rfl Tryz.underlying117 rfl size5) rfl ⟨rfl, bstore ((Below.refl _ _).alloc (Nat.le_refl _) _) _ (Nat.le_refl _) _ _⟩
set_option maxHeartbeats 400000 in
theorem index5 (b : Nat) (k : Int) (w : World) (c0 : w.cell? ⟨b, 0, none⟩ = some (.int .i64 1)) (c1 : w.cell? ⟨b, 1, none⟩ = some (.int .i64 2)) (c2 : w.cell? ⟨b, 2, none⟩ = some (.int .i64 3)) (c3 : w.cell? ⟨b, 3, none⟩ = some (.int .i64 4)) (c4 : w.cell? ⟨b, 4, none⟩ = some (.int .i64 5)) :
  Calls Tryz.prog 65 #[.slice (some ⟨b, 0, none⟩) 5 5, .int .i64 k] w fun e w' => e = .returned (.int .i64 (if 1 ≤ k ∧ k ≤ 5 then k - 1 else -1)) ∧ w = w' := by
 by_cases h : 1 ≤ k ∧ k ≤ 5
 ·obtain rfl | rfl | rfl | rfl | rfl : k = 1 ∨ k = 2 ∨ k = 3 ∨ k = 4 ∨ k = 5 := by omega
  all_goals
   clear h
   go_enter Tryz.func65, Tryz.ntmps65
   go_wp2
   refine wp_loop_rounds 6 ?_
   rw [rounds_succ]
   go_wp2
   try (rw [rounds_succ]; go_wp2)
   try (rw [rounds_succ]; go_wp2)
   try (rw [rounds_succ]; go_wp2)
   try (rw [rounds_succ]; go_wp2)
   go_ret
   exact ⟨rfl, rfl⟩
 ·have e1 : (k == 1) = false := beq_eq_false_iff_ne.2 (by omega)
  have e2 : (k == 2) = false := beq_eq_false_iff_ne.2 (by omega)
  have e3 : (k == 3) = false := beq_eq_false_iff_ne.2 (by omega)
  have e4 : (k == 4) = false := beq_eq_false_iff_ne.2 (by omega)
  have e5 : (k == 5) = false := beq_eq_false_iff_ne.2 (by omega)
  have HH := Lib.hid h
  clear h
  go_enter Tryz.func65, Tryz.ntmps65
  go_wp2
  refine wp_loop_rounds 6 ?_
  rw [rounds_succ]
  go_wp2
  rw [rounds_succ]; go_wp2
  rw [rounds_succ]; go_wp2
  rw [rounds_succ]; go_wp2
  rw [rounds_succ]; go_wp2
  rw [rounds_succ]; go_wp2
  go_ret
  exact ⟨by first | rfl | rw [if_neg HH.out], rfl⟩
theorem contains5 (b : Nat) (k : Int) (r : Bool) (hr : decide (1 ≤ k ∧ k ≤ 5) = r) (w : World) (c0 : w.cell? ⟨b, 0, none⟩ = some (.int .i64 1)) (c1 : w.cell? ⟨b, 1, none⟩ = some (.int .i64 2)) (c2 : w.cell? ⟨b, 2, none⟩ = some (.int .i64 3)) (c3 : w.cell? ⟨b, 3, none⟩ = some (.int .i64 4)) (c4 : w.cell? ⟨b, 4, none⟩ = some (.int .i64 5)) :
  Calls Tryz.prog 85 #[.slice (some ⟨b, 0, none⟩) 5 5, .int .i64 k] w fun e w' => e = .returned (.bool r) ∧ w = w' := by
 obtain ⟨z, hz⟩ : ∃ z, z = (if 1 ≤ k ∧ k ≤ 5 then k - 1 else -1 : Int) := ⟨_, rfl⟩
 have HI := Lib.hid (index5 b k w c0 c1 c2 c3 c4)
 rw [← hz] at HI
 have d : decide (0 ≤ z) = r := by
  rw [← hr, hz]
  split <;> simp <;> omega
 clear hz hr
 go_enter Tryz.func85, Tryz.ntmps85
 go_wp2_with (go_at_call 65; refine HI.out.mono ?_; rintro e w' ⟨rfl, rfl⟩)
 go_ret
 exact ⟨by simp [d], rfl⟩
end Go.Proofs.YtfmabknhfehdcaaGreat
