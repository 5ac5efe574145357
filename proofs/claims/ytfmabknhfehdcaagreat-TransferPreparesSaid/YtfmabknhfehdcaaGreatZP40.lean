/- transfer: Prepare of a scatter gather list, where the arguments are bad or no list is given. -/
import Derived.Test.YtfmabknhfehdcaaGreatZP34
import Derived.Test.YtfmabknhfehdcaaGreatZP10
import Derived.Test.YtfmabknhfehdcaaGreatZP18
namespace Go.Proofs.YtfmabknhfehdcaaGreat
set_option linter.unusedSimpArgs false
set_option linter.unusedVariables false
open Go.RowKit
set_option maxRecDepth 100000 in
set_option maxHeartbeats 8000000 in
theorem prep_err {C : Array Value} {mt d0 d1 : Int} (b B size : Nat) (f : Nat → Int) (L : List (Nat × Nat)) (la pa : Option Addr) (nl lc np pc : Nat) (p : Nat → Int) (o N : Int) (w : World) (hC : Cm C true mt d0 d1) (hM : MemAt w b B size f L) (hs : 0 < size)
  (hp : UAt w pa np p) (hup : U64 np p) (hnp : np ≤ 9223372036854775807) (ho0 : -9223372036854775808 ≤ o) (ho1 : o ≤ 9223372036854775807) (hN0 : -9223372036854775808 ≤ N) (hN1 : N ≤ 9223372036854775807) (r : Int)
  (hr : (¬ TArg np p o N ∧ r = 2) ∨ (TArg np p o N ∧ 1 < np ∧ nl = 0 ∧ r = 7)) :
  Calls Tryz.prog 6 #[.pointer (some ⟨b, 0, none⟩), .agg C, .slice la nl lc, .slice pa np pc, .int .i64 o, .int .i64 N] w fun e w' => e = .returned (.tuple #[.agg zCm, .int .i64 r]) ∧ Below w.heap.size w w' := by
 have HM := Lib.hid hM
 have HC := Lib.hid hC
 have HP := Lib.hid hp
 have HUP := Lib.hid hup
 obtain ⟨sz, hsz⟩ : ∃ z : Int, z = size := ⟨_, rfl⟩
 have dz : (sz == 0) = false := beq_eq_false_iff_ne.2 (by omega)
 have HSZ := Lib.hid hsz
 have HZ := Lib.hid zeroCm
 have HBZ := Lib.hid build_cm0
 have HZZ := Lib.hid (show (Tryz.prog.info? 28).map (·.size) = some zCm.size from sizeCm)
 have HZ1 := Lib.hid (show zCm.all (·.oneCell') = true by simp [zCm, Value.oneCell'])
 have HZ0 := Lib.hid (show zCm.size = 16 from rfl)
 obtain ⟨q, hq⟩ : ∃ q : Bool, q = true ↔ TArg np p o N := by
  by_cases h : TArg np p o N
  ·exact ⟨true, fun _ => h, fun _ => rfl⟩
  ·exact ⟨false, fun e => (by cases e), fun e => absurd e h⟩
 have HR : (q = false ∧ r = 2) ∨ (q = true ∧ (decide ((1 : Int) < (np : Int)) = true ∧ decide (1 < np) = true) ∧ (((nl : Int) == 0) = true ∧ (nl == 0) = true) ∧ r = 7) := by
  rcases hr with ⟨h, e⟩ | ⟨h, h1, h2, e⟩
  ·refine .inl ⟨?_, e⟩
   cases q with
   | false => rfl
   | true => exact absurd (hq.1 rfl) h
  ·exact .inr ⟨hq.2 h, ⟨decide_eq_true (by omega), decide_eq_true h1⟩, ⟨by simp [h2], by simp [h2]⟩, e⟩
 have HQ := Lib.hid hq
 clear hM hC hp hup hsz hq hr
 obtain ⟨Z, hZ⟩ : ∃ Z, Z = zCm := ⟨_, rfl⟩
 rw [← hZ] at HZ HBZ HZZ HZ1 HZ0 ⊢
 clear hZ
 go_enter Tryz.func6, Tryz.ntmps6
 go_upto_region 1 with ((with_reducible show wpList _ _ _ (⟨some 12, _, _, _, _, _⟩ :: _) _ _); refine wpList_alloc rfl 28 rfl HZ.out ?_; rw [show (Value.agg Z).cells = Z from rfl])
 obtain ⟨W0, hW0⟩ : ∃ W0, W0 = (w.alloc (.cells C 28)).alloc (.cells Z 28) := ⟨_, rfl⟩
 rw [← hW0]
 have AC := Lib.hid (show ArrAt W0 w.heap.size C by rw [hW0]; exact (ArrAt.fresh w C _ (by rw [HC.out.z]; decide)).alloc _)
 have AZ := Lib.hid (show ArrAt W0 (w.heap.size + 1) Z by rw [hW0]; simpa using ArrAt.fresh (w.alloc (.cells C 28)) Z 28 (by rw [HZ0.out]; decide))
 have B0 := Lib.hid (show Below w.heap.size w W0 by rw [hW0]; exact ((Below.refl _ _).alloc (Nat.le_refl _) _).alloc (by simp) _)
 clear hW0
 have c2 := AC.out.cell HC.out.g2
 have HV := Lib.hid (tvalid_any pa np pc p o N q W0 (HP.out.below B0.out) HUP.out hnp ho0 ho1 hN0 hN1 HQ.out)
 rcases HR with ⟨rfl, rfl⟩ | ⟨rfl, ⟨q1, q2⟩, ⟨q3, q4⟩, rfl⟩
 all_goals
  go_wp2_with (first
   | (go_at_call 19; refine (size_is b B size f L sz _ (HM.out.below B0.out) HSZ.out).mono ?_; rintro e w' ⟨rfl, rfl⟩)
   | (go_at_call 21; refine HV.out.mono ?_; rintro e w' ⟨rfl, rfl⟩)
   | ((with_reducible show wpList _ _ _ (⟨some 75, _, _, _, _, _⟩ :: _) _ _); refine wpList_build0 rfl 28 rfl (HBZ.out _) ?_)
   | ((with_reducible show wpList _ _ _ (⟨none, .store _ _ _, _, _, _, _⟩ :: _) _ _); refine wpList_storeA rfl (b := w.heap.size + 1) (A := Z) (A' := Z) AZ.out 28 (.tmp 12) (.tmp 75) rfl (by simp [Act.eval, Act.put]) (by simp [Act.eval, Act.put]) HZZ.out rfl HZ1.out ?_))
  have hs := AZ.out.store Z rfl
  refine bodyPost_ret (v := .tuple #[.agg Z, .int .i64 _]) (results_cm2 Tryz.results6 hs HZZ.out rfl rfl) rfl ⟨rfl, bstore B0.out _ (by omega) _ _⟩
end Go.Proofs.YtfmabknhfehdcaaGreat
namespace Go.Proofs.YtfmabknhfehdcaaGreat
set_option linter.unusedSimpArgs false
set_option linter.unusedVariables false
open Go.RowKit
set_option maxRecDepth 100000 in
set_option maxHeartbeats 2000000 in
theorem dB_word (d : Dsc) (hv : Vld d) (ho : d.Ok) (j : Nat) (hj : j < 16) : dB d j = fwB d.a (word1 d) j := by
 obtain ⟨⟨h1, h5⟩, ⟨n0, n1⟩, h3, h4⟩ := hv
 obtain ⟨-, -, -, y0, y1⟩ := ho
 unfold lim at n1
 by_cases h8 : j < 8
 ·unfold dB fwB
  rw [if_neg (by omega), if_neg (by omega), if_pos h8, if_pos h8, Nat.mod_eq_of_lt h8]
 ·unfold dB fwB byteOf word1
  by_cases k5 : d.k = 5
  ·rw [if_pos k5] at n1
   rw [k5]
   obtain rfl | rfl | rfl | rfl | rfl | rfl | rfl | rfl : j = 8 ∨ j = 9 ∨ j = 10 ∨ j = 11 ∨ j = 12 ∨ j = 13 ∨ j = 14 ∨ j = 15 := by omega
   all_goals
    simp
    omega
  ·rw [if_neg k5] at n1
   have hk : d.key = 0 := by omega
   rw [hk]
   obtain rfl | rfl | rfl | rfl | rfl | rfl | rfl | rfl : j = 8 ∨ j = 9 ∨ j = 10 ∨ j = 11 ∨ j = 12 ∨ j = 13 ∨ j = 14 ∨ j = 15 := by omega
   all_goals
    simp [k5]
    try omega
end Go.Proofs.YtfmabknhfehdcaaGreat
namespace Go.Proofs.YtfmabknhfehdcaaGreat
set_option linter.unusedSimpArgs false
set_option linter.unusedVariables false
open Go.RowKit
/-- Sixteen bytes of a descriptor at an address. -/
def Lies (f : Nat → Int) (A : Nat) (d : Dsc) : Prop := ∀ i, i < 16 → f (A + i) = fwB d.a (word1 d) i
section
variable {f : Nat → Int} {size : Nat} {th : Bool} {d d' : Dsc} {s s' : WSt}
end
/-- What is left, and what was found. -/
abbrev LO := Int × List Spn
def addP (x : Spn) (p : LO) : LO := if 0 < min x.n p.1 then (p.1 - min x.n p.1, p.2 ++ [{ x with n := min x.n p.1 }]) else p
def stp (th : Bool) (d : Dsc) (p : LO) : LO := if d.k = 2 then (if th then addP ⟨0, d.n, true⟩ p else p) else addP ⟨d.a, d.n, false⟩ p
def WSt.lo (s : WSt) : LO := (s.left, s.out)
def WSt.set (s : WSt) (p : LO) : WSt := { s with left := p.1, out := p.2 }
/-- the first k of a list -/
def fold (th : Bool) (l : Nat → Dsc) : Nat → LO → LO
 | 0, p => p
 | k + 1, p => stp th (l k) (fold th l k p)
/-- Blocks at an address, each of which may be read. -/
structure Seg (f : Nat → Int) (size : Nat) (A n : Nat) (l : Nat → Dsc) : Prop where
 lies : ∀ j, j < n → Lies f (A + 16 * j) (l j)
 good : ∀ j, j < n → Good (l j)
 ok : ∀ j, j < n → (l j).Ok
 chk : ∀ j, j < n → (l j).k = 2 ∨ chk size (l j).a (l j).n = 0
end Go.Proofs.YtfmabknhfehdcaaGreat
namespace Go.Proofs.YtfmabknhfehdcaaGreat
set_option linter.unusedSimpArgs false
set_option linter.unusedVariables false
open Go.RowKit
theorem vld_seg {k : Int} (hk : k = 3 ∨ k = 4) {A n : Nat} (hn : 16 * n < 4294967296) : Vld ⟨k, A, (16 * n : Nat), 0⟩ := by
 refine ⟨⟨by show 1 ≤ k; omega, by show k ≤ 5; omega⟩, ⟨by show (0 : Int) ≤ ((16 * n : Nat) : Int); omega, ?_⟩, .inl rfl, .inr (by show k ≠ 2; omega)⟩
 show ((16 * n : Nat) : Int) < lim k
 unfold lim
 rw [if_neg (by omega)]
 omega
theorem ok_seg {k : Int} (hk : k = 3 ∨ k = 4) {A n : Nat} (hA : A ≤ 18446744073709551615) (hn : 16 * n < 4294967296) : (⟨k, A, (16 * n : Nat), 0⟩ : Dsc).Ok :=
 ⟨by show -9223372036854775808 ≤ k ∧ k ≤ 9223372036854775807; omega, by show (0 : Int) ≤ (A : Int) ∧ (A : Int) ≤ 18446744073709551615; omega, by show (-9223372036854775808 : Int) ≤ ((16 * n : Nat) : Int) ∧ ((16 * n : Nat) : Int) ≤ 9223372036854775807; omega, by show (0 : Int) ≤ 0 ∧ (0 : Int) ≤ 4294967295; omega⟩
/-- the list of SglBounds: 1022 blocks without a byte, one of n bytes, one more -/
def bnL (n : Int) (i : Nat) : Dsc := if i < 1022 then ⟨1, ((16384 + i : Nat) : Int), 0, 0⟩ else if i = 1022 then ⟨1, 20000, n, 0⟩ else ⟨1, 0, 1, 0⟩
end Go.Proofs.YtfmabknhfehdcaaGreat
