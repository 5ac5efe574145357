/- transfer: first, valid. -/
import Derived.Test.YtfmabknhfehdcaaGreatZP32
namespace Go.Proofs.YtfmabknhfehdcaaGreat
set_option linter.unusedSimpArgs false
set_option linter.unusedVariables false
open Go.RowKit
set_option maxHeartbeats 1000000 in
theorem first_any (ao : Option Addr) (n c : Nat) (l : Nat → Int) (x : Int) (w : World) (hu : UAt w ao n l) (hx : x = if n = 0 then 0 else l 0) :
  Calls Tryz.prog 23 #[.slice ao n c] w fun e w' => e = .returned (.int .u64 x) ∧ w = w' := by
 by_cases h : n = 0
 ·subst h
  rw [if_pos rfl] at hx
  subst hx
  go_enter Tryz.func23, Tryz.ntmps23
  go_wp2
  go_ret
  exact ⟨rfl, rfl⟩
 ·rw [if_neg h] at hx
  obtain ⟨g, o, rfl, hc⟩ := hu (by omega)
  have c0 := hc 0 (by omega)
  rw [Nat.add_zero] at c0
  rw [← hx] at c0
  have q : ((n : Int) == 0) = false := beq_eq_false_iff_ne.2 (by omega)
  have q2 : (n == 0) = false := beq_eq_false_iff_ne.2 (by omega)
  clear hx hc hu
  go_enter Tryz.func23, Tryz.ntmps23
  go_wp2
  go_ret
  exact ⟨rfl, rfl⟩
/-- the first page that is no page -/
def IfPost (n : Nat) (p : Nat → Int) (w : World) (e : Ending) (w' : World) : Prop := ∃ r : Int, e = .returned (.int .i64 r) ∧ (((∀ i, i < n → p i % 4096 = 0) ∧ r = -1) ∨ ((∃ i, i < n ∧ p i % 4096 ≠ 0) ∧ 0 ≤ r)) ∧ w = w'
set_option maxRecDepth 100000 in
set_option maxHeartbeats 2000000 in
theorem indexf_any (pa : Option Addr) (n pc : Nat) (p : Nat → Int) (w : World) (hp : UAt w pa n p) (hup : U64 n p) (hn : n ≤ 9223372036854775807) :
  Calls Tryz.prog 84 #[.slice pa n pc, .func (.func 55) #[] #[]] w (IfPost n p w) := by
 have HP := Lib.hid hp
 have HUP := Lib.hid hup
 clear hp hup
 go_enter Tryz.func84, Tryz.ntmps84
 go_upto_region 2 with fail
 go_loopw [8] (fun i wr => ∃ k : Nat, k ≤ n ∧ i = .int .i64 (k : Nat) ∧ (∀ j, j < k → p j % 4096 = 0) ∧ wr = w) (fun i _ => n - (intOf i).toNat)
 case atStart => exact ⟨0, Nat.zero_le _, rfl, fun j h => by omega, rfl⟩
 case round =>
  obtain ⟨k, hk, rfl, hpk, rfl⟩ := hrel
  have HPK := Lib.hid hpk
  clear hpk
  by_cases hkn : k < n
  ·have q7 : decide ((k : Int) < (n : Int)) = true := decide_eq_true (by omega)
   obtain ⟨g, oo, hpa, hc⟩ := HP.out (by omega)
   subst hpa
   have c0 := hc k hkn
   obtain ⟨u0, u1⟩ := HUP.out k hkn
   obtain ⟨v, hv⟩ : ∃ z, z = p k := ⟨_, rfl⟩
   rw [← hv] at c0 u0 u1
   have HV := Lib.hid hv
   clear hc hv
   have hm : v.tmod 4096 = v % 4096 := Int.tmod_eq_emod_of_nonneg u0
   by_cases h4 : v % 4096 = 0
   ·have H4 := Lib.hid h4
    have qa : (v % 4096 != 0) = false := by simp [h4]
    clear h4 hm
    go_wp2
    go_roundw
    case rel =>
     exact ⟨k + 1, by omega, by go_num, fun j hj => by
      rcases Nat.lt_or_ge j k with h | h
      ·exact HPK.out j h
      ·obtain rfl : j = k := by omega
       rw [← HV.out]; exact H4.out, trivial⟩
    case measure => simp [intOf]; omega
   ·have HEX := Lib.hid (show ∃ i, i < n ∧ p i % 4096 ≠ 0 from ⟨k, hkn, by rw [← HV.out]; exact h4⟩)
    have qa : (v % 4096 != 0) = true := by simp [h4]
    clear h4 hm
    go_wp2
    go_ret
    exact ⟨_, rfl, .inr ⟨HEX.out, by omega⟩, rfl⟩
  ·have q7 : decide ((k : Int) < (n : Int)) = false := decide_eq_false (by omega)
   have HALL := Lib.hid (show ∀ i, i < n → p i % 4096 = 0 from fun i hi => HPK.out i (by omega))
   go_wp2
   go_ret
   exact ⟨_, rfl, .inl ⟨HALL.out, rfl⟩, rfl⟩
set_option maxHeartbeats 1000000 in
theorem containsf_any (pa : Option Addr) (n pc : Nat) (p : Nat → Int) (r : Bool) (w : World) (hp : UAt w pa n p) (hup : U64 n p) (hn : n ≤ 9223372036854775807) (hr : r = true ↔ ∃ i, i < n ∧ p i % 4096 ≠ 0) :
  Calls Tryz.prog 54 #[.slice pa n pc, .func (.func 55) #[] #[]] w fun e w' => e = .returned (.bool r) ∧ w = w' := by
 have HI := Lib.hid (indexf_any pa n pc p w hp hup hn)
 have HR := Lib.hid hr
 clear hp hup hr
 go_enter Tryz.func54, Tryz.ntmps54
 go_wp2_with (go_at_call 84; refine HI.out.mono ?_; rintro e w' ⟨i, rfl, hi, rfl⟩; have HD := Lib.hid hi; clear hi)
 go_ret
 refine ⟨?_, rfl⟩
 have h := HR.out
 rcases HD.out with ⟨h1, rfl⟩ | ⟨h1, h2⟩
 ·cases r with
  | false => rfl
  | true => obtain ⟨i, hi, hx⟩ := h.1 rfl; exact absurd (h1 i hi) hx
 ·rw [h.2 h1]
  simp [h2]
/-- What the arguments of Prepare must be. -/
structure TArg (np : Nat) (p : Nat → Int) (o N : Int) : Prop where
 n0 : 0 ≤ N
 n1 : N ≤ 1048576
 o0 : 0 ≤ o
 o1 : o < 4096
 o4 : o % 4 = 0
 k : (np : Int) = pgs o N
 pg : ∀ i, i < np → p i % 4096 = 0
set_option maxRecDepth 100000 in
set_option maxHeartbeats 2000000 in
theorem tvalid_any (pa : Option Addr) (n pc : Nat) (p : Nat → Int) (o N : Int) (r : Bool) (w : World) (hp : UAt w pa n p) (hup : U64 n p) (hn : n ≤ 9223372036854775807)
  (ho0 : -9223372036854775808 ≤ o) (ho1 : o ≤ 9223372036854775807) (hN0 : -9223372036854775808 ≤ N) (hN1 : N ≤ 9223372036854775807) (hr : r = true ↔ TArg n p o N) :
  Calls Tryz.prog 21 #[.slice pa n pc, .int .i64 o, .int .i64 N] w fun e w' => e = .returned (.bool r) ∧ w = w' := by
 by_cases h5 : 0 ≤ N ∧ N ≤ 1048576 ∧ 0 ≤ o ∧ o < 4096 ∧ o % 4 = 0
 case neg =>
  have hf : r = false := by
   cases r with
   | false => rfl
   | true => exact absurd (hr.1 rfl) fun h => h5 ⟨h.n0, h.n1, h.o0, h.o1, h.o4⟩
  subst hf
  clear hr hp hup
  have hq : decide (0 ≤ N) = false ∨ (decide (0 ≤ N) = true ∧ (decide (N ≤ 1048576) = false ∨ (decide (N ≤ 1048576) = true ∧ (decide (0 ≤ o) = false ∨ (decide (0 ≤ o) = true ∧ (decide (o < 4096) = false ∨ (decide (o < 4096) = true ∧ 0 ≤ o ∧ (o % 4 == 0) = false))))))) := by
   by_cases a1 : 0 ≤ N
   ·by_cases a2 : N ≤ 1048576
    ·by_cases a3 : 0 ≤ o
     ·by_cases a4 : o < 4096
      ·exact .inr ⟨decide_eq_true a1, .inr ⟨decide_eq_true a2, .inr ⟨decide_eq_true a3, .inr ⟨decide_eq_true a4, a3, beq_eq_false_iff_ne.2 fun e => h5 ⟨a1, a2, a3, a4, e⟩⟩⟩⟩⟩
      ·exact .inr ⟨decide_eq_true a1, .inr ⟨decide_eq_true a2, .inr ⟨decide_eq_true a3, .inl (decide_eq_false a4)⟩⟩⟩
     ·exact .inr ⟨decide_eq_true a1, .inr ⟨decide_eq_true a2, .inl (decide_eq_false a3)⟩⟩
    ·exact .inr ⟨decide_eq_true a1, .inl (decide_eq_false a2)⟩
   ·exact .inl (decide_eq_false a1)
  clear h5
  rcases hq with q1 | ⟨q1, q2 | ⟨q2, q3 | ⟨q3, q4 | ⟨q4, q5, q6⟩⟩⟩⟩
  all_goals
   go_enter Tryz.func21, Tryz.ntmps21
   go_wp2
   go_ret
   exact ⟨rfl, rfl⟩
 case pos =>
  obtain ⟨a1, a2, a3, a4, a5⟩ := h5
  have q1 : decide (0 ≤ N) = true := decide_eq_true a1
  have q2 : decide (N ≤ 1048576) = true := decide_eq_true a2
  have q3 : decide (0 ≤ o) = true := decide_eq_true a3
  have q4 : decide (o < 4096) = true := decide_eq_true a4
  have q5 : (o % 4 == 0) = true := beq_iff_eq.2 a5
  have A5 := Lib.hid a5
  clear a5
  obtain ⟨K, hK⟩ : ∃ K, K = pgs o N := ⟨_, rfl⟩
  have HK := Lib.hid hK.symm
  clear hK
  by_cases hk : (n : Int) = K
  ·have qk : ((n : Int) == K) = true := beq_iff_eq.2 hk
   obtain ⟨rr, hrr⟩ : ∃ b : Bool, b = !r := ⟨_, rfl⟩
   have HC := Lib.hid (fun W (hW : W = w) => containsf_any pa n pc p rr w hp hup hn (by
    rw [hrr]
    cases r with
    | false =>
     refine ⟨fun _ => ?_, fun _ => rfl⟩
     refine Classical.byContradiction fun hno => ?_
     have : TArg n p o N := ⟨a1, a2, a3, a4, A5.out, hk.trans HK.out.symm, fun i hi => Classical.byContradiction fun e => hno ⟨i, hi, e⟩⟩
     exact absurd (hr.2 this) (by simp)
    | true =>
     refine ⟨fun e => (by cases e), fun ⟨i, hi, e⟩ => absurd ((hr.1 rfl).pg i hi) e⟩))
   have hr2 : r = !rr := by rw [hrr, Bool.not_not]
   subst hr2
   clear hr hrr hp hup hk
   go_enter Tryz.func21, Tryz.ntmps21
   go_wp2_with (first
    | (go_at_call 53; refine (count_any o N K _ (by omega) (by omega) HK.out).mono ?_; rintro e w' ⟨rfl, rfl⟩)
    | (go_at_call 54; refine (HC.out w rfl).mono ?_; rintro e w' ⟨rfl, rfl⟩))
   go_ret
   exact ⟨rfl, rfl⟩
  ·have qk : ((n : Int) == K) = false := beq_eq_false_iff_ne.2 hk
   have hf : r = false := by
    cases r with
    | false => rfl
    | true => exact absurd ((hr.1 rfl).k.trans HK.out) hk
   subst hf
   clear hr hp hup hk
   go_enter Tryz.func21, Tryz.ntmps21
   go_wp2_with (go_at_call 53; refine (count_any o N K _ (by omega) (by omega) HK.out).mono ?_; rintro e w' ⟨rfl, rfl⟩)
   go_ret
   exact ⟨rfl, rfl⟩
end Go.Proofs.YtfmabknhfehdcaaGreat
namespace Go.Proofs.YtfmabknhfehdcaaGreat
set_option linter.unusedSimpArgs false
set_option linter.unusedVariables false
open Go.RowKit
/-- the offset, what is left ahead of a page -/
def bO (o : Int) (k : Nat) : Int := if k = 0 then o else 0
def bN (o N : Int) : Nat → Int
 | 0 => N
 | k + 1 => bN o N k - min (bN o N k) (4096 - bO o k)
/-- the block of a page -/
def bD (p : Nat → Int) (o N : Int) (k : Nat) : Dsc := ⟨1, p k + bO o k, min (bN o N k) (4096 - bO o k), 0⟩
def dC : List Dsc → List Value
 | [] => []
 | d :: r => d.cells.toList ++ dC r
theorem dC_append (a b : List Dsc) : dC (a ++ b) = dC a ++ dC b := by
 induction a with
 | nil => rfl
 | cons d r ih => simp [dC, ih]
def bL (p : Nat → Int) (o N : Int) (k : Nat) : List Dsc := (List.range k).map (bD p o N)
theorem bL_succ (p : Nat → Int) (o N : Int) (k : Nat) : bL p o N (k + 1) = bL p o N k ++ [bD p o N k] := by simp [bL, List.range_succ]
theorem bL_length (p : Nat → Int) (o N : Int) (k : Nat) : (bL p o N k).length = k := by simp [bL]
theorem bN_bd {o N : Int} (h0 : 0 ≤ N) (ho0 : 0 ≤ o) (ho1 : o < 4096) : ∀ k, 0 ≤ bN o N k ∧ bN o N k ≤ N
 | 0 => ⟨h0, Int.le_refl _⟩
 | k + 1 => by
  have h := bN_bd h0 ho0 ho1 k
  show 0 ≤ bN o N k - min (bN o N k) (4096 - bO o k) ∧ bN o N k - min (bN o N k) (4096 - bO o k) ≤ N
  have hb : 0 ≤ bO o k ∧ bO o k < 4096 := by unfold bO; split <;> omega
  omega
theorem buildDb (a n : Int) (w : World) : (Instr.build 72 #[(0, .int .i64 1), (1, .int .u64 a), (2, .int .i64 n)]).run Tryz.prog w = .ok (.agg (⟨1, a, n, 0⟩ : Dsc).cells) w := by kernel_rfl
theorem buildDb0 (w : World) : (Instr.build 72 #[(0, .int .i64 1)]).run Tryz.prog w = .ok (.agg (⟨1, 0, 0, 0⟩ : Dsc).cells) w := by kernel_rfl
/-- the list that blocks returns -/
def blkF (p : Nat → Int) (o N : Int) (n : Nat) : List Dsc := if n = 0 then [⟨1, 0, 0, 0⟩] else bL p o N n
theorem dsc_one1 (d : Dsc) : ∀ u ∈ d.cells.toList, u.oneCell' = true := by simp [Dsc.cells, Value.oneCell']
theorem infoDs : (Tryz.prog.info? 72).map (fun i => (i.zero, i.size, i.bytes)) = some (some (.agg zDsc.cells), 4, 32) := by kernel_rfl
theorem pgs_le (o N : Int) : pgs o N ≤ 258 := by unfold pgs; split <;> omega
set_option maxRecDepth 100000 in
set_option maxHeartbeats 4000000 in
theorem blocks_any (pa : Option Addr) (n pc : Nat) (p : Nat → Int) (o N : Int) (w : World) (hp : UAt w pa n p) (hup : U64 n p) (hA : TArg n p o N) :
  Calls Tryz.prog 24 #[.slice pa n pc, .int .i64 o, .int .i64 N] w fun e w' => ∃ v, e = .returned v ∧ w'.ownsRow w.heap.size 72 4 v (blkF p o N n).length (dC (blkF p o N n)) ∧ Below w.heap.size w w' := by
 have HP := Lib.hid hp
 have HUP := Lib.hid hup
 have HA := Lib.hid hA
 clear hp hup hA
 go_enter Tryz.func24, Tryz.ntmps24
 go_upto_region 3 with fail
 have hown0 : (w.alloc (.cells #[] 72)).ownsRow w.heap.size 72 4 (.slice (some ⟨w.heap.size, 0, none⟩) 0 0) 0 [] :=
  ⟨rfl, .inr ⟨w.heap.size, 0, #[], rfl, Nat.le_refl _, heap_alloc_new _ _, Nat.le_refl _, by simp [maxLen], rfl, rfl⟩⟩
 have B0 := Lib.hid (show Below w.heap.size w (w.alloc (.cells #[] 72)) from (Below.refl _ _).alloc (Nat.le_refl _) _)
 have O0 := Lib.hid hown0
 obtain ⟨v0, hv0⟩ : ∃ z : Value, z = .slice (some ⟨w.heap.size, 0, none⟩) 0 0 := ⟨_, rfl⟩
 rw [← hv0] at O0 ⊢
 obtain ⟨W0, hW0⟩ : ∃ z, z = w.alloc (.cells #[] 72) := ⟨_, rfl⟩
 rw [← hW0] at O0 B0 ⊢
 obtain ⟨i0, hi0, hz0, hz1, hz2⟩ := info_parts infoDs
 clear hown0 hv0 hW0
 have hk0 := pgs_le o N
 have HKN := Lib.hid (show n ≤ 4096 by have := HA.out.k; have := HA.out.n1; omega)
 clear hk0
 go_loopw [1, 2, 7, 14] (fun v1 v2 v7 v14 wr => ∃ k : Nat, k ≤ n ∧ v1 = .int .i64 (bO o k) ∧ v2 = .int .i64 (bN o N k) ∧ v14 = .int .i64 (k : Nat) ∧ wr.ownsRow w.heap.size 72 4 v7 k (dC (bL p o N k)) ∧ Below w.heap.size w wr) (fun _ _ _ v14 _ => n - (intOf v14).toNat)
 case atStart => exact ⟨0, Nat.zero_le _, rfl, rfl, rfl, O0.out, B0.out⟩
 case round =>
  obtain ⟨k, hk, rfl, rfl, rfl, hown, hbk⟩ := hrel
  have HO := Lib.hid hown
  have HB := Lib.hid hbk
  clear hown hbk
  by_cases hkn : k < n
  ·have q7 : decide ((k : Int) < (n : Int)) = true := decide_eq_true (by omega)
   obtain ⟨g, oo, hpa, hc⟩ := HP.out (by omega)
   subst hpa
   have c0 := (HB.out.cell (p := ⟨g, oo + k, none⟩) (World.block_lt_of_cell? _ _ (hc k hkn))).trans (hc k hkn)
   obtain ⟨u0, u1⟩ := HUP.out k hkn
   have hm4 := HA.out.pg k hkn
   have hbd := bN_bd HA.out.n0 HA.out.o0 HA.out.o1 k
   have hn1 := HA.out.n1
   have hob : 0 ≤ bO o k ∧ bO o k < 4096 := by have := HA.out.o0; have := HA.out.o1; unfold bO; split <;> omega
   obtain ⟨v, hv⟩ : ∃ z, z = p k := ⟨_, rfl⟩
   obtain ⟨x, hx⟩ : ∃ z, z = bO o k := ⟨_, rfl⟩
   obtain ⟨y, hy⟩ : ∃ z, z = bN o N k := ⟨_, rfl⟩
   have HD := Lib.hid (show bD p o N k = ⟨1, v + x, min y (4096 - x), 0⟩ by rw [hv, hx, hy]; rfl)
   have HN2 := Lib.hid (show bN o N (k + 1) = y - min y (4096 - x) by rw [hx, hy]; rfl)
   rw [← hv] at c0 u0 u1 hm4
   rw [← hx] at hob ⊢
   rw [← hy] at hbd ⊢
   obtain ⟨hob0, hob1⟩ := hob
   obtain ⟨hy0, hy1⟩ := hbd
   obtain ⟨m, hm⟩ : ∃ m, m = min y (4096 - x) := ⟨_, rfl⟩
   have HM := Lib.hid hm
   have hm0 : 0 ≤ m := by omega
   have hm1 : m ≤ y := by omega
   have hvx : v + x ≤ 18446744073709551615 := by omega
   have hbd1 := buildDb
   have hbs := run_bs1
   have HXY := Lib.hid (show (4096 - x < y ∧ m = 4096 - x) ∨ (¬ 4096 - x < y ∧ m = y) by omega)
   clear hc hv hx hy hm hm4
   rcases HXY.out with ⟨hlt, hme⟩ | ⟨hlt, hme⟩
   ·go_upto_region 6 with fail
    rw [← hme]
    clear hme
    obtain ⟨D, hD⟩ : ∃ D : Array Value, D = (⟨1, v + x, m, 0⟩ : Dsc).cells := ⟨_, rfl⟩
    have HDC := Lib.hid hD
    have HDS := Lib.hid (show D.size = 4 by rw [hD]; rfl)
    have HDO := Lib.hid (show ∀ u ∈ D.toList, u.oneCell' = true by rw [hD]; exact dsc_one1 _)
    have HBD := Lib.hid (fun w => by have h := buildDb (v + x) m w; rw [← hD] at h; exact h)
    have HBS := Lib.hid (fun w => by have h := run_bs1 ⟨1, v + x, m, 0⟩ w; rw [← hD] at h; exact h)
    clear hD hbd1 hbs
    go_upto_region 7 with (first
     | ((with_reducible show wpList _ _ _ (⟨some 28, _, _, _, _, _⟩ :: _) _ _); refine wpList_buildC rfl 72 _ rfl #[(0, .int .i64 1), (1, .int .u64 (v + x)), (2, .int .i64 m)] (by simp [Act.eval, Act.put]) (HBD.out _) ?_)
     | ((with_reducible show wpList _ _ _ (⟨some 29, _, _, _, _, _⟩ :: _) _ _); refine wpList_bs rfl 76 1 #[(0, .tmp 28)] rfl #[(0, .agg D)] (by simp [Act.eval, Act.put]) (HBS.out _) ?_)
     | ((with_reducible show wpList _ _ _ (⟨some 30, _, _, _, _, _⟩ :: _) _ _); go_loud (refine wpList_append_own _ rfl _ _ 76 rfl w.heap.size 72 i0 (.agg zDsc.cells) 4 32 Tryz.underlying76 hi0 hz0 hz1 hz2 rfl (by decide) u7 k (dC (bL p o N k)) rfl (HO.out.alloc (.cells D 72)) ⟨wr.heap.size, 0, none⟩ 1 1 D.toList rfl (by simp [HDS.out]) (World.news_of_block (cs := D) (t := 72) (fr := (0, 0)) (heap_alloc_new wr _)) HDO.out (by have := HKN.out; unfold maxLen; omega) (by have := HKN.out; omega) (by have := HB.out.size; simp; omega) ?_; intro v7 w7 hown7 hgr7 hnil7; have O7 := Lib.hid hown7; have G7 := Lib.hid hgr7; clear hown7 hgr7 hnil7)))
    have hB7 := Lib.hid ((HB.out.alloc HB.out.size (.cells D 72)).grown G7.out (by have := HB.out.size; simp; omega) (fun q e => (HO.out.lt q e).1))
    have hy2 : 0 ≤ y - m := by omega
    have hy3 : y - m ≤ 1048576 := by omega
    have hkn4 := HKN.out
    go_wp2
    go_roundw
    case rel =>
     refine ⟨k + 1, by omega, by unfold bO; rw [if_neg (by omega)], congrArg _ (by have h1 := HM.out; have h2 := HN2.out; omega), by rw [Int.natCast_add]; rfl, ?_, hB7.out⟩
     have h := O7.out
     rw [bL_succ, dC_append, HD.out, ← HM.out]
     simpa [dC, HDC.out] using h
    case measure => simp [intOf]; omega
   ·subst hme
    go_upto_region 6 with fail
    obtain ⟨D, hD⟩ : ∃ D : Array Value, D = (⟨1, v + x, m, 0⟩ : Dsc).cells := ⟨_, rfl⟩
    have HDC := Lib.hid hD
    have HDS := Lib.hid (show D.size = 4 by rw [hD]; rfl)
    have HDO := Lib.hid (show ∀ u ∈ D.toList, u.oneCell' = true by rw [hD]; exact dsc_one1 _)
    have HBD := Lib.hid (fun w => by have h := buildDb (v + x) m w; rw [← hD] at h; exact h)
    have HBS := Lib.hid (fun w => by have h := run_bs1 ⟨1, v + x, m, 0⟩ w; rw [← hD] at h; exact h)
    clear hD hbd1 hbs
    go_upto_region 7 with (first
     | ((with_reducible show wpList _ _ _ (⟨some 28, _, _, _, _, _⟩ :: _) _ _); refine wpList_buildC rfl 72 _ rfl #[(0, .int .i64 1), (1, .int .u64 (v + x)), (2, .int .i64 m)] (by simp [Act.eval, Act.put]) (HBD.out _) ?_)
     | ((with_reducible show wpList _ _ _ (⟨some 29, _, _, _, _, _⟩ :: _) _ _); refine wpList_bs rfl 76 1 #[(0, .tmp 28)] rfl #[(0, .agg D)] (by simp [Act.eval, Act.put]) (HBS.out _) ?_)
     | ((with_reducible show wpList _ _ _ (⟨some 30, _, _, _, _, _⟩ :: _) _ _); go_loud (refine wpList_append_own _ rfl _ _ 76 rfl w.heap.size 72 i0 (.agg zDsc.cells) 4 32 Tryz.underlying76 hi0 hz0 hz1 hz2 rfl (by decide) u7 k (dC (bL p o N k)) rfl (HO.out.alloc (.cells D 72)) ⟨wr.heap.size, 0, none⟩ 1 1 D.toList rfl (by simp [HDS.out]) (World.news_of_block (cs := D) (t := 72) (fr := (0, 0)) (heap_alloc_new wr _)) HDO.out (by have := HKN.out; unfold maxLen; omega) (by have := HKN.out; omega) (by have := HB.out.size; simp; omega) ?_; intro v7 w7 hown7 hgr7 hnil7; have O7 := Lib.hid hown7; have G7 := Lib.hid hgr7; clear hown7 hgr7 hnil7)))
    have hB7 := Lib.hid ((HB.out.alloc HB.out.size (.cells D 72)).grown G7.out (by have := HB.out.size; simp; omega) (fun q e => (HO.out.lt q e).1))
    have hkn4 := HKN.out
    go_wp2
    go_roundw
    case rel =>
     refine ⟨k + 1, by omega, by unfold bO; rw [if_neg (by omega)], congrArg _ (by have h1 := HM.out; have h2 := HN2.out; omega), by rw [Int.natCast_add]; rfl, ?_, hB7.out⟩
     have h := O7.out
     rw [bL_succ, dC_append, HD.out, ← HM.out]
     simpa [dC, HDC.out] using h
    case measure => simp [intOf]; omega
  ·have q7 : decide ((k : Int) < (n : Int)) = false := decide_eq_false (by omega)
   obtain rfl : k = n := by omega
   obtain ⟨av, cv, rfl, hl1, hl2⟩ := ownsRow_shape HO.out
   by_cases hn0 : k = 0
   ·subst hn0
    obtain ⟨D, hD⟩ : ∃ D : Array Value, D = (⟨1, 0, 0, 0⟩ : Dsc).cells := ⟨_, rfl⟩
    have HDC := Lib.hid hD
    have HDS := Lib.hid (show D.size = 4 by rw [hD]; rfl)
    have HDO := Lib.hid (show ∀ u ∈ D.toList, u.oneCell' = true by rw [hD]; exact dsc_one1 _)
    have HBD := Lib.hid (fun w => by have h := buildDb0 w; rw [← hD] at h; exact h)
    have HBS := Lib.hid (fun w => by have h := run_bs1 ⟨1, 0, 0, 0⟩ w; rw [← hD] at h; exact h)
    clear hD
    go_wp2_with (first
     | ((with_reducible show wpList _ _ _ (⟨some 39, _, _, _, _, _⟩ :: _) _ _); refine wpList_buildC rfl 72 _ rfl #[(0, .int .i64 1)] (by simp [Act.eval, Act.put]) (HBD.out _) ?_)
     | ((with_reducible show wpList _ _ _ (⟨some 40, _, _, _, _, _⟩ :: _) _ _); refine wpList_bs rfl 76 1 #[(0, .tmp 39)] rfl #[(0, .agg D)] (by simp [Act.eval, Act.put]) (HBS.out _) ?_)
     | ((with_reducible show wpList _ _ _ (⟨some 41, _, _, _, _, _⟩ :: _) _ _); refine wpList_append_own _ rfl _ _ 76 rfl w.heap.size 72 i0 (.agg zDsc.cells) 4 32 Tryz.underlying76 hi0 hz0 hz1 hz2 rfl (by decide) (.slice av 0 cv) 0 (dC (bL p o N 0)) rfl (HO.out.alloc (.cells D 72)) ⟨wr.heap.size, 0, none⟩ 1 1 D.toList rfl (by simp [HDS.out]) (World.news_of_block (cs := D) (t := 72) (fr := (0, 0)) (heap_alloc_new wr _)) HDO.out (by unfold maxLen; omega) (by omega) (by have := HB.out.size; simp; omega) ?_; intro v7 w7 hown7 hgr7 hnil7; have O7 := Lib.hid hown7; have G7 := Lib.hid hgr7; clear hown7 hgr7 hnil7))
    go_ret
    refine ⟨_, rfl, ?_, (HB.out.alloc HB.out.size (.cells D 72)).grown G7.out (by have := HB.out.size; simp; omega) (fun q e => (HO.out.lt q e).1)⟩
    have h := O7.out
    simpa [blkF, bL, dC, HDC.out] using h
   ·have q8 : ((k : Int) == 0) = false := beq_eq_false_iff_ne.2 (by omega)
    have q9 : (k == 0) = false := beq_eq_false_iff_ne.2 (by omega)
    go_wp2
    go_ret
    refine ⟨_, rfl, ?_, HB.out⟩
    unfold blkF
    rw [if_neg hn0, bL_length]
    exact HO.out
end Go.Proofs.YtfmabknhfehdcaaGreat
namespace Go.Proofs.YtfmabknhfehdcaaGreat
set_option linter.unusedSimpArgs false
set_option linter.unusedVariables false
open Go.RowKit
/-- a command with other data -/
def cmD (C : Array Value) (x y : Int) : Array Value := (C.setIfInBounds 8 (.int .u64 x)).setIfInBounds 9 (.int .u64 y)
theorem all_set {A : Array Value} (h : A.all (·.oneCell') = true) (i : Nat) (v : Value) (hv : v.oneCell' = true) : (A.setIfInBounds i v).all (·.oneCell') = true := by
 rw [Array.all_eq_true] at h ⊢
 intro j hj
 have hj' : j < A.size := by simpa using hj
 have e := Array.getElem_setIfInBounds (xs := A) (i := i) (a := v) (j := j) hj'
 rw [e]
 split
 ·exact hv
 ·exact h j hj'
set_option maxRecDepth 100000 in
set_option maxHeartbeats 8000000 in
theorem prep_p {C : Array Value} {mt d0 d1 : Int} (b B size : Nat) (f : Nat → Int) (L : List (Nat × Nat)) (la pa : Option Addr) (nl lc np pc : Nat) (o N : Int) (T : Nat → Prop) (Post : Int → Int → Int → World → World → Prop) (w : World) (hC : Cm C false mt d0 d1) (hM : MemAt w b B size f L) (hs : 0 < size)
  (hB : ∀ W, Below w.heap.size w W → Calls Tryz.prog 20 #[.pointer (some ⟨b, 0, none⟩), .slice la nl lc, .slice pa np pc, .int .i64 o, .int .i64 N] W fun e w' => ∃ x y r, e = .returned (.tuple #[.int .u64 x, .int .u64 y, .int .i64 r]) ∧ Keeps T W w' ∧ Post x y r W w')
  (hT : ∀ j, T j → j < w.heap.size) (hPk : ∀ x y r W a c, Post x y r W a → Keeps (fun j => w.heap.size ≤ j) a c → Post x y r W c) :
  Calls Tryz.prog 6 #[.pointer (some ⟨b, 0, none⟩), .agg C, .slice la nl lc, .slice pa np pc, .int .i64 o, .int .i64 N] w fun e w' => ∃ x y r W, Below w.heap.size w W ∧ Post x y r W w' ∧ Keeps T w w' ∧ e = .returned (.tuple #[.agg (if r = 0 then cmD C x y else zCm), .int .i64 r]) := by
 have HB := Lib.hid hB
 have HPK := Lib.hid hPk
 have HT := Lib.hid hT
 have HM := Lib.hid hM
 have HC := Lib.hid hC
 obtain ⟨sz, hsz⟩ : ∃ z : Int, z = size := ⟨_, rfl⟩
 have dz : (sz == 0) = false := beq_eq_false_iff_ne.2 (by omega)
 have HSZ := Lib.hid hsz
 have HCZ := Lib.hid (show (Tryz.prog.info? 28).map (·.size) = some C.size by rw [hC.z]; exact sizeCm)
 have HZ := Lib.hid zeroCm
 have HBZ := Lib.hid build_cm0
 have HZZ := Lib.hid (show (Tryz.prog.info? 28).map (·.size) = some zCm.size from sizeCm)
 have HZ1 := Lib.hid (show zCm.all (·.oneCell') = true by simp [zCm, Value.oneCell'])
 have HZ0 := Lib.hid (show zCm.size = 16 from rfl)
 clear hB hPk hT hM hC hsz
 obtain ⟨Z, hZ⟩ : ∃ Z, Z = zCm := ⟨_, rfl⟩
 rw [← hZ] at HZ HBZ HZZ HZ1 HZ0 ⊢
 clear hZ
 go_enter Tryz.func6, Tryz.ntmps6
 go_upto_region 1 with ((with_reducible show wpList _ _ _ (⟨some 12, _, _, _, _, _⟩ :: _) _ _); refine wpList_alloc rfl 28 rfl HZ.out ?_; rw [show (Value.agg Z).cells = Z from rfl])
 obtain ⟨W0, hW0⟩ : ∃ W0, W0 = (w.alloc (.cells C 28)).alloc (.cells Z 28) := ⟨_, rfl⟩
 rw [← hW0]
 have AC := Lib.hid (show ArrAt W0 w.heap.size C by rw [hW0]; exact (ArrAt.fresh w C _ (by rw [HC.out.z]; decide)).alloc _)
 have AZ := Lib.hid (show ArrAt W0 (w.heap.size + 1) Z by rw [hW0]; simpa using ArrAt.fresh (w.alloc (.cells C 28)) Z 28 (by rw [HZ0.out]; decide))
 have B0 := Lib.hid (show Below w.heap.size w W0 by rw [hW0]; exact ((Below.refl _ _).alloc (Nat.le_refl _) _).alloc (by simp) _)
 clear hW0
 have c2 := AC.out.cell HC.out.g2
 go_upto_region 9 with (go_at_call 19; refine (size_is b B size f L sz _ (HM.out.below B0.out) HSZ.out).mono ?_; rintro e w' ⟨rfl, rfl⟩)
 have hwz := B0.out.size
 go_upto_region 14 with (go_at_call 20; refine (HB.out W0 B0.out).mono ?_; rintro e w3 ⟨x, y, r, rfl, hk, hp⟩; have K3 := Lib.hid hk; have P3 := Lib.hid hp; have AC3 := Lib.hid (AC.out.kept hk (fun e => by have := HT.out _ e; omega)); have AZ3 := Lib.hid (AZ.out.kept hk (fun e => by have := HT.out _ e; omega)); have c8 := AC3.out.cell HC.out.g8; have c9 := AC3.out.cell HC.out.g9; have y8 := AC3.out.frozen (i := 8) (by rw [HC.out.z]; omega); have y9 := AC3.out.frozen (i := 9) (by rw [HC.out.z]; omega); clear hk hp)
 obtain ⟨W4, hW4⟩ : ∃ z, z = (w3.setCell ⟨w.heap.size, 8, none⟩ (.int .u64 x)).setCell ⟨w.heap.size, 9, none⟩ (.int .u64 y) := ⟨_, rfl⟩
 rw [← hW4]
 have k4 : Keeps (One w.heap.size) w3 W4 := by rw [hW4]; exact ((Keeps.refl (One w.heap.size) w3).setCell (p := ⟨w.heap.size, 8, none⟩) (fun _ => rfl) _).setCell (p := ⟨w.heap.size, 9, none⟩) (fun _ => rfl) _
 have AC4 := Lib.hid (show ArrAt W4 w.heap.size (cmD C x y) by
  rw [hW4]
  exact (AC3.out.set 8 (.int .u64 x) (by rw [HC.out.z]; omega)).set 9 (.int .u64 y) (by rw [Array.size_setIfInBounds, HC.out.z]; omega))
 have AZ4 := Lib.hid (AZ3.out.kept k4 (fun e => by have e : w.heap.size + 1 = w.heap.size := e; omega))
 have K4 := Lib.hid k4
 have HDZ := Lib.hid (show (Tryz.prog.info? 28).map (·.size) = some (cmD C x y).size by rw [show (cmD C x y).size = C.size by simp [cmD]]; exact HCZ.out)
 have HD1 := Lib.hid (show (cmD C x y).all (·.oneCell') = true from all_set (all_set HC.out.o 8 _ rfl) 9 _ rfl)
 have HD16 := Lib.hid (show (cmD C x y).size = 16 by rw [show (cmD C x y).size = C.size by simp [cmD]]; exact HC.out.z)
 obtain ⟨D, hD⟩ : ∃ D, D = cmD C x y := ⟨_, rfl⟩
 rw [← hD] at AC4 HDZ HD1 HD16
 have HDE := Lib.hid hD
 clear hD hW4 k4 c8 c9 y8 y9 AC3 AZ3 c2
 have HK := Lib.hid (show ∀ A : Array Value, Keeps T w (W4.setCells (w.heap.size + 1) 0 A.toList) ∧ Post x y r W0 (W4.setCells (w.heap.size + 1) 0 A.toList) from fun A => by
  have k5 : Keeps (fun j => w.heap.size ≤ j) w3 (W4.setCells (w.heap.size + 1) 0 A.toList) := (K4.out.mono (fun j _ e => Nat.le_of_eq (Eq.symm e))).trans (Keeps.store (S := fun j => w.heap.size ≤ j) (Keeps.refl _ _) (fun _ => by show w.heap.size ≤ _; omega) _ _)
  refine ⟨?_, HPK.out _ _ _ _ _ _ P3.out k5⟩
  have k6 : Keeps (fun j => T j ∨ w.heap.size ≤ j) w (W4.setCells (w.heap.size + 1) 0 A.toList) := ((Keeps.of_below B0.out).trans (K3.out.mono fun _ _ e => Or.inl e)).trans (k5.mono fun _ _ e => Or.inr e)
  exact ⟨k6.os, k6.tape, k6.output, k6.size, fun k hk hS => k6.block k hk (fun e => e.elim hS (fun e => by omega))⟩)
 by_cases hr : r = 0
 ·have q : (r != 0) = false := by simp [hr]
  have HR := Lib.hid hr
  clear hr
  go_wp2_with (first
   | ((with_reducible show wpList _ _ _ (⟨some 77, _, _, _, _, _⟩ :: _) _ _); refine wpList_loadA rfl AC4.out 28 (.tmp 7) rfl (by first | rfl | simp [Act.eval, Act.put]) Tryz.underlying28 rfl HDZ.out ?_)
   | ((with_reducible show wpList _ _ _ (⟨none, .store _ _ _, _, _, _, _⟩ :: _) _ _); refine wpList_storeA rfl (b := w.heap.size + 1) (A := Z) (A' := D) AZ4.out 28 (.tmp 12) (.tmp 77) rfl (by simp [Act.eval, Act.put]) (by simp [Act.eval, Act.put]) HZZ.out (by rw [HD16.out, HZ0.out]) HD1.out ?_))
  obtain ⟨h1, h2⟩ := HK.out D
  have hs := AZ4.out.store D (by rw [HD16.out, HZ0.out])
  refine bodyPost_ret (v := .tuple #[.agg D, .int .i64 r]) (results_cm2 Tryz.results6 hs HDZ.out rfl (by rw [HR.out]; rfl)) rfl ⟨x, y, r, W0, B0.out, h2, h1, by rw [if_pos HR.out, HDE.out]⟩
 ·have q : (r != 0) = true := by simp [hr]
  have HR := Lib.hid hr
  clear hr
  go_wp2_with (first
   | ((with_reducible show wpList _ _ _ (⟨some 75, _, _, _, _, _⟩ :: _) _ _); refine wpList_build0 rfl 28 rfl (HBZ.out _) ?_)
   | ((with_reducible show wpList _ _ _ (⟨none, .store _ _ _, _, _, _, _⟩ :: _) _ _); refine wpList_storeA rfl (b := w.heap.size + 1) (A := Z) (A' := Z) AZ4.out 28 (.tmp 12) (.tmp 75) rfl (by simp [Act.eval, Act.put]) (by simp [Act.eval, Act.put]) HZZ.out rfl HZ1.out ?_))
  obtain ⟨h1, h2⟩ := HK.out Z
  have hs := AZ4.out.store Z rfl
  refine bodyPost_ret (v := .tuple #[.agg Z, .int .i64 r]) (results_cm2 Tryz.results6 hs HZZ.out rfl rfl) rfl ⟨x, y, r, W0, B0.out, h2, h1, by rw [if_neg HR.out]⟩
end Go.Proofs.YtfmabknhfehdcaaGreat
