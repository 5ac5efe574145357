/- transfer: first, valid. -/
import Derived.Test.YtfmabknhfehdcaaZT34
namespace Go.Proofs.Ytfmabknhfehdcaa
set_option linter.unusedVariables false
set_option linter.unusedSimpArgs false
open Go.RowKit

set_option maxHeartbeats 1000000 in
theorem first_any (ao : Option Addr) (n c : Nat) (l : Nat → Int) (x : Int) (w : World) (hu : UAt w ao n l) (hx : x = if n = 0 then 0 else l 0) :
    Calls Try.prog 39 #[.slice ao n c] w fun e w' => e = .returned (.int .u64 x) ∧ w = w' := by
  by_cases h : n = 0
  · subst h
    rw [if_pos rfl] at hx
    subst hx
    go_enter Try.func39, Try.ntmps39
    go_wp2
    go_ret
    exact ⟨rfl, rfl⟩
  · rw [if_neg h] at hx
    obtain ⟨g, o, rfl, hc⟩ := hu (by omega)
    have c0 := hc 0 (by omega)
    rw [Nat.add_zero] at c0
    rw [← hx] at c0
    have q : ((n : Int) == 0) = false := beq_eq_false_iff_ne.2 (by omega)
    have q2 : (n == 0) = false := beq_eq_false_iff_ne.2 (by omega)
    clear hx hc hu
    go_enter Try.func39, Try.ntmps39
    go_wp2
    go_ret
    exact ⟨rfl, rfl⟩
/-- the first page that is no page -/
def IfPost (n : Nat) (p : Nat → Int) (w : World) (e : Ending) (w' : World) : Prop := ∃ r : Int, e = .returned (.int .i64 r) ∧ (((∀ i, i < n → p i % 4096 = 0) ∧ r = -1) ∨ ((∃ i, i < n ∧ p i % 4096 ≠ 0) ∧ 0 ≤ r)) ∧ w = w'
set_option maxRecDepth 100000 in
set_option maxHeartbeats 2000000 in
theorem indexf_any (pa : Option Addr) (n pc : Nat) (p : Nat → Int) (w : World) (hp : UAt w pa n p) (hup : U64 n p) (hn : n ≤ 9223372036854775807) :
    Calls Try.prog 90 #[.slice pa n pc, .func (.func 69) #[] #[]] w (IfPost n p w) := by
  have HP := Lib.hid hp
  have HUP := Lib.hid hup
  clear hp hup
  go_enter Try.func90, Try.ntmps90
  go_upto_region 2 with fail
  go_loopw [8] (fun i wr => ∃ k : Nat, k ≤ n ∧ i = .int .i64 (k : Nat) ∧ (∀ j, j < k → p j % 4096 = 0) ∧ wr = w) (fun i _ => n - (intOf i).toNat)
  case atStart => exact ⟨0, Nat.zero_le _, rfl, fun j h => by omega, rfl⟩
  case round =>
    obtain ⟨k, hk, rfl, hpk, rfl⟩ := hrel
    have HPK := Lib.hid hpk
    clear hpk
    by_cases hkn : k < n
    · have q7 : decide ((k : Int) < (n : Int)) = true := decide_eq_true (by omega)
      obtain ⟨g, oo, hpa, hc⟩ := HP.out (by omega)
      subst hpa
      have c0 := hc k hkn
      obtain ⟨u0, u1⟩ := HUP.out k hkn
      obtain ⟨v, hv⟩ : ∃ z, z = p k := ⟨_, rfl⟩
      rw [← hv] at c0 u0 u1
      have HV := Lib.hid hv
      clear hc hv
      have hm : v.tmod 4096 = v % 4096 := Int.tmod_eq_emod_of_nonneg u0
      by_cases h4 : v % 4096 = 0
      · have H4 := Lib.hid h4
        have qa : (v % 4096 != 0) = false := by simp [h4]
        clear h4 hm
        go_wp2
        go_roundw
        case rel =>
          exact ⟨k + 1, by omega, by go_num, fun j hj => by
            rcases Nat.lt_or_ge j k with h | h
            · exact HPK.out j h
            · obtain rfl : j = k := by omega
              rw [← HV.out]; exact H4.out, trivial⟩
        case measure => simp [intOf]; omega
      · have HEX := Lib.hid (show ∃ i, i < n ∧ p i % 4096 ≠ 0 from ⟨k, hkn, by rw [← HV.out]; exact h4⟩)
        have qa : (v % 4096 != 0) = true := by simp [h4]
        clear h4 hm
        go_wp2
        go_ret
        exact ⟨_, rfl, .inr ⟨HEX.out, by omega⟩, rfl⟩
    · have q7 : decide ((k : Int) < (n : Int)) = false := decide_eq_false (by omega)
      have HALL := Lib.hid (show ∀ i, i < n → p i % 4096 = 0 from fun i hi => HPK.out i (by omega))
      go_wp2
      go_ret
      exact ⟨_, rfl, .inl ⟨HALL.out, rfl⟩, rfl⟩
set_option maxHeartbeats 1000000 in
theorem containsf_any (pa : Option Addr) (n pc : Nat) (p : Nat → Int) (r : Bool) (w : World) (hp : UAt w pa n p) (hup : U64 n p) (hn : n ≤ 9223372036854775807) (hr : r = true ↔ ∃ i, i < n ∧ p i % 4096 ≠ 0) :
    Calls Try.prog 68 #[.slice pa n pc, .func (.func 69) #[] #[]] w fun e w' => e = .returned (.bool r) ∧ w = w' := by
  have HI := Lib.hid (indexf_any pa n pc p w hp hup hn)
  have HR := Lib.hid hr
  clear hp hup hr
  go_enter Try.func68, Try.ntmps68
  go_wp2_with (go_at_call 90; refine HI.out.mono ?_; rintro e w' ⟨i, rfl, hi, rfl⟩; have HD := Lib.hid hi; clear hi)
  go_ret
  refine ⟨?_, rfl⟩
  have h := HR.out
  rcases HD.out with ⟨h1, rfl⟩ | ⟨h1, h2⟩
  · cases r with
    | false => rfl
    | true => obtain ⟨i, hi, hx⟩ := h.1 rfl; exact absurd (h1 i hi) hx
  · rw [h.2 h1]
    simp [h2]
/-- What the arguments of Prepare must be. -/
structure TArg (np : Nat) (p : Nat → Int) (o N : Int) : Prop where
  n0 : 0 ≤ N
  n1 : N ≤ 1048576
  o0 : 0 ≤ o
  o1 : o < 4096
  o4 : o % 4 = 0
  k : (np : Int) = pgs o N
  pg : ∀ i, i < np → p i % 4096 = 0
set_option maxRecDepth 100000 in
set_option maxHeartbeats 2000000 in
theorem tvalid_any (pa : Option Addr) (n pc : Nat) (p : Nat → Int) (o N : Int) (r : Bool) (w : World) (hp : UAt w pa n p) (hup : U64 n p) (hn : n ≤ 9223372036854775807)
    (ho0 : -9223372036854775808 ≤ o) (ho1 : o ≤ 9223372036854775807) (hN0 : -9223372036854775808 ≤ N) (hN1 : N ≤ 9223372036854775807) (hr : r = true ↔ TArg n p o N) :
    Calls Try.prog 37 #[.slice pa n pc, .int .i64 o, .int .i64 N] w fun e w' => e = .returned (.bool r) ∧ w = w' := by
  by_cases h5 : 0 ≤ N ∧ N ≤ 1048576 ∧ 0 ≤ o ∧ o < 4096 ∧ o % 4 = 0
  case neg =>
    have hf : r = false := by
      cases r with
      | false => rfl
      | true => exact absurd (hr.1 rfl) fun h => h5 ⟨h.n0, h.n1, h.o0, h.o1, h.o4⟩
    subst hf
    clear hr hp hup
    have hq : decide (0 ≤ N) = false ∨ (decide (0 ≤ N) = true ∧ (decide (N ≤ 1048576) = false ∨ (decide (N ≤ 1048576) = true ∧ (decide (0 ≤ o) = false ∨ (decide (0 ≤ o) = true ∧ (decide (o < 4096) = false ∨ (decide (o < 4096) = true ∧ 0 ≤ o ∧ (o % 4 == 0) = false))))))) := by
      by_cases a1 : 0 ≤ N
      · by_cases a2 : N ≤ 1048576
        · by_cases a3 : 0 ≤ o
          · by_cases a4 : o < 4096
            · exact .inr ⟨decide_eq_true a1, .inr ⟨decide_eq_true a2, .inr ⟨decide_eq_true a3, .inr ⟨decide_eq_true a4, a3, beq_eq_false_iff_ne.2 fun e => h5 ⟨a1, a2, a3, a4, e⟩⟩⟩⟩⟩
            · exact .inr ⟨decide_eq_true a1, .inr ⟨decide_eq_true a2, .inr ⟨decide_eq_true a3, .inl (decide_eq_false a4)⟩⟩⟩
          · exact .inr ⟨decide_eq_true a1, .inr ⟨decide_eq_true a2, .inl (decide_eq_false a3)⟩⟩
        · exact .inr ⟨decide_eq_true a1, .inl (decide_eq_false a2)⟩
      · exact .inl (decide_eq_false a1)
    clear h5
    rcases hq with q1 | ⟨q1, q2 | ⟨q2, q3 | ⟨q3, q4 | ⟨q4, q5, q6⟩⟩⟩⟩
    all_goals
      go_enter Try.func37, Try.ntmps37
      go_wp2
      go_ret
      exact ⟨rfl, rfl⟩
  case pos =>
    obtain ⟨a1, a2, a3, a4, a5⟩ := h5
    have q1 : decide (0 ≤ N) = true := decide_eq_true a1
    have q2 : decide (N ≤ 1048576) = true := decide_eq_true a2
    have q3 : decide (0 ≤ o) = true := decide_eq_true a3
    have q4 : decide (o < 4096) = true := decide_eq_true a4
    have q5 : (o % 4 == 0) = true := beq_iff_eq.2 a5
    have A5 := Lib.hid a5
    clear a5
    obtain ⟨K, hK⟩ : ∃ K, K = pgs o N := ⟨_, rfl⟩
    have HK := Lib.hid hK.symm
    clear hK
    by_cases hk : (n : Int) = K
    · have qk : ((n : Int) == K) = true := beq_iff_eq.2 hk
      obtain ⟨rr, hrr⟩ : ∃ b : Bool, b = !r := ⟨_, rfl⟩
      have HC := Lib.hid (fun W (hW : W = w) => containsf_any pa n pc p rr w hp hup hn (by
        rw [hrr]
        cases r with
        | false =>
          refine ⟨fun _ => ?_, fun _ => rfl⟩
          refine Classical.byContradiction fun hno => ?_
          have : TArg n p o N := ⟨a1, a2, a3, a4, A5.out, hk.trans HK.out.symm, fun i hi => Classical.byContradiction fun e => hno ⟨i, hi, e⟩⟩
          exact absurd (hr.2 this) (by simp)
        | true =>
          refine ⟨fun e => (by cases e), fun ⟨i, hi, e⟩ => absurd ((hr.1 rfl).pg i hi) e⟩))
      have hr2 : r = !rr := by rw [hrr, Bool.not_not]
      subst hr2
      clear hr hrr hp hup hk
      go_enter Try.func37, Try.ntmps37
      go_wp2_with (first
        | (go_at_call 67; refine (count_any o N K _ (by omega) (by omega) HK.out).mono ?_; rintro e w' ⟨rfl, rfl⟩)
        | (go_at_call 68; refine (HC.out w rfl).mono ?_; rintro e w' ⟨rfl, rfl⟩))
      go_ret
      exact ⟨rfl, rfl⟩
    · have qk : ((n : Int) == K) = false := beq_eq_false_iff_ne.2 hk
      have hf : r = false := by
        cases r with
        | false => rfl
        | true => exact absurd ((hr.1 rfl).k.trans HK.out) hk
      subst hf
      clear hr hp hup hk
      go_enter Try.func37, Try.ntmps37
      go_wp2_with (go_at_call 67; refine (count_any o N K _ (by omega) (by omega) HK.out).mono ?_; rintro e w' ⟨rfl, rfl⟩)
      go_ret
      exact ⟨rfl, rfl⟩
end Go.Proofs.Ytfmabknhfehdcaa

namespace Go.Proofs.Ytfmabknhfehdcaa
open Go.RowKit

/-- the offset, what is left ahead of a page -/
def bO (o : Int) (k : Nat) : Int := if k = 0 then o else 0
def bN (o N : Int) : Nat → Int
  | 0 => N
  | k + 1 => bN o N k - min (bN o N k) (4096 - bO o k)
/-- the block of a page -/
def bD (p : Nat → Int) (o N : Int) (k : Nat) : Dsc := ⟨1, p k + bO o k, min (bN o N k) (4096 - bO o k), 0⟩
def dC : List Dsc → List Value
  | [] => []
  | d :: r => d.cells.toList ++ dC r
theorem dC_append (a b : List Dsc) : dC (a ++ b) = dC a ++ dC b := by
  induction a with
  | nil => rfl
  | cons d r ih => simp [dC, ih]
def bL (p : Nat → Int) (o N : Int) (k : Nat) : List Dsc := (List.range k).map (bD p o N)
theorem bL_succ (p : Nat → Int) (o N : Int) (k : Nat) : bL p o N (k + 1) = bL p o N k ++ [bD p o N k] := by simp [bL, List.range_succ]
theorem bL_length (p : Nat → Int) (o N : Int) (k : Nat) : (bL p o N k).length = k := by simp [bL]
theorem bN_bd {o N : Int} (h0 : 0 ≤ N) (ho0 : 0 ≤ o) (ho1 : o < 4096) : ∀ k, 0 ≤ bN o N k ∧ bN o N k ≤ N
  | 0 => ⟨h0, Int.le_refl _⟩
  | k + 1 => by
    have h := bN_bd h0 ho0 ho1 k
    show 0 ≤ bN o N k - min (bN o N k) (4096 - bO o k) ∧ bN o N k - min (bN o N k) (4096 - bO o k) ≤ N
    have hb : 0 ≤ bO o k ∧ bO o k < 4096 := by unfold bO; split <;> omega
    omega
theorem buildDb (a n : Int) (w : World) : (Instr.build 66 #[(0, .int .i64 1), (1, .int .u64 a), (2, .int .i64 n)]).run Try.prog w = .ok (.agg (⟨1, a, n, 0⟩ : Dsc).cells) w := by kernel_rfl
theorem buildDb0 (w : World) : (Instr.build 66 #[(0, .int .i64 1)]).run Try.prog w = .ok (.agg (⟨1, 0, 0, 0⟩ : Dsc).cells) w := by kernel_rfl
/-- the list that blocks returns -/
def blkF (p : Nat → Int) (o N : Int) (n : Nat) : List Dsc := if n = 0 then [⟨1, 0, 0, 0⟩] else bL p o N n
theorem dsc_one1 (d : Dsc) : ∀ u ∈ d.cells.toList, u.oneCell' = true := by simp [Dsc.cells, Value.oneCell']
theorem infoDs : (Try.prog.info? 66).map (fun i => (i.zero, i.size, i.bytes)) = some (some (.agg zDsc.cells), 4, 32) := by kernel_rfl
theorem pgs_le (o N : Int) : pgs o N ≤ 258 := by unfold pgs; split <;> omega
set_option maxRecDepth 100000 in
set_option maxHeartbeats 4000000 in
theorem blocks_any (pa : Option Addr) (n pc : Nat) (p : Nat → Int) (o N : Int) (w : World) (hp : UAt w pa n p) (hup : U64 n p) (hA : TArg n p o N) :
    Calls Try.prog 40 #[.slice pa n pc, .int .i64 o, .int .i64 N] w fun e w' => ∃ v, e = .returned v ∧ w'.ownsRow w.heap.size 66 4 v (blkF p o N n).length (dC (blkF p o N n)) ∧ Below w.heap.size w w' := by
  have HP := Lib.hid hp
  have HUP := Lib.hid hup
  have HA := Lib.hid hA
  clear hp hup hA
  go_enter Try.func40, Try.ntmps40
  go_upto_region 3 with fail
  have hown0 : (w.alloc (.cells #[] 66)).ownsRow w.heap.size 66 4 (.slice (some ⟨w.heap.size, 0, none⟩) 0 0) 0 [] :=
    ⟨rfl, .inr ⟨w.heap.size, 0, #[], rfl, Nat.le_refl _, heap_alloc_new _ _, Nat.le_refl _, by simp [maxLen], rfl, rfl⟩⟩
  have B0 := Lib.hid (show Below w.heap.size w (w.alloc (.cells #[] 66)) from (Below.refl _ _).alloc (Nat.le_refl _) _)
  have O0 := Lib.hid hown0
  obtain ⟨v0, hv0⟩ : ∃ z : Value, z = .slice (some ⟨w.heap.size, 0, none⟩) 0 0 := ⟨_, rfl⟩
  rw [← hv0] at O0 ⊢
  obtain ⟨W0, hW0⟩ : ∃ z, z = w.alloc (.cells #[] 66) := ⟨_, rfl⟩
  rw [← hW0] at O0 B0 ⊢
  obtain ⟨i0, hi0, hz0, hz1, hz2⟩ := info_parts infoDs
  clear hown0 hv0 hW0
  have hk0 := pgs_le o N
  have HKN := Lib.hid (show n ≤ 4096 by have := HA.out.k; have := HA.out.n1; omega)
  clear hk0
  go_loopw [1, 2, 7, 14] (fun v1 v2 v7 v14 wr => ∃ k : Nat, k ≤ n ∧ v1 = .int .i64 (bO o k) ∧ v2 = .int .i64 (bN o N k) ∧ v14 = .int .i64 (k : Nat) ∧ wr.ownsRow w.heap.size 66 4 v7 k (dC (bL p o N k)) ∧ Below w.heap.size w wr) (fun _ _ _ v14 _ => n - (intOf v14).toNat)
  case atStart => exact ⟨0, Nat.zero_le _, rfl, rfl, rfl, O0.out, B0.out⟩
  case round =>
    obtain ⟨k, hk, rfl, rfl, rfl, hown, hbk⟩ := hrel
    have HO := Lib.hid hown
    have HB := Lib.hid hbk
    clear hown hbk
    by_cases hkn : k < n
    · have q7 : decide ((k : Int) < (n : Int)) = true := decide_eq_true (by omega)
      obtain ⟨g, oo, hpa, hc⟩ := HP.out (by omega)
      subst hpa
      have c0 := (HB.out.cell (p := ⟨g, oo + k, none⟩) (World.block_lt_of_cell? _ _ (hc k hkn))).trans (hc k hkn)
      obtain ⟨u0, u1⟩ := HUP.out k hkn
      have hm4 := HA.out.pg k hkn
      have hbd := bN_bd HA.out.n0 HA.out.o0 HA.out.o1 k
      have hn1 := HA.out.n1
      have hob : 0 ≤ bO o k ∧ bO o k < 4096 := by have := HA.out.o0; have := HA.out.o1; unfold bO; split <;> omega
      obtain ⟨v, hv⟩ : ∃ z, z = p k := ⟨_, rfl⟩
      obtain ⟨x, hx⟩ : ∃ z, z = bO o k := ⟨_, rfl⟩
      obtain ⟨y, hy⟩ : ∃ z, z = bN o N k := ⟨_, rfl⟩
      have HD := Lib.hid (show bD p o N k = ⟨1, v + x, min y (4096 - x), 0⟩ by rw [hv, hx, hy]; rfl)
      have HN2 := Lib.hid (show bN o N (k + 1) = y - min y (4096 - x) by rw [hx, hy]; rfl)
      rw [← hv] at c0 u0 u1 hm4
      rw [← hx] at hob ⊢
      rw [← hy] at hbd ⊢
      obtain ⟨hob0, hob1⟩ := hob
      obtain ⟨hy0, hy1⟩ := hbd
      obtain ⟨m, hm⟩ : ∃ m, m = min y (4096 - x) := ⟨_, rfl⟩
      have HM := Lib.hid hm
      have hm0 : 0 ≤ m := by omega
      have hm1 : m ≤ y := by omega
      have hvx : v + x ≤ 18446744073709551615 := by omega
      have hbd1 := buildDb
      have hbs := run_bs1
      have HXY := Lib.hid (show (4096 - x < y ∧ m = 4096 - x) ∨ (¬ 4096 - x < y ∧ m = y) by omega)
      clear hc hv hx hy hm hm4
      rcases HXY.out with ⟨hlt, hme⟩ | ⟨hlt, hme⟩
      · go_upto_region 6 with fail
        rw [← hme]
        clear hme
        obtain ⟨D, hD⟩ : ∃ D : Array Value, D = (⟨1, v + x, m, 0⟩ : Dsc).cells := ⟨_, rfl⟩
        have HDC := Lib.hid hD
        have HDS := Lib.hid (show D.size = 4 by rw [hD]; rfl)
        have HDO := Lib.hid (show ∀ u ∈ D.toList, u.oneCell' = true by rw [hD]; exact dsc_one1 _)
        have HBD := Lib.hid (fun w => by have h := buildDb (v + x) m w; rw [← hD] at h; exact h)
        have HBS := Lib.hid (fun w => by have h := run_bs1 ⟨1, v + x, m, 0⟩ w; rw [← hD] at h; exact h)
        clear hD hbd1 hbs
        go_upto_region 7 with (first
          | ((with_reducible show wpList _ _ _ (⟨some 28, _, _, _, _, _⟩ :: _) _ _); refine wpList_buildC rfl 66 _ rfl #[(0, .int .i64 1), (1, .int .u64 (v + x)), (2, .int .i64 m)] (by simp [Act.eval, Act.put]) (HBD.out _) ?_)
          | ((with_reducible show wpList _ _ _ (⟨some 29, _, _, _, _, _⟩ :: _) _ _); refine wpList_bs rfl 100 1 #[(0, .tmp 28)] rfl #[(0, .agg D)] (by simp [Act.eval, Act.put]) (HBS.out _) ?_)
          | ((with_reducible show wpList _ _ _ (⟨some 30, _, _, _, _, _⟩ :: _) _ _); go_loud (refine wpList_append_own _ rfl _ _ 100 rfl w.heap.size 66 i0 (.agg zDsc.cells) 4 32 Try.underlying100 hi0 hz0 hz1 hz2 rfl (by decide) u7 k (dC (bL p o N k)) rfl (HO.out.alloc (.cells D 66)) ⟨wr.heap.size, 0, none⟩ 1 1 D.toList rfl (by simp [HDS.out]) (World.news_of_block (cs := D) (t := 66) (fr := (0, 0)) (heap_alloc_new wr _)) HDO.out (by have := HKN.out; unfold maxLen; omega) (by have := HKN.out; omega) (by have := HB.out.size; simp; omega) ?_; intro v7 w7 hown7 hgr7 hnil7; have O7 := Lib.hid hown7; have G7 := Lib.hid hgr7; clear hown7 hgr7 hnil7)))
        have hB7 := Lib.hid ((HB.out.alloc HB.out.size (.cells D 66)).grown G7.out (by have := HB.out.size; simp; omega) (fun q e => (HO.out.lt q e).1))
        have hy2 : 0 ≤ y - m := by omega
        have hy3 : y - m ≤ 1048576 := by omega
        have hkn4 := HKN.out
        go_wp2
        go_roundw
        case rel =>
          refine ⟨k + 1, by omega, by unfold bO; rw [if_neg (by omega)], congrArg _ (by have h1 := HM.out; have h2 := HN2.out; omega), by rw [Int.natCast_add]; rfl, ?_, hB7.out⟩
          have h := O7.out
          rw [bL_succ, dC_append, HD.out, ← HM.out]
          simpa [dC, HDC.out] using h
        case measure => simp [intOf]; omega
      · subst hme
        go_upto_region 6 with fail
        obtain ⟨D, hD⟩ : ∃ D : Array Value, D = (⟨1, v + x, m, 0⟩ : Dsc).cells := ⟨_, rfl⟩
        have HDC := Lib.hid hD
        have HDS := Lib.hid (show D.size = 4 by rw [hD]; rfl)
        have HDO := Lib.hid (show ∀ u ∈ D.toList, u.oneCell' = true by rw [hD]; exact dsc_one1 _)
        have HBD := Lib.hid (fun w => by have h := buildDb (v + x) m w; rw [← hD] at h; exact h)
        have HBS := Lib.hid (fun w => by have h := run_bs1 ⟨1, v + x, m, 0⟩ w; rw [← hD] at h; exact h)
        clear hD hbd1 hbs
        go_upto_region 7 with (first
          | ((with_reducible show wpList _ _ _ (⟨some 28, _, _, _, _, _⟩ :: _) _ _); refine wpList_buildC rfl 66 _ rfl #[(0, .int .i64 1), (1, .int .u64 (v + x)), (2, .int .i64 m)] (by simp [Act.eval, Act.put]) (HBD.out _) ?_)
          | ((with_reducible show wpList _ _ _ (⟨some 29, _, _, _, _, _⟩ :: _) _ _); refine wpList_bs rfl 100 1 #[(0, .tmp 28)] rfl #[(0, .agg D)] (by simp [Act.eval, Act.put]) (HBS.out _) ?_)
          | ((with_reducible show wpList _ _ _ (⟨some 30, _, _, _, _, _⟩ :: _) _ _); go_loud (refine wpList_append_own _ rfl _ _ 100 rfl w.heap.size 66 i0 (.agg zDsc.cells) 4 32 Try.underlying100 hi0 hz0 hz1 hz2 rfl (by decide) u7 k (dC (bL p o N k)) rfl (HO.out.alloc (.cells D 66)) ⟨wr.heap.size, 0, none⟩ 1 1 D.toList rfl (by simp [HDS.out]) (World.news_of_block (cs := D) (t := 66) (fr := (0, 0)) (heap_alloc_new wr _)) HDO.out (by have := HKN.out; unfold maxLen; omega) (by have := HKN.out; omega) (by have := HB.out.size; simp; omega) ?_; intro v7 w7 hown7 hgr7 hnil7; have O7 := Lib.hid hown7; have G7 := Lib.hid hgr7; clear hown7 hgr7 hnil7)))
        have hB7 := Lib.hid ((HB.out.alloc HB.out.size (.cells D 66)).grown G7.out (by have := HB.out.size; simp; omega) (fun q e => (HO.out.lt q e).1))
        have hkn4 := HKN.out
        go_wp2
        go_roundw
        case rel =>
          refine ⟨k + 1, by omega, by unfold bO; rw [if_neg (by omega)], congrArg _ (by have h1 := HM.out; have h2 := HN2.out; omega), by rw [Int.natCast_add]; rfl, ?_, hB7.out⟩
          have h := O7.out
          rw [bL_succ, dC_append, HD.out, ← HM.out]
          simpa [dC, HDC.out] using h
        case measure => simp [intOf]; omega
    · have q7 : decide ((k : Int) < (n : Int)) = false := decide_eq_false (by omega)
      obtain rfl : k = n := by omega
      obtain ⟨av, cv, rfl, hl1, hl2⟩ := ownsRow_shape HO.out
      by_cases hn0 : k = 0
      · subst hn0
        obtain ⟨D, hD⟩ : ∃ D : Array Value, D = (⟨1, 0, 0, 0⟩ : Dsc).cells := ⟨_, rfl⟩
        have HDC := Lib.hid hD
        have HDS := Lib.hid (show D.size = 4 by rw [hD]; rfl)
        have HDO := Lib.hid (show ∀ u ∈ D.toList, u.oneCell' = true by rw [hD]; exact dsc_one1 _)
        have HBD := Lib.hid (fun w => by have h := buildDb0 w; rw [← hD] at h; exact h)
        have HBS := Lib.hid (fun w => by have h := run_bs1 ⟨1, 0, 0, 0⟩ w; rw [← hD] at h; exact h)
        clear hD
        go_wp2_with (first
          | ((with_reducible show wpList _ _ _ (⟨some 39, _, _, _, _, _⟩ :: _) _ _); refine wpList_buildC rfl 66 _ rfl #[(0, .int .i64 1)] (by simp [Act.eval, Act.put]) (HBD.out _) ?_)
          | ((with_reducible show wpList _ _ _ (⟨some 40, _, _, _, _, _⟩ :: _) _ _); refine wpList_bs rfl 100 1 #[(0, .tmp 39)] rfl #[(0, .agg D)] (by simp [Act.eval, Act.put]) (HBS.out _) ?_)
          | ((with_reducible show wpList _ _ _ (⟨some 41, _, _, _, _, _⟩ :: _) _ _); refine wpList_append_own _ rfl _ _ 100 rfl w.heap.size 66 i0 (.agg zDsc.cells) 4 32 Try.underlying100 hi0 hz0 hz1 hz2 rfl (by decide) (.slice av 0 cv) 0 (dC (bL p o N 0)) rfl (HO.out.alloc (.cells D 66)) ⟨wr.heap.size, 0, none⟩ 1 1 D.toList rfl (by simp [HDS.out]) (World.news_of_block (cs := D) (t := 66) (fr := (0, 0)) (heap_alloc_new wr _)) HDO.out (by unfold maxLen; omega) (by omega) (by have := HB.out.size; simp; omega) ?_; intro v7 w7 hown7 hgr7 hnil7; have O7 := Lib.hid hown7; have G7 := Lib.hid hgr7; clear hown7 hgr7 hnil7))
        go_ret
        refine ⟨_, rfl, ?_, (HB.out.alloc HB.out.size (.cells D 66)).grown G7.out (by have := HB.out.size; simp; omega) (fun q e => (HO.out.lt q e).1)⟩
        have h := O7.out
        simpa [blkF, bL, dC, HDC.out] using h
      · have q8 : ((k : Int) == 0) = false := beq_eq_false_iff_ne.2 (by omega)
        have q9 : (k == 0) = false := beq_eq_false_iff_ne.2 (by omega)
        go_wp2
        go_ret
        refine ⟨_, rfl, ?_, HB.out⟩
        unfold blkF
        rw [if_neg hn0, bL_length]
        exact HO.out
end Go.Proofs.Ytfmabknhfehdcaa
