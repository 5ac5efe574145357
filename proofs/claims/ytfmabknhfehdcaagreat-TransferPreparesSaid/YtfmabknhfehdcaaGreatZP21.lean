/- prp: the specification's Count and entry; Same; the law's num and spans. -/
import Derived.Test.YtfmabknhfehdcaaGreatZP20
import Derived.Test.YtfmabknhfehdcaaGreatZP3
import Derived.Laws.OwnMore
import Derived.Laws.CopyOwn
namespace Go.Proofs.YtfmabknhfehdcaaGreat
set_option linter.unusedSimpArgs false
set_option linter.unusedVariables false
open Go.RowKit
theorem sizeRMz : (Tryz.prog.info? 34).map (·.size) = some zRM.size := sizeRM
set_option maxHeartbeats 1000000 in
theorem rcount_any (a n K : Int) (w : World) (h0 : 0 ≤ a) (h1 : a ≤ 18446744073709551615) (hk : pgs a n = K) :
  Calls Tryz.prog 27 #[.int .u64 a, .int .i64 n] w fun e w' => e = .returned (.int .i64 K) ∧ w = w' := by
 unfold pgs at hk
 by_cases hn : n < 1
 ·rw [if_pos (.inl hn)] at hk
  subst hk
  have q : decide (n < 1) = true := decide_eq_true hn
  go_enter Tryz.func27, Tryz.ntmps27
  go_wp2_with fail
  go_ret
  exact ⟨rfl, rfl⟩
 ·have q : decide (n < 1) = false := decide_eq_false hn
  by_cases hn2 : 1048576 < n
  ·rw [if_pos (.inr hn2)] at hk
   subst hk
   have q2 : decide (1048576 < n) = true := decide_eq_true hn2
   go_enter Tryz.func27, Tryz.ntmps27
   go_wp2_with fail
   go_ret
   exact ⟨rfl, rfl⟩
  ·rw [if_neg (by omega)] at hk
   have q2 : decide (1048576 < n) = false := decide_eq_false hn2
   have HK := Lib.hid hk
   clear hk
   have b0 : 0 ≤ a % 4096 := by omega
   have b1 : a % 4096 < 4096 := by omega
   go_enter Tryz.func27, Tryz.ntmps27
   go_wp2_with fail
   go_ret
   exact ⟨by rw [← HK.out]; rfl, rfl⟩
section
variable (MC : Array Value) (size : Nat) (f : Nat → Int) (L : List (Nat × Nat)) (S : Nat → Prop) (a : Int) (w : World) (hM : RefAt S w (.agg MC) size f L) (hsz : size ≤ 4194304) (h2 : MC.size = 2) (ha0 : 0 ≤ a) (ha1 : a ≤ 18446744073709551615)
include hM hsz h2 ha0 ha1
end
set_option maxRecDepth 100000 in
set_option maxHeartbeats 2000000 in
theorem same_ok (ao bo : Option Addr) (l : List Spn) (c c2 : Nat) (w : World) (ha : SpAt w ao l) (hb : SpAt w bo l) (hl : l.length ≤ 9223372036854775807) :
  Calls Tryz.prog 18 #[.slice ao l.length c, .slice bo l.length c2] w fun e w' => e = .returned (.bool true) ∧ Below w.heap.size w w' := by
 obtain ⟨n, hn⟩ : ∃ n, n = l.length := ⟨_, rfl⟩
 have q1 : ((n : Int) != (n : Int)) = false := by simp
 have HAA := Lib.hid ha
 have HBB := Lib.hid hb
 rw [← hn] at hl ⊢
 have HN := Lib.hid hn
 clear ha hb hn
 go_enter Tryz.func18, Tryz.ntmps18
 go_wp2_with fail
 go_loopw [5] (fun i wr => ∃ k : Nat, k ≤ n ∧ i = .int .i64 (k : Nat) ∧ Below w.heap.size w wr) (fun i _ => n - (intOf i).toNat)
 case atStart => exact ⟨0, by omega, rfl, Below.refl _ _⟩
 case round =>
  obtain ⟨k, hk, rfl, hW⟩ := hrel
  have HW := Lib.hid hW
  clear hW
  by_cases hkn : k < n
  ·have q3 : decide ((k : Int) < (n : Int)) = true := decide_eq_true (by omega)
   obtain ⟨ag, oa, rfl, hra⟩ := HAA.out k (by rw [← HN.out]; exact hkn)
   obtain ⟨bg, ob, rfl, hrb⟩ := HBB.out k (by rw [← HN.out]; exact hkn)
   have hla0 := HAA.out.lt (by rw [← HN.out]; omega)
   have hlb0 := HBB.out.lt (by rw [← HN.out]; omega)
   have hla : ag < wr.heap.size := Nat.lt_of_lt_of_le hla0 HW.out.size
   have hlb : bg < wr.heap.size := Nat.lt_of_lt_of_le hlb0 HW.out.size
   obtain ⟨X, hX⟩ : ∃ X : Array Value, X.toList = (l[k]'(by rw [← HN.out]; exact hkn)).l := ⟨⟨_⟩, rfl⟩
   have HSZ := Lib.hid (show (Tryz.prog.info? 65).map (·.size) = some X.size by rw [← Array.length_toList, hX]; exact sizeSp)
   have HNQ := Lib.hid (show ∀ w, (binOp .neq 65 (.agg X) (.agg X)).run Tryz.prog w = .ok (.bool false) w from fun w => by
    have e : X = ⟨(l[k]'(by rw [← HN.out]; exact hkn)).l⟩ := by rw [← hX]
    rw [e]; exact neqSp _ _ _ w)
   have HEQ := Lib.hid (show ∀ w, (Op.equalIn 10000 65 (.agg X) (.agg X)).run Tryz.prog w = .ok true w from fun w => by
    have e : X = ⟨(l[k]'(by rw [← HN.out]; exact hkn)).l⟩ := by rw [← hX]
    rw [e]; exact eqSp _ _ _ w)
   rw [← hX] at hra hrb
   have HRA := Lib.hid (rangeAt_below hra HW.out hla0)
   have HRB := Lib.hid (rangeAt_below hrb HW.out hlb0)
   clear hX hra hrb hla0 hlb0
   go_upto_region 6 with fail
   refine wp_region_held_drew (S := fun w' => Below wr.heap.size wr w') (by kernel_rfl) ((Below.refl _ wr).drew) (fun hS0 => ?_)
   refine takeD 17 (i := 0) (v := .slice (some ⟨ag, oa, none⟩) n c) rfl rfl (by kernel_rfl) (by kernel_rfl) (by kernel_rfl) (fun _ _ _ h => h) (Or.inl ⟨by rfl, by (intro w' _; go_simp)⟩) (by assumption) ?_
   try simp only [Act.put, List.setIfInBounds_toArray, List.set_cons_zero, List.set_cons_succ]
   refine takeD 18 (i := 1) (v := .int .i64 (k : Nat)) rfl rfl (by kernel_rfl) (by kernel_rfl) (by kernel_rfl) (fun _ _ _ h => h) (Or.inl ⟨by rfl, by (intro w' _; go_simp)⟩) (by assumption) ?_
   try simp only [Act.put, List.setIfInBounds_toArray, List.set_cons_zero, List.set_cons_succ]
   refine takeD 19 (i := 2) (v := .pointer (some ⟨ag, oa + k * 3, none⟩)) rfl rfl (by kernel_rfl) (by kernel_rfl) (by kernel_rfl) (fun _ _ _ h => h) (Or.inl ⟨by rfl, by (intro w' _; go_simp)⟩) (by assumption) ?_
   try simp only [Act.put, List.setIfInBounds_toArray, List.set_cons_zero, List.set_cons_succ]
   refine takeD 20 (i := 3) (v := .agg X) rfl rfl (by kernel_rfl) (by kernel_rfl) (by kernel_rfl) (fun _ _ _ h => h) (yieldsR (by rfl) 65 (.tmp 19) rfl (ag) (oa + k * 3) (by first | rfl | simp [Act.eval, Act.put]) X (fun w h => (rangeAt_below HRA.out h hla)) Tryz.underlying65 rfl HSZ.out) (by assumption) ?_
   try simp only [Act.put, List.setIfInBounds_toArray, List.set_cons_zero, List.set_cons_succ]
   refine takeD 21 (i := 4) (v := .slice (some ⟨bg, ob, none⟩) n c2) rfl rfl (by kernel_rfl) (by kernel_rfl) (by kernel_rfl) (fun _ _ _ h => h) (Or.inl ⟨by rfl, by (intro w' _; go_simp)⟩) (by assumption) ?_
   try simp only [Act.put, List.setIfInBounds_toArray, List.set_cons_zero, List.set_cons_succ]
   refine takeD 22 (i := 5) (v := .int .i64 (k : Nat)) rfl rfl (by kernel_rfl) (by kernel_rfl) (by kernel_rfl) (fun _ _ _ h => h) (Or.inl ⟨by rfl, by (intro w' _; go_simp)⟩) (by assumption) ?_
   try simp only [Act.put, List.setIfInBounds_toArray, List.set_cons_zero, List.set_cons_succ]
   refine takeD 23 (i := 6) (v := .pointer (some ⟨bg, ob + k * 3, none⟩)) rfl rfl (by kernel_rfl) (by kernel_rfl) (by kernel_rfl) (fun _ _ _ h => h) (Or.inl ⟨by rfl, by (intro w' _; go_simp)⟩) (by assumption) ?_
   try simp only [Act.put, List.setIfInBounds_toArray, List.set_cons_zero, List.set_cons_succ]
   refine takeD 24 (i := 7) (v := .agg X) rfl rfl (by kernel_rfl) (by kernel_rfl) (by kernel_rfl) (fun _ _ _ h => h) (yieldsR (by rfl) 65 (.tmp 23) rfl (bg) (ob + k * 3) (by first | rfl | simp [Act.eval, Act.put]) X (fun w h => (rangeAt_below HRB.out h hlb)) Tryz.underlying65 rfl HSZ.out) (by assumption) ?_
   try simp only [Act.put, List.setIfInBounds_toArray, List.set_cons_zero, List.set_cons_succ]
   refine takeD 25 (i := 8) (v := .bool false) rfl rfl (by kernel_rfl) (by kernel_rfl) (by kernel_rfl) (fun _ _ _ h => h) (Or.inl ⟨by rfl, by (intro w' _; exact exec_neq 65 (.tmp 20) (.tmp 24) _ rfl _ _ rfl rfl (guardSp _ _ _ _ _) (HNQ.out w'))⟩) (by assumption) ?_
   try simp only [Act.put, List.setIfInBounds_toArray, List.set_cons_zero, List.set_cons_succ]
   refine wpAnyH_done (by kernel_rfl) ?_ _
   go_wp2_with fail
   go_roundw
   case rel =>
    first
     | exact ⟨k + 1, by omega, by go_num, HW.out.drew⟩
     | ((repeat apply Exists.intro); exact ⟨⟨k + 1, by omega, by go_num, HW.out.drew⟩, rfl⟩)
   case measure => simp [intOf]; omega
  ·obtain rfl : k = n := by omega
   have q3 : decide ((k : Int) < (k : Int)) = false := decide_eq_false (by omega)
   go_wp2_with fail
   go_ret
   exact ⟨rfl, HW.out⟩
end Go.Proofs.YtfmabknhfehdcaaGreat
namespace Go.Proofs.YtfmabknhfehdcaaGreat
set_option linter.unusedSimpArgs false
set_option linter.unusedVariables false
open Go.RowKit
section
variable (MC : Array Value) (size : Nat) (f : Nat → Int) (L : List (Nat × Nat)) (S : Nat → Prop) (x y n : Int) (w : World) (hM : RefAt S w (.agg MC) size f L) (hsz : size ≤ 4194304) (h2 : MC.size = 2) (hx0 : 0 ≤ x) (hx1 : x ≤ 18446744073709551615) (hy0 : 0 ≤ y) (hy1 : y ≤ 18446744073709551615) (hby : Bytes f) (hn0 : -9223372036854775808 ≤ n) (hn1 : n ≤ 9223372036854775807)
include hM hsz h2 hx0 hx1 hy0 hy1 hby hn0 hn1
end
end Go.Proofs.YtfmabknhfehdcaaGreat
namespace Go.Proofs.YtfmabknhfehdcaaGreat
set_option linter.unusedSimpArgs false
set_option linter.unusedVariables false
open Go.RowKit
/-- n addresses lie at ao -/
def UAt (w : World) (ao : Option Addr) (n : Nat) (l : Nat → Int) : Prop := 0 < n → ∃ g o, ao = some ⟨g, o, none⟩ ∧ ∀ i, i < n → w.cell? ⟨g, o + i, none⟩ = some (.int .u64 (l i))
def U64 (n : Nat) (l : Nat → Int) : Prop := ∀ i, i < n → 0 ≤ l i ∧ l i ≤ 18446744073709551615
theorem UAt.below {w w' : World} {ao : Option Addr} {n : Nat} {l : Nat → Int} (h : UAt w ao n l) (hb : Below w.heap.size w w') : UAt w' ao n l := fun h0 => by
 obtain ⟨g, o, e, hc⟩ := h h0
 exact ⟨g, o, e, fun i hi => (hb.cell (p := ⟨g, o + i, none⟩) (World.block_lt_of_cell? _ _ (hc i hi))).trans (hc i hi)⟩
/-- What the arguments of Build must be. -/
structure VArg (np nl : Nat) (p l : Nat → Int) (o N : Int) : Prop where
 n0 : 0 ≤ N
 n1 : N ≤ 1048576
 o0 : 0 ≤ o
 o1 : o < 4096
 o4 : o % 4 = 0
 k : (np : Int) = pgs o N
 pg : ∀ i, i < np → p i % 4096 = 0
 ls : ∀ i, i < nl → l i % 8 = 0 ∧ (i = 0 ∨ l i % 4096 = 0)
def VPost (np nl : Nat) (p l : Nat → Int) (o N : Int) (w : World) (e : Ending) (w' : World) : Prop :=
 ((VArg np nl p l o N ∧ e = .returned (.tuple #[])) ∨ (¬ VArg np nl p l o N ∧ e = .panicked [pan 2])) ∧ Below w.heap.size w w'
set_option maxRecDepth 100000 in
set_option maxHeartbeats 8000000 in
theorem valid_any (la pa : Option Addr) (nl np lc pc : Nat) (l p : Nat → Int) (o N : Int) (w : World) (hl : UAt w la nl l) (hp : UAt w pa np p) (hul : U64 nl l) (hup : U64 np p) (hnl : nl ≤ 1000000) (hnp : np ≤ 1000000)
  (ho0 : -9223372036854775808 ≤ o) (ho1 : o ≤ 9223372036854775807) (hN0 : -9223372036854775808 ≤ N) (hN1 : N ≤ 9223372036854775807) :
  Calls Tryz.prog 47 #[.slice la nl lc, .slice pa np pc, .int .i64 o, .int .i64 N] w (VPost np nl p l o N w) := by
 have HL := Lib.hid hl
 have HP := Lib.hid hp
 have HUL := Lib.hid hul
 have HUP := Lib.hid hup
 clear hl hp hul hup
 by_cases h5 : 0 ≤ N ∧ N ≤ 1048576 ∧ 0 ≤ o ∧ o < 4096 ∧ o % 4 = 0
 case neg =>
  have hno : ¬ VArg np nl p l o N := fun h => h5 ⟨h.n0, h.n1, h.o0, h.o1, h.o4⟩
  obtain ⟨a1, e1⟩ : ∃ z, decide (0 ≤ N) = z := ⟨_, rfl⟩
  obtain ⟨a2, e2⟩ : ∃ z, decide (N ≤ 1048576) = z := ⟨_, rfl⟩
  obtain ⟨a3, e3⟩ : ∃ z, decide (0 ≤ o) = z := ⟨_, rfl⟩
  obtain ⟨a4, e4⟩ : ∃ z, decide (o < 4096) = z := ⟨_, rfl⟩
  obtain ⟨a5, e5⟩ : ∃ z, (o.tmod 4 == 0) = z := ⟨_, rfl⟩
  have hbad : a1 = false ∨ a2 = false ∨ a3 = false ∨ a4 = false ∨ a5 = false := by
   by_cases b1 : 0 ≤ N
   ·by_cases b2 : N ≤ 1048576
    ·by_cases b3 : 0 ≤ o
     ·by_cases b4 : o < 4096
      ·refine .inr (.inr (.inr (.inr ?_)))
       rw [← e5, Int.tmod_eq_emod_of_nonneg b3]
       exact beq_eq_false_iff_ne.2 (fun h => h5 ⟨b1, b2, b3, b4, h⟩)
      ·exact .inr (.inr (.inr (.inl (by rw [← e4]; exact decide_eq_false b4))))
     ·exact .inr (.inr (.inl (by rw [← e3]; exact decide_eq_false b3)))
    ·exact .inr (.inl (by rw [← e2]; exact decide_eq_false b2))
   ·exact .inl (by rw [← e1]; exact decide_eq_false b1)
  have HBD := Lib.hid hbad
  have HNO := Lib.hid hno
  clear h5 hbad hno
  go_enter Tryz.func47, Tryz.ntmps47
  go_wp2_with fail
  refine (must5_bad _ _ _ _ _ _ HBD.out _).mono ?_
  rintro e w' ⟨rfl, rfl⟩
  exact ⟨rfl, .inr ⟨HNO.out, rfl⟩, (Below.refl _ _).alloc (Nat.le_refl _) _⟩
 case pos =>
  obtain ⟨x1, x2, x3, x4, x5⟩ := h5
  have e1 : decide (0 ≤ N) = true := decide_eq_true x1
  have e2 : decide (N ≤ 1048576) = true := decide_eq_true x2
  have e3 : decide (0 ≤ o) = true := decide_eq_true x3
  have e4 : decide (o < 4096) = true := decide_eq_true x4
  have e5 : (o % 4 == 0) = true := beq_iff_eq.2 x5
  have H5 := Lib.hid x5
  clear x5
  obtain ⟨K, hK⟩ : ∃ z, pgs o N = z := ⟨_, rfl⟩
  have HK := Lib.hid hK
  clear hK
  by_cases hk : (np : Int) = K
  case neg =>
   have hno : ¬ VArg np nl p l o N := fun h => hk (by rw [h.k, HK.out])
   have qk : ((np : Int) == K) = false := beq_eq_false_iff_ne.2 hk
   have HNO := Lib.hid hno
   clear hk hno
   go_enter Tryz.func47, Tryz.ntmps47
   go_wp2_with (first
    | (go_at_call 46; (with_reducible refine (must5_ok' _ _ _ (by simp)).mono ?_); rintro e w' ⟨rfl, rfl⟩)
    | (go_at_call 53; refine (count_any o N K _ (by omega) (by omega) HK.out).mono ?_; rintro e w' ⟨rfl, rfl⟩))
   refine (must1_bad' _ _ _ (by simp)).mono ?_
   rintro e w' ⟨rfl, rfl⟩
   exact ⟨rfl, .inr ⟨HNO.out, rfl⟩, ((Below.refl _ _).alloc (Nat.le_refl _) _).alloc (by simp) _⟩
  case pos =>
   have qk : ((np : Int) == K) = true := beq_iff_eq.2 hk
   have HKK := Lib.hid (show (np : Int) = pgs o N by rw [HK.out]; exact hk)
   clear hk
   go_enter Tryz.func47, Tryz.ntmps47
   go_upto_region 2 with (first
    | (go_at_call 46; (with_reducible refine (must5_ok' _ _ _ (by simp)).mono ?_); rintro e w' ⟨rfl, rfl⟩)
    | (go_at_call 46; (with_reducible refine (must1_ok' _ _ _ (by simp)).mono ?_); rintro e w' ⟨rfl, rfl⟩)
    | (go_at_call 53; refine (count_any o N K _ (by omega) (by omega) HK.out).mono ?_; rintro e w' ⟨rfl, rfl⟩))
   obtain ⟨W1, hW1⟩ : ∃ z, z = (w.alloc (.cells #[.bool true, .bool true, .bool true, .bool true, .bool true] 4)).alloc (.cells #[.bool true] 4) := ⟨_, rfl⟩
   rw [← hW1]
   have B1 := Lib.hid (show Below w.heap.size w W1 by rw [hW1]; exact ((Below.refl _ _).alloc (Nat.le_refl _) _).alloc (by simp) _)
   clear hW1
   go_wp2_with fail
   go_loopw [9, 36] (fun _ i wr => ∃ k : Nat, k ≤ np ∧ i = .int .i64 (k : Nat) ∧ (∀ j, j < k → p j % 4096 = 0) ∧ Below w.heap.size w wr) (fun _ i _ => np - (intOf i).toNat)
   case atStart => exact ⟨0, Nat.zero_le _, rfl, fun j h => by omega, B1.out⟩
   case round =>
    obtain ⟨k, hk, rfl, hpk, hbk⟩ := hrel
    have HPK := Lib.hid hpk
    have HBK := Lib.hid hbk
    clear hpk hbk
    by_cases hkn : k < np
    ·have q7 : decide ((k : Int) < (np : Int)) = true := decide_eq_true (by omega)
     obtain ⟨g, oo, hpa, hc⟩ := HP.out (by omega)
     subst hpa
     have hg : g < w.heap.size := World.block_lt_of_cell? _ _ (hc 0 (by omega))
     have c0 := (HBK.out.cell (p := ⟨g, oo + k, none⟩) hg).trans (hc k hkn)
     obtain ⟨u0, u1⟩ := HUP.out k hkn
     have HPK2 := Lib.hid hc
     obtain ⟨v, hv⟩ : ∃ z, z = p k := ⟨_, rfl⟩
     rw [← hv] at c0 u0 u1
     have HV := Lib.hid hv
     clear hc hv
     by_cases h4 : v % 4096 = 0
     ·have qa := Lib.hid (beq_iff_eq.2 h4)
      have H4 := Lib.hid h4
      clear h4
      go_wp2_with (first
       | (go_at_call 83; refine (aligned_any v 4096 true _ u0 u1 (by omega) (by omega) qa.out).mono ?_; rintro e w' ⟨rfl, rfl⟩)
       | (go_at_call 46; (with_reducible refine (must1_ok' _ _ _ (by simp)).mono ?_); rintro e w' ⟨rfl, rfl⟩))
      go_roundw
      case rel =>
       exact ⟨k + 1, by omega, by go_num, fun j hj => by
        rcases Nat.lt_or_ge j k with h | h
        ·exact HPK.out j h
        ·obtain rfl : j = k := by omega
         rw [← HV.out]; exact H4.out, HBK.out.alloc HBK.out.size _⟩
      case measure => simp [intOf]; omega
     ·have qa := Lib.hid (beq_eq_false_iff_ne.2 h4)
      have HNO := Lib.hid (show ¬ VArg np nl p l o N from fun h => h4 (by rw [HV.out]; exact h.pg k hkn))
      clear h4
      go_wp2_with (go_at_call 83; refine (aligned_any v 4096 false _ u0 u1 (by omega) (by omega) qa.out).mono ?_; rintro e w' ⟨rfl, rfl⟩)
      refine (must1_bad' _ _ _ (by simp)).mono ?_
      rintro e w' ⟨rfl, rfl⟩
      exact ⟨rfl, .inr ⟨HNO.out, rfl⟩, HBK.out.alloc HBK.out.size _⟩
    ·have q7 : decide ((k : Int) < (np : Int)) = false := decide_eq_false (by omega)
     have HPA := Lib.hid (show ∀ j, j < np → p j % 4096 = 0 from fun j hj => HPK.out j (by omega))
     clear HPK B1
     go_wp2_with fail
     obtain ⟨w2, rfl⟩ : ∃ z, z = wr := ⟨_, rfl⟩
     go_loopw [10, 11, 47] (fun _ _ i wr => ∃ k : Nat, k ≤ nl ∧ i = .int .i64 (k : Nat) ∧ (∀ j, j < k → l j % 8 = 0 ∧ (j = 0 ∨ l j % 4096 = 0)) ∧ Below w.heap.size w wr) (fun _ _ i _ => nl - (intOf i).toNat)
     case atStart => exact ⟨0, Nat.zero_le _, rfl, fun j h => by omega, HBK.out⟩
     case round =>
      obtain ⟨j, hj, rfl, hlj, hbj⟩ := hrel
      have HLJ := Lib.hid hlj
      have HBJ := Lib.hid hbj
      clear hlj hbj
      by_cases hjn : j < nl
      ·have q8 : decide ((j : Int) < (nl : Int)) = true := decide_eq_true (by omega)
       obtain ⟨g, oo, hla, hc⟩ := HL.out (by omega)
       subst hla
       have hg : g < w.heap.size := World.block_lt_of_cell? _ _ (hc 0 (by omega))
       have c0 := (HBJ.out.cell (p := ⟨g, oo + j, none⟩) hg).trans (hc j hjn)
       obtain ⟨u0, u1⟩ := HUL.out j hjn
       obtain ⟨v, hv⟩ : ∃ z, z = l j := ⟨_, rfl⟩
       rw [← hv] at c0 u0 u1
       have HV := Lib.hid hv
       have HPK2 := Lib.hid hc
       obtain ⟨r8, hr8⟩ : ∃ z, (v % 8 == 0) = z := ⟨_, rfl⟩
       obtain ⟨r4, hr4⟩ : ∃ z, (v % 4096 == 0) = z := ⟨_, rfl⟩
       have HR8 := Lib.hid hr8
       have HR4 := Lib.hid hr4
       clear hc hv hr8 hr4
       have ARM8 := Lib.hid (fun W => aligned_any v 8 r8 W u0 u1 (by omega) (by omega) HR8.out)
       have ARM4 := Lib.hid (fun W => aligned_any v 4096 r4 W u0 u1 (by omega) (by omega) HR4.out)
       by_cases hj0 : j = 0
       ·have q9 : ((j : Int) == 0) = true := beq_iff_eq.2 (by omega)
        have HJ0 := Lib.hid hj0
        clear hj0
        cases r8 with
        | true =>
         go_wp2_with (first
          | (go_at_call 83; refine (ARM8.out _).mono ?_; rintro e w' ⟨rfl, rfl⟩)
          | (go_at_call 46; (with_reducible refine (must2_ok' _ _ _ (by simp)).mono ?_); rintro e w' ⟨rfl, rfl⟩))
         go_roundw
         case rel =>
          exact ⟨j + 1, by omega, by go_num, fun i hi => by
           rcases Nat.lt_or_ge i j with h | h
           ·exact HLJ.out i h
           ·obtain rfl : i = j := by omega
            exact ⟨by rw [← HV.out]; exact beq_iff_eq.1 HR8.out, .inl HJ0.out⟩, HBJ.out.alloc HBJ.out.size _⟩
         case measure => simp [intOf]; omega
        | false =>
         have HNO := Lib.hid (show ¬ VArg np nl p l o N from fun h => beq_eq_false_iff_ne.1 HR8.out (by rw [HV.out]; exact (h.ls j hjn).1))
         go_wp2_with (go_at_call 83; refine (ARM8.out _).mono ?_; rintro e w' ⟨rfl, rfl⟩)
         refine (must2_bad' _ _ _ (.inl rfl) _ _ (by simp)).mono ?_
         rintro e w' ⟨rfl, rfl⟩
         exact ⟨rfl, .inr ⟨HNO.out, rfl⟩, HBJ.out.alloc HBJ.out.size _⟩
       ·have q9 : ((j : Int) == 0) = false := beq_eq_false_iff_ne.2 (by omega)
        have HJ0 := Lib.hid hj0
        clear hj0
        cases r4 with
        | true => cases r8 with
         | true =>
          go_wp2_with (first
           | (go_at_call 83; (with_reducible refine (ARM8.out _).mono ?_); rintro e w' ⟨rfl, rfl⟩)
           | (go_at_call 83; (with_reducible refine (ARM4.out _).mono ?_); rintro e w' ⟨rfl, rfl⟩)
           | (go_at_call 46; (with_reducible refine (must2_ok' _ _ _ (by simp)).mono ?_); rintro e w' ⟨rfl, rfl⟩))
          go_roundw
          case rel =>
           exact ⟨j + 1, by omega, by go_num, fun i hi => by
            rcases Nat.lt_or_ge i j with h | h
            ·exact HLJ.out i h
            ·obtain rfl : i = j := by omega
             exact ⟨by rw [← HV.out]; exact beq_iff_eq.1 HR8.out, .inr (by rw [← HV.out]; exact beq_iff_eq.1 HR4.out)⟩, HBJ.out.alloc HBJ.out.size _⟩
          case measure => simp [intOf]; omega
         | false =>
          have HNO := Lib.hid (show ¬ VArg np nl p l o N from fun h => beq_eq_false_iff_ne.1 HR8.out (by rw [HV.out]; exact (h.ls j hjn).1))
          go_wp2_with (first
           | (go_at_call 83; (with_reducible refine (ARM8.out _).mono ?_); rintro e w' ⟨rfl, rfl⟩)
           | (go_at_call 83; (with_reducible refine (ARM4.out _).mono ?_); rintro e w' ⟨rfl, rfl⟩))
          refine (must2_bad' _ _ _ (.inl rfl) _ _ (by simp)).mono ?_
          rintro e w' ⟨rfl, rfl⟩
          exact ⟨rfl, .inr ⟨HNO.out, rfl⟩, HBJ.out.alloc HBJ.out.size _⟩
        | false =>
         have HNO := Lib.hid (show ¬ VArg np nl p l o N from fun h => beq_eq_false_iff_ne.1 HR4.out (by rw [HV.out]; exact (h.ls j hjn).2.resolve_left HJ0.out))
         go_wp2_with (first
          | (go_at_call 83; (with_reducible refine (ARM8.out _).mono ?_); rintro e w' ⟨rfl, rfl⟩)
          | (go_at_call 83; (with_reducible refine (ARM4.out _).mono ?_); rintro e w' ⟨rfl, rfl⟩))
         refine (must2_bad' _ _ _ (.inr rfl) _ _ (by simp)).mono ?_
         rintro e w' ⟨rfl, rfl⟩
         exact ⟨rfl, .inr ⟨HNO.out, rfl⟩, HBJ.out.alloc HBJ.out.size _⟩
      ·have q8 : decide ((j : Int) < (nl : Int)) = false := decide_eq_false (by omega)
       have HV := Lib.hid (show VArg np nl p l o N from ⟨x1, x2, x3, x4, H5.out, HKK.out, HPA.out, fun i hi => HLJ.out i (by omega)⟩)
       go_wp2_with fail
       go_end0
       exact ⟨.inl ⟨HV.out, rfl⟩, HBJ.out⟩
end Go.Proofs.YtfmabknhfehdcaaGreat
namespace Go.Proofs.YtfmabknhfehdcaaGreat
set_option linter.unusedSimpArgs false
set_option linter.unusedVariables false
open Go.RowKit
def z8 : Array Value := #[.int .u8 0, .int .u8 0, .int .u8 0, .int .u8 0, .int .u8 0, .int .u8 0, .int .u8 0, .int .u8 0]
theorem zero8 (w : World) : (zeroValue 109).run Tryz.prog w = .ok (.agg z8) w := by kernel_rfl
theorem size8 : (Tryz.prog.info? 109).map (·.size) = some 8 := by kernel_rfl
theorem sizeU8 : (Tryz.prog.info? 5).map (·.size) = some 1 := by kernel_rfl
theorem ArrAt.of_block {W : World} {b : Nat} {A : Array Value} {T : TypeId} (h0 : 0 < A.size) (h : W.heap[b]? = some (.cells A T (0, 0))) : ArrAt W b A := by
 have h : W.rowIs b T A.size (fun j => A.getD j undef) := ⟨A, h, rfl, fun j hj => by
  simp only [Array.getD_eq_getD_getElem?]
  rw [Array.getElem?_eq_getElem hj]; rfl⟩
 refine ⟨fun j v hv => ?_, fun j hj => ?_, h0⟩
 ·have hj : j < A.size := by simpa using (List.getElem?_eq_some_iff.1 hv).1
  rw [Nat.zero_add, World.rowIs.cell h hj]
  simp only [Array.getElem?_toList] at hv
  simp only [Array.getD_eq_getD_getElem?, hv]; rfl
 ·rw [Nat.zero_add]
  exact ⟨by rw [World.rowIs.cell h hj]; rfl, World.rowIs.frozen h j⟩
def eA (v : Int) : Array Value := (bytesL v 8).toArray
theorem eA_size (v : Int) : (eA v).size = 8 := by simp [eA, bytesL]
set_option maxRecDepth 100000 in
set_option maxHeartbeats 2000000 in
theorem encoded_any (v : Int) (w : World) (h0 : 0 ≤ v) (h1 : v ≤ 18446744073709551615) :
  Calls Tryz.prog 51 #[.int .u64 v] w fun e w' => e = .returned (.agg (eA v)) ∧ Below w.heap.size w w' := by
 have hsz1 := sizeU8
 go_enter Tryz.func51, Tryz.ntmps51
 go_upto_region 1 with ((with_reducible show wpList _ _ _ (⟨some 2, _, _, _, _, _⟩ :: _) _ _); refine wpList_alloc rfl 109 rfl zero8 ?_; rw [show (Value.agg z8).cells = z8 from rfl])
 obtain ⟨W1, hW1⟩ : ∃ z, z = w.alloc (.cells z8 109) := ⟨_, rfl⟩
 rw [← hW1]
 have B1 := Lib.hid (show Below w.heap.size w W1 by rw [hW1]; exact (Below.refl _ _).alloc (Nat.le_refl _) _)
 have H1 := Lib.hid (show W1.heap[w.heap.size]? = some (.cells z8 109 (0, 0)) by rw [hW1]; exact heap_alloc_new w _)
 have hz : w.heap.size < W1.heap.size := by rw [hW1]; simp
 clear hW1
 go_upto_region 2 with (go_at_call 62; refine (wput_ok v 8 _ (by omega) (by omega) h0 h1 (.inl rfl)).mono ?_; rintro e w2 ⟨g, rfl, hg, hb, hr⟩; have H2 := Lib.hid ((hb.block w.heap.size hz).trans H1.out); have B2 := Lib.hid (B1.out.trans (hb.mono B1.out.size)); have HR := Lib.hid hr; clear hb hr)
 have hlen : (bytesL v 8).length = 8 := bytesL_length v 8
 have HSRC := Lib.hid (show ∀ j u, (bytesL v 8)[j]? = some u → w2.cell? ((⟨g, 0, none⟩ : Addr).add j) = some u from fun j u hj => by
  have hj8 : j < 8 := by have := (List.getElem?_eq_some_iff.1 hj).1; rw [hlen] at this; exact this
  rw [bytesL_get v 8 j hj8] at hj
  cases hj
  rw [Addr.add_mid, Nat.zero_add]
  exact HR.out.cell hj8)
 have HLEN := Lib.hid hlen
 clear hlen
 go_upto_region 3 with ((with_reducible show wpList _ _ _ (⟨some 12, _, _, _, _, _⟩ :: _) _ _); go_loud (refine wpList_copy_splice rfl (.tmp 10) (.tmp 11) 31 31 rfl 5 Tryz.underlying31 hsz1 _ _ _ _ _ _ rfl rfl w.heap.size 0 z8.toList 109 H2.out (bytesL v 8) (by rw [HLEN.out]; rfl) (fun _ => ⟨rfl, _, rfl, HSRC.out⟩) (by rw [HLEN.out]; decide) (bytesL_one v 8) w.heap.size w B2.out (Nat.le_refl _) ?_; intro w3 HG3 hb3))
 have A3 := Lib.hid (ArrAt.of_block (A := eA v) (by rw [eA_size]; omega) (show w3.heap[w.heap.size]? = some (.cells (eA v) 109 (0, 0)) by
  rw [HG3.out]
  have : splice z8.toList 0 (bytesL v 8) = bytesL v 8 := by
   unfold splice
   rw [List.take_zero, List.nil_append, HLEN.out]
   rfl
  rw [this]; rfl))
 have B3 := Lib.hid hb3
 have S8 := Lib.hid (show (Tryz.prog.info? 109).map (·.size) = some (eA v).size by rw [eA_size]; exact size8)
 have O8 := Lib.hid (show (eA v).all (·.oneCell') = true by unfold eA; simpa [List.all_eq_true] using bytesL_one v 8)
 obtain ⟨E, hE⟩ : ∃ z, z = eA v := ⟨_, rfl⟩
 rw [← hE] at A3 S8 O8
 have HE := Lib.hid hE
 have S8s := Lib.hid (show E.size = 8 by rw [hE]; exact eA_size v)
 clear hE HG3 hb3
 go_wp2_with (first
  | ((with_reducible show wpList _ _ _ (⟨some 13, _, _, _, _, _⟩ :: _) _ _); refine wpList_loadA rfl A3.out 109 (.tmp 2) rfl (by first | rfl | simp [Act.eval, Act.put]) Tryz.underlying109 rfl S8.out ?_)
  | ((with_reducible show wpList _ _ _ (⟨none, .store _ (.tmp 2) _, _, _, _, _⟩ :: _) _ _); refine wpList_storeA rfl (b := w.heap.size) (A := E) (A' := E) A3.out 109 (.tmp 2) (.tmp 13) rfl (by simp [Act.eval, Act.put]) (by simp [Act.eval, Act.put]) S8.out rfl O8.out ?_))
 exact bodyPost_ret (results_c rfl _ _ _ (A3.out.store E rfl) rfl Tryz.underlying109 rfl S8.out) rfl ⟨by rw [HE.out], bstore B3.out _ (Nat.le_refl _) _ _⟩
end Go.Proofs.YtfmabknhfehdcaaGreat
