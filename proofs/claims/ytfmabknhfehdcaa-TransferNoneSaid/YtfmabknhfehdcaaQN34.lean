/- sgl: the law's small functions: num, data, same, spans. -/
import Derived.Test.YtfmabknhfehdcaaQN18
import Derived.Test.YtfmabknhfehdcaaQN20
import Derived.Test.YtfmabknhfehdcaaQN2
import Derived.Laws.StructEq
namespace Go.Proofs.Ytfmabknhfehdcaa
set_option linter.unusedVariables false
set_option linter.unusedSimpArgs false
open Go.RowKit

theorem build_data (a n : Int) (w : World) : (Instr.build 66 #[(0, .int .i64 1), (1, .int .u64 a), (2, .int .i64 n)]).run Try.prog w = .ok (.agg (⟨1, a, n, 0⟩ : Dsc).cells) w := by kernel_rfl
end Go.Proofs.Ytfmabknhfehdcaa

namespace Go.Proofs.Ytfmabknhfehdcaa
open Go.RowKit

set_option maxRecDepth 100000 in
set_option maxHeartbeats 4000000 in
theorem sbld_none (at' : Int) (ao : Option Addr) (n c : Nat) (p : Option Addr) (w : World) (hp : NoMem w p) :
    Calls Try.prog 38 #[.pointer p, .int .u64 at', .slice ao n c] w fun e w' => e = .returned (.tuple #[.agg zDsc.cells, .int .i64 1]) ∧ Below w.heap.size w w' := by
  have HP := Lib.hid hp
  clear hp
  have hmf : ∀ (fn : Fn) (first cap : Array Value) (w : World), (Instr.makeFunc fn first cap).run Try.prog w = .ok (.func fn first cap) w := fun _ _ _ _ => rfl
  go_enter_defers Try.func38, Try.ntmps38
  go_upto_region 2 with ((with_reducible show wpList _ _ _ (⟨some 6, _, _, _, _, _⟩ :: _) _ _); refine wpList_alloc rfl 66 rfl zeroD ?_; rw [show (Value.agg zDsc.cells).cells = zDsc.cells from rfl])
  obtain ⟨W0, hW0⟩ : ∃ W0, W0 = ((w.alloc (.cells zDsc.cells 66)).alloc (.cells #[.int .i64 0] 50)) := ⟨_, rfl⟩
  rw [← hW0]
  have S0 := Lib.hid (show sBSt w W0 by rw [hW0]; exact sbst_start w)
  clear hW0
  try simp only [Act.put, List.setIfInBounds_toArray, List.set_cons_succ, List.set_cons_zero]
  go_wp2_with (go_at_call 34; refine (size_no _ _ (HP.out.below S0.out.below)).mono ?_; rintro e w' ⟨rfl, rfl⟩)
  refine (must_bad _ _).mono ?_
  rintro e w' ⟨rfl, rfl⟩
  exact sbl_bad S0.out rfl rfl fun w' h => ⟨rfl, h⟩

section
variable (at' : Nat) (ao : Option Addr) (n c : Nat) (b B size : Nat) (f : Nat → Int) (L : List (Nat × Nat)) (w : World) (hM : MemAt w b B size f L) (hs : 0 < size)
include hM hs
set_option maxRecDepth 100000 in
set_option maxHeartbeats 4000000 in
theorem bld_zero : Calls Try.prog 38 #[.pointer (some ⟨b, 0, none⟩), .int .u64 (at' : Nat), .slice ao 0 c] w fun e w' => e = .returned (.tuple #[.agg zDsc.cells, .int .i64 2]) ∧ Below w.heap.size w w' := by
  have HM := Lib.hid hM
  obtain ⟨sz, hsz⟩ : ∃ z : Int, z = size := ⟨_, rfl⟩
  have dz : decide (0 < sz) = true := decide_eq_true (by omega)
  have HZ := Lib.hid hsz
  clear hM hsz hs
  have hmf : ∀ (fn : Fn) (first cap : Array Value) (w : World), (Instr.makeFunc fn first cap).run Try.prog w = .ok (.func fn first cap) w := fun _ _ _ _ => rfl
  go_enter_defers Try.func38, Try.ntmps38
  go_upto_region 2 with ((with_reducible show wpList _ _ _ (⟨some 6, _, _, _, _, _⟩ :: _) _ _); refine wpList_alloc rfl 66 rfl zeroD ?_; rw [show (Value.agg zDsc.cells).cells = zDsc.cells from rfl])
  obtain ⟨W0, hW0⟩ : ∃ W0, W0 = ((w.alloc (.cells zDsc.cells 66)).alloc (.cells #[.int .i64 0] 50)) := ⟨_, rfl⟩
  rw [← hW0]
  have S0 := Lib.hid (show sBSt w W0 by rw [hW0]; exact sbst_start w)
  clear hW0
  try simp only [Act.put, List.setIfInBounds_toArray, List.set_cons_succ, List.set_cons_zero]
  go_wp2_with (first
    | (go_at_call 34; refine (size_is b B size f L sz _ (HM.out.below S0.out.below) HZ.out).mono ?_; rintro e w' ⟨rfl, rfl⟩)
    | (go_at_call_of 72 (Value.bool true); refine (must_ok _ _).mono ?_; rintro e w' ⟨rfl, rfl⟩))
  refine (must_bad _ _).mono ?_
  rintro e w' ⟨rfl, rfl⟩
  exact sbl_bad S0.out rfl rfl fun w' h => ⟨rfl, h⟩

set_option maxRecDepth 100000 in
set_option maxHeartbeats 4000000 in
theorem bld_many (h1 : 1024 ≤ n) : Calls Try.prog 38 #[.pointer (some ⟨b, 0, none⟩), .int .u64 (at' : Nat), .slice ao n c] w fun e w' => e = .returned (.tuple #[.agg zDsc.cells, .int .i64 2]) ∧ Below w.heap.size w w' := by
  have q1 : decide ((1 : Int) ≤ (n : Int)) = true := decide_eq_true (by omega)
  have q2 : decide ((n : Int) < 1024) = false := decide_eq_false (by omega)
  have HM := Lib.hid hM
  obtain ⟨sz, hsz⟩ : ∃ z : Int, z = size := ⟨_, rfl⟩
  have dz : decide (0 < sz) = true := decide_eq_true (by omega)
  have HZ := Lib.hid hsz
  clear hM hsz hs
  have hmf : ∀ (fn : Fn) (first cap : Array Value) (w : World), (Instr.makeFunc fn first cap).run Try.prog w = .ok (.func fn first cap) w := fun _ _ _ _ => rfl
  go_enter_defers Try.func38, Try.ntmps38
  go_upto_region 2 with ((with_reducible show wpList _ _ _ (⟨some 6, _, _, _, _, _⟩ :: _) _ _); refine wpList_alloc rfl 66 rfl zeroD ?_; rw [show (Value.agg zDsc.cells).cells = zDsc.cells from rfl])
  obtain ⟨W0, hW0⟩ : ∃ W0, W0 = ((w.alloc (.cells zDsc.cells 66)).alloc (.cells #[.int .i64 0] 50)) := ⟨_, rfl⟩
  rw [← hW0]
  have S0 := Lib.hid (show sBSt w W0 by rw [hW0]; exact sbst_start w)
  clear hW0
  try simp only [Act.put, List.setIfInBounds_toArray, List.set_cons_succ, List.set_cons_zero]
  go_wp2_with (first
    | (go_at_call 34; refine (size_is b B size f L sz _ (HM.out.below S0.out.below) HZ.out).mono ?_; rintro e w' ⟨rfl, rfl⟩)
    | (go_at_call_of 72 (Value.bool true); refine (must_ok _ _).mono ?_; rintro e w' ⟨rfl, rfl⟩))
  refine (must_bad _ _).mono ?_
  rintro e w' ⟨rfl, rfl⟩
  exact sbl_bad S0.out rfl rfl fun w' h => ⟨rfl, h⟩

omit hM hs in
theorem build_last (a n : Int) (w : World) : (Instr.build 66 #[(0, .int .i64 4), (1, .int .u64 a), (2, .int .i64 n)]).run Try.prog w = .ok (.agg (⟨4, a, n, 0⟩ : Dsc).cells) w := by kernel_rfl
/-- What Build leaves, of one descriptor to 1023. -/
def BldPost (w : World) (b B size : Nat) (f : Nat → Int) (L : List (Nat × Nat)) (at' n : Nat) (l : Nat → Dsc) (e : Ending) (w' : World) : Prop :=
  ((∃ i, i < n ∧ ¬ Good (l i)) ∧ e = .returned (.tuple #[.agg zDsc.cells, .int .i64 2]) ∧ Below w.heap.size w w') ∨
  ((∀ i, i < n → Good (l i)) ∧ n = 1 ∧ e = .returned (.tuple #[.agg (l 0).cells, .int .i64 0]) ∧ Below w.heap.size w w') ∨
  ((∀ i, i < n → Good (l i)) ∧ 2 ≤ n ∧ size < at' + 16 * n ∧ e = .returned (.tuple #[.agg zDsc.cells, .int .i64 3]) ∧ Below w.heap.size w w') ∨
  ((∀ i, i < n → Good (l i)) ∧ 2 ≤ n ∧ at' + 16 * n ≤ size ∧ e = .returned (.tuple #[.agg (⟨4, at', (16 * n : Nat), 0⟩ : Dsc).cells, .int .i64 0]) ∧ Keeps (Two b B) w w' ∧ MemAt w' b B size (upd f at' (16 * n) (lstB l)) (logged L at' (16 * n)))

set_option maxRecDepth 100000 in
set_option maxHeartbeats 8000000 in
theorem bld_any (l : Nat → Dsc) (hD : DAt w ao n l) (hok : ∀ i, i < n → (l i).Ok) (h1 : 1 ≤ n) (h2 : n < 1024) (hat : at' ≤ 18446744073709551615) (hL : L.length < 4611686018427387904) :
    Calls Try.prog 38 #[.pointer (some ⟨b, 0, none⟩), .int .u64 (at' : Nat), .slice ao n c] w (BldPost w b B size f L at' n l) := by
  have q1 : decide ((1 : Int) ≤ (n : Int)) = true := decide_eq_true (by omega)
  have q2 : decide ((n : Int) < 1024) = true := decide_eq_true (by omega)
  have HBL := Lib.hid hM.lt
  have HBL' := Lib.hid hM.lt'
  have HD := Lib.hid hD
  have HOK := Lib.hid hok
  obtain ⟨ga, oa, hao, hga⟩ := hD.lt (by omega)
  have HLL := Lib.hid hL
  subst hao
  clear hD hok hL
  have HM := Lib.hid hM
  obtain ⟨sz, hsz⟩ : ∃ z : Int, z = size := ⟨_, rfl⟩
  have dz : decide (0 < sz) = true := decide_eq_true (by omega)
  have HZ := Lib.hid hsz
  clear hM hsz hs
  have hmf : ∀ (fn : Fn) (first cap : Array Value) (w : World), (Instr.makeFunc fn first cap).run Try.prog w = .ok (.func fn first cap) w := fun _ _ _ _ => rfl
  go_enter_defers Try.func38, Try.ntmps38
  go_upto_region 2 with ((with_reducible show wpList _ _ _ (⟨some 6, _, _, _, _, _⟩ :: _) _ _); refine wpList_alloc rfl 66 rfl zeroD ?_; rw [show (Value.agg zDsc.cells).cells = zDsc.cells from rfl])
  obtain ⟨W0, hW0⟩ : ∃ W0, W0 = ((w.alloc (.cells zDsc.cells 66)).alloc (.cells #[.int .i64 0] 50)) := ⟨_, rfl⟩
  rw [← hW0]
  have S0 := Lib.hid (show sBSt w W0 by rw [hW0]; exact sbst_start w)
  clear hW0
  try simp only [Act.put, List.setIfInBounds_toArray, List.set_cons_succ, List.set_cons_zero]
  go_upto_region 6 with (first
    | (go_at_call 34; refine (size_is b B size f L sz _ (HM.out.below S0.out.below) HZ.out).mono ?_; rintro e w' ⟨rfl, rfl⟩)
    | (go_at_call_of 72 (Value.bool true); refine (must_ok _ _).mono ?_; rintro e w' ⟨rfl, rfl⟩))
  obtain ⟨W1, hW1⟩ : ∃ z, z = W0.alloc (.cells #[.slice none 0 0] 29) := ⟨_, rfl⟩
  rw [← hW1]
  obtain ⟨bb, hbb⟩ : ∃ z, z = W0.heap.size := ⟨_, rfl⟩
  have hb1 : Below W0.heap.size W0 W1 := by rw [hW1]; exact (Below.refl _ _).alloc (Nat.le_refl _) _
  have hbz : w.heap.size + 1 < bb := by rw [hbb]; exact S0.out.lt
  have S1 := Lib.hid (S0.out.beyond hb1)
  have HM1 := Lib.hid (HM.out.below S1.out.below)
  have HD1 := Lib.hid (HD.out.below S1.out.below (fun g o e => by cases e; exact hga))
  have HWR := Lib.hid (show Wr (fun j => j < bb) bb W1 (flatD l 0) from ⟨⟨.slice none 0 0, by rw [hW1, hbb]; go_simp, World.ownsRow_nil _ _ _ _, fun k _ e => by cases e⟩, by rw [hW1, hbb]; go_simp, fun e => Nat.lt_irrefl _ e, fun k hk => by rw [hW1]; simp; omega⟩)
  rw [← hbb]
  have HWR0 : bb ≤ W1.heap.size := by have := HWR.out.glt; omega
  clear hW1 hb1 hbb S0 HM HD HZ dz
  go_upto_region 7 with fail
  go_loopw [30] (fun i wr => ∃ k : Nat, k ≤ n ∧ i = .int .i64 (k : Nat) ∧ Keeps (fun j => ¬ j < bb) W1 wr ∧ Wr (fun j => j < bb) bb wr (flatD l k) ∧ ∀ i, i < k → Good (l i)) (fun i _ => n - (intOf i).toNat)
  case atStart => exact ⟨0, by omega, rfl, Keeps.refl _ _, HWR.out, fun i hi => by omega⟩
  case round =>
    clear HWR
    obtain ⟨k, hk, rfl, hK, hW, hG⟩ := hrel
    have HK := Lib.hid hK
    have S2 := Lib.hid (S1.out.kept hK (fun j hj e => e (by omega)))
    have M2 := Lib.hid (HM1.out.kept hK (fun e => e (by have := HBL.out; omega)) (fun e => e (by have := HBL'.out; omega)))
    have D2 := Lib.hid (HD1.out.below (hK.below (B := bb) (by have := HWR0; omega) (fun j hj e => e hj)) (fun g o e => by cases e; omega))
    have HW := Lib.hid hW
    have HG := Lib.hid hG
    have hwz := S2.out.below.size
    clear hK hW hG
    by_cases hkn : k < n
    · have q3 : decide ((k : Int) < (n : Int)) = true := decide_eq_true (by omega)
      have hrk : wr.rangeAt ga (oa + k * 4) (l k).cells.toList := by
        obtain ⟨g, o, e, hr⟩ := D2.out k hkn
        cases e
        exact hr
      have HRK := Lib.hid hrk
      have HOKK := Lib.hid (HOK.out k hkn)
      have A7 := Lib.hid (show ArrAt (wr.alloc (.cells zDsc.cells 66)) wr.heap.size zDsc.cells from ArrAt.fresh wr zDsc.cells _ (by decide))
      obtain ⟨D, hDD⟩ : ∃ z, z = (l k).cells := ⟨_, rfl⟩
      have HSZ := Lib.hid (show (Try.prog.info? 66).map (·.size) = some D.size by rw [hDD]; exact sizeD)
      have HD4 := Lib.hid (show D.size = 4 by rw [hDD]; rfl)
      have HD1' := Lib.hid (show D.all (·.oneCell') = true by rw [hDD]; exact (l k).one)
      rw [← hDD] at HRK
      clear hrk
      go_upto_region 9 with (first
        | ((with_reducible show wpList _ _ _ (⟨some 33, _, _, _, _, _⟩ :: _) _ _); refine wpList_loadR rfl HRK.out 66 (.tmp 32) rfl (by first | rfl | simp [Act.eval, Act.put]) Try.underlying66 rfl HSZ.out ?_)
        | ((with_reducible show wpList _ _ _ (⟨some 11, _, _, _, _, _⟩ :: _) _ _); refine wpList_alloc rfl 66 rfl zeroD ?_; rw [show (Value.agg zDsc.cells).cells = zDsc.cells from rfl])
        | ((with_reducible show wpList _ _ _ (⟨none, .store _ (.tmp 11) _, _, _, _, _⟩ :: _) _ _); refine wpList_storeA rfl (b := wr.heap.size) (A := zDsc.cells) (A' := D) A7.out 66 (.tmp 11) (.tmp 33) rfl (by simp [Act.eval, Act.put]) (by simp [Act.eval, Act.put]) (sizeDs _) (by rw [HD4.out]; rfl) HD1'.out ?_))
      obtain ⟨W2, hW2⟩ : ∃ z, z = (wr.alloc (.cells zDsc.cells 66)).setCells wr.heap.size 0 D.toList := ⟨_, rfl⟩
      rw [← hW2]
      have b2 : Below wr.heap.size wr W2 := by rw [hW2]; exact bstore ((Below.refl _ _).alloc (Nat.le_refl _) _) _ (Nat.le_refl _) _ _
      have HA2 := Lib.hid (show ArrAt W2 wr.heap.size D by rw [hW2]; exact A7.out.store D (by rw [HD4.out]; rfl))
      have HW2 := Lib.hid (HW.out.below b2)
      have S3 := Lib.hid (S2.out.beyond b2)
      have HK2 := Lib.hid (HK.out.trans (Keeps.of_below b2))
      clear hW2 b2 A7
      by_cases hgd : Good (l k)
      case neg =>
        have hc : Calls Try.prog 73 #[.agg D, .pointer (some ⟨bb, 0, none⟩)] W2 fun e W' => e = .panicked [pan 2] ∧ Below W2.heap.size W2 W' := by
          rw [hDD]
          by_cases h3 : (l k).k = 3 ∨ (l k).k = 4
          · exact bput_seg bb (l k) W2 h3
          · exact bput_inv bb (l k) W2 HOKK.out (fun hv => hgd ⟨hv, fun e => h3 (.inl e), fun e => h3 (.inr e)⟩) (bne_iff_ne.2 fun e => h3 (.inl e)) (bne_iff_ne.2 fun e => h3 (.inr e))
        have HC := Lib.hid hc
        clear hc hDD
        go_wp2_with ((with_reducible show wpList _ _ _ (⟨some 35, _, _, _, _, _⟩ :: _) _ _); refine wpList_loadA rfl HA2.out 66 (.tmp 11) rfl (by first | rfl | simp [Act.eval, Act.put]) Try.underlying66 rfl HSZ.out ?_)
        refine HC.out.mono ?_
        rintro e w' ⟨rfl, hb'⟩
        exact sbl_bad (S3.out.beyond hb') rfl rfl fun w' h => .inl ⟨⟨k, hkn, hgd⟩, rfl, h⟩
      case pos =>
        have HC := Lib.hid (show Calls Try.prog 73 #[.agg D, .pointer (some ⟨bb, 0, none⟩)] W2 _ by rw [hDD]; exact bput_ok (fun j => j < bb) bb (flatD l k) (l k) W2 HW2.out HOKK.out hgd.1 (bne_iff_ne.2 hgd.2.1) (bne_iff_ne.2 hgd.2.2) (by rw [flatD_length]; omega))
        have HGD := Lib.hid hgd
        clear hDD hgd
        go_wp2_with (first
          | ((with_reducible show wpList _ _ _ (⟨some 35, _, _, _, _, _⟩ :: _) _ _); refine wpList_loadA rfl HA2.out 66 (.tmp 11) rfl (by first | rfl | simp [Act.eval, Act.put]) Try.underlying66 rfl HSZ.out ?_)
          | (go_at_call 73; refine HC.out.mono ?_; rintro e w3 ⟨rfl, hk3, hw3⟩; have HK3 := Lib.hid (HK2.out.trans hk3); have HW3 := Lib.hid hw3; clear hk3 hw3))
        have hg3 : ∀ i, i < k + 1 → Good (l i) := fun i hi => by
          rcases Nat.lt_or_ge i k with h | h
          · exact HG.out i h
          · obtain rfl : i = k := by omega
            exact HGD.out
        go_roundw
        case rel =>
          first
            | exact ⟨k + 1, by omega, by go_num, HK3.out, HW3.out, hg3⟩
            | ((repeat apply Exists.intro); exact ⟨⟨k + 1, by omega, by go_num, HK3.out, HW3.out, hg3⟩, rfl⟩)
        case measure => simp [intOf]; omega
    · obtain rfl : k = n := by omega
      have q3 : decide ((k : Int) < (k : Int)) = false := decide_eq_false (by omega)
      by_cases hn1 : k = 1
      · subst hn1
        have hrk : wr.rangeAt ga (oa + 0 * 4) (l 0).cells.toList := by
          obtain ⟨g, o, e, hr⟩ := D2.out 0 (by omega)
          cases e
          exact hr
        rw [Nat.zero_mul, Nat.add_zero] at hrk
        have HRK := Lib.hid hrk
        obtain ⟨D, hDD⟩ : ∃ z, z = (l 0).cells := ⟨_, rfl⟩
        have HSZ := Lib.hid (show (Try.prog.info? 66).map (·.size) = some D.size by rw [hDD]; exact sizeD)
        have HD4 := Lib.hid (show D.size = 4 by rw [hDD]; rfl)
        have HD1' := Lib.hid (show D.all (·.oneCell') = true by rw [hDD]; exact (l 0).one)
        rw [← hDD] at HRK
        have HDD := Lib.hid hDD
        have hAz := S2.out.dsc
        have HAZ := Lib.hid hAz
        have k1 : Keeps (One w.heap.size) wr (wr.setCells w.heap.size 0 D.toList) := Keeps.store (S := One w.heap.size) (Keeps.refl _ _) (fun _ => rfl) _ _
        have e3 : (wr.setCells w.heap.size 0 D.toList).cell? ⟨w.heap.size + 1, 0, none⟩ = some (.int .i64 0) := k1.cell S2.out.err (fun e => by have e : w.heap.size + 1 = w.heap.size := e; omega)
        have e4 : (wr.setCells w.heap.size 0 D.toList).frozen? ⟨w.heap.size + 1, 0, none⟩ = false := by
          rw [World.frozen?_of_block (a := ⟨w.heap.size + 1, 0, none⟩) (k1.block (w.heap.size + 1) S2.out.lt (fun e => by have e : w.heap.size + 1 = w.heap.size := e; omega))]
          exact S2.out.efz
        clear hrk hDD hAz k1
        go_wp2_with (first
          | ((with_reducible show wpList _ _ _ (⟨some 43, _, _, _, _, _⟩ :: _) _ _); refine wpList_loadR rfl HRK.out 66 (.tmp 42) rfl (by first | rfl | simp [Act.eval, Act.put]) Try.underlying66 rfl HSZ.out ?_)
          | ((with_reducible show wpList _ _ _ (⟨none, .store _ (.tmp 6) _, _, _, _, _⟩ :: _) _ _); refine wpList_storeA rfl (b := w.heap.size) (A := zDsc.cells) (A' := D) HAZ.out 66 (.tmp 6) (.tmp 43) rfl (by simp [Act.eval, Act.put]) (by simp [Act.eval, Act.put]) (sizeDs _) (by rw [HD4.out]; rfl) HD1'.out ?_))
        have ha : ArrAt ((wr.setCells w.heap.size 0 D.toList).setCell ⟨w.heap.size + 1, 0, none⟩ (.int .i64 0)) w.heap.size D := (HAZ.out.store D (by rw [HD4.out]; rfl)).kept ((Keeps.refl (One (w.heap.size + 1)) _).set1 _ _) (fun e => by have e : w.heap.size = w.heap.size + 1 := e; omega)
        exact bld_good _ _ _ _ D 0 _ rfl rfl ha HD4.out (World.cell?_setCell_same _ _ _ e3) (.inr (.inl ⟨HG.out, rfl, by rw [HDD.out], (bstore S2.out.below _ (Nat.le_refl _) _ _).setCell (p := ⟨w.heap.size + 1, 0, none⟩) (by simp) _⟩))
      · have q4 : ((k : Int) == 1) = false := beq_eq_false_iff_ne.2 (by omega)
        obtain ⟨ao2, nc2, b0, o0, p0⟩ := HW.out.form
        rw [flatD_length] at b0 o0 p0
        have hsl : (Value.slice ao2 (16 * k) nc2) ≠ .slice none 0 0 := fun e => by injection e with e1 e2 e3; omega
        have hnl := newL_of_owns o0 hsl (flatD_length l k)
        obtain ⟨g2, cap2, F2, eg, hg2, hr2, hc2, hc3, hx2⟩ := hnl
        obtain ⟨e1, e3⟩ : ao2 = some ⟨g2, 0, none⟩ ∧ nc2 = cap2 := by injection eg with a1 a2 a3; exact ⟨a1, a3⟩
        rw [e1, e3] at b0
        clear e1 e3
        have hsrc : Src (Two b B) wr (some ⟨g2, 0, none⟩) (16 * k) (lstB l) := ⟨by omega, fun _ => ⟨g2, 0, rfl, fun e => by have := HBL.out; have := HBL'.out; rcases e with e | e <;> omega, fun i hi => by
          rw [Nat.zero_add, hr2.cell (by omega)]
          have := hx2 i hi
          rw [flatD_get l k i (by omega)] at this
          exact this.symm⟩⟩
        by_cases hfit : at' + 16 * k ≤ size
        case neg =>
          have HC := Lib.hid (write_err' b B size f L at' (16 * k) cap2 (some ⟨g2, 0, none⟩) (at' : Int) wr M2.out hat (by omega) (by omega) rfl)
          clear hsl o0 p0 hr2 hx2 hsrc
          go_wp2_with (go_at_call 26; refine HC.out.mono ?_; rintro e w3 ⟨rfl, hb3⟩; have S3 := Lib.hid (S2.out.beyond hb3); clear hb3)
          refine (must_bad _ _).mono ?_
          rintro e w' ⟨rfl, rfl⟩
          exact sbl_bad S3.out rfl rfl fun w' h => .inr (.inr (.inl ⟨HG.out, by omega, by omega, rfl, h⟩))
        case pos =>
          have HC := Lib.hid (write_ok' b B size f L at' (16 * k) cap2 (some ⟨g2, 0, none⟩) (lstB l) (at' : Int) wr M2.out HLL.out hfit hsrc rfl)
          have hbw := build_last
          have hnb : ∀ j, w.heap.size ≤ j → ¬ Two b B j := fun j hj e => by
            have h1 := HBL.out
            have h2 := HBL'.out
            have e : j = b ∨ j = B := e
            omega
          have HNB := Lib.hid hnb
          obtain ⟨m16, hm16⟩ : ∃ z : Nat, z = 16 * k := ⟨_, rfl⟩
          have HMM := Lib.hid hm16
          rw [← hm16] at HC b0
          clear hsl o0 p0 hr2 hx2 hsrc hnb hm16
          go_wp2_with (first
            | (go_at_call 26; refine HC.out.mono ?_; rintro e w3 ⟨rfl, hk3, hm3⟩; have c3 : w3.cell? ⟨bb, 0, none⟩ = _ := hk3.cell b0 (HNB.out bb (by omega)); have d3 := Lib.hid (S2.out.dsc.kept hk3 (HNB.out _ (Nat.le_refl _))); have x3 : w3.cell? ⟨w.heap.size + 1, 0, none⟩ = _ := hk3.cell S2.out.err (HNB.out _ (Nat.le_succ _)); have f3 : w3.frozen? ⟨w.heap.size + 1, 0, none⟩ = false := (World.frozen?_of_block (a := ⟨w.heap.size + 1, 0, none⟩) (hk3.block (w.heap.size + 1) S2.out.lt (HNB.out _ (Nat.le_succ _)))).trans S2.out.efz; have HK3 := Lib.hid hk3; have HM3 := Lib.hid hm3; clear hk3 hm3)
            | (go_at_call_of 72 (Value.bool true); refine (must_ok _ _).mono ?_; rintro e w' ⟨rfl, rfl⟩)
            | ((with_reducible show wpList _ _ _ (⟨none, .store _ (.tmp 6) _, _, _, _, _⟩ :: _) _ _); go_loud (have k4 : Keeps (One w.heap.size) w3 (w3.setCells w.heap.size 0 (⟨4, at', (m16 : Nat), 0⟩ : Dsc).cells.toList) := Keeps.store (S := One w.heap.size) (Keeps.refl _ _) (fun _ => rfl) _ _; have x4 := k4.cell x3 (fun e => by have e : w.heap.size + 1 = w.heap.size := e; omega); have f4 := (World.frozen?_of_block (a := ⟨w.heap.size + 1, 0, none⟩) (k4.block (w.heap.size + 1) (World.block_lt_of_cell? _ _ x3) (fun e => by have e : w.heap.size + 1 = w.heap.size := e; omega))).trans f3; have HK4 := Lib.hid k4; clear k4; refine wpList_storeA rfl (b := w.heap.size) (A := zDsc.cells) (A' := (⟨4, at', (m16 : Nat), 0⟩ : Dsc).cells) d3.out 66 (.tmp 6) (.tmp 55) rfl (by first | rfl | simp [Act.eval, Act.put]) (by first | rfl | simp [Act.eval, Act.put, Dsc.cells]) (sizeDs _) rfl (Dsc.one _) ?_)))
          have ha : ArrAt ((w3.setCells w.heap.size 0 (⟨4, at', (m16 : Nat), 0⟩ : Dsc).cells.toList).setCell ⟨w.heap.size + 1, 0, none⟩ (.int .i64 0)) w.heap.size (⟨4, at', (m16 : Nat), 0⟩ : Dsc).cells := (d3.out.store (⟨4, at', (m16 : Nat), 0⟩ : Dsc).cells rfl).kept ((Keeps.refl (One (w.heap.size + 1)) _).set1 _ _) (fun e => by have e : w.heap.size = w.heap.size + 1 := e; omega)
          have ka : Keeps (Two b B) w ((w3.setCells w.heap.size 0 (⟨4, at', (m16 : Nat), 0⟩ : Dsc).cells.toList).setCell ⟨w.heap.size + 1, 0, none⟩ (.int .i64 0)) := (((Keeps.of_below S2.out.below).trans HK3.out).store (b := w.heap.size) (fun h => absurd h (Nat.lt_irrefl _)) _ _).setCell (p := ⟨w.heap.size + 1, 0, none⟩) (fun h => absurd h (by show ¬ (w.heap.size + 1 < w.heap.size); omega)) _
          have k5 : Keeps (Two w.heap.size (w.heap.size + 1)) w3 ((w3.setCells w.heap.size 0 (⟨4, at', (m16 : Nat), 0⟩ : Dsc).cells.toList).setCell ⟨w.heap.size + 1, 0, none⟩ (.int .i64 0)) := HK4.out.two1.trans ((Keeps.refl (One (w.heap.size + 1)) _).set1 _ _).two2
          have ma := HM3.out.kept k5 (fun e => by have h1 := HBL.out; have e : b = w.heap.size ∨ b = w.heap.size + 1 := e; omega) (fun e => by have h1 := HBL'.out; have e : B = w.heap.size ∨ B = w.heap.size + 1 := e; omega)
          refine bld_good _ _ _ _ (⟨4, at', (m16 : Nat), 0⟩ : Dsc).cells 0 _ rfl rfl ha rfl (World.cell?_setCell_same _ _ _ x4) (.inr (.inr (.inr ⟨HG.out, by omega, hfit, ?_, ka, ?_⟩)))
          · rw [HMM.out]
          · rw [HMM.out] at ma ⊢
            exact ma
end
end Go.Proofs.Ytfmabknhfehdcaa

namespace Go.Proofs.Ytfmabknhfehdcaa
open Go.RowKit

section
variable {P : Program} {ops : Array Oper} {Q : Exit → Act → World → Prop} {a : Act} {w : World} {rest : List Oper} {o : Oper}
/-- An operation whose value is known, under a guard that holds. -/
theorem wpList_valG (hw : Region.wanted o (yielded ops a.tmps) = true) {v : Value} (he : (execOp a.eval o).run P w = .ok (.value v) w) (h : wpList P ops Q rest (a.put o.dst v) w) : wpList P ops Q (o :: rest) a w :=
  wpList_step fun K hK => by
    rw [if_pos hw]
    unfold Oper.wp
    rw [he]
    exact hK _ _ h
theorem wpList_loadAG (hw : Region.wanted o (yielded ops a.tmps) = true) {b : Nat} {A : Array Value} (H : ArrAt w b A) (ty : TypeId) (x : Operand) (ho : o.op = .load ty x) (hx : a.eval x = .pointer (some ⟨b, 0, none⟩)) {d : TypeDesc}
    (hu : P.underlying ty = some d) (hd : d.isRow = true) (hi : (P.info? ty).map (·.size) = some A.size) (h : wpList P ops Q rest (a.put o.dst (.agg A)) w) : wpList P ops Q (o :: rest) a w :=
  wpList_load_midG hw ty x ho b 0 hx A.toList d H.rng hu hd (by simpa using hi) (by simpa using h)
end

/-- the cells of descriptors -/
def dCs : List Dsc → List Value
  | [] => []
  | d :: r => d.cells.toList ++ dCs r
theorem dCs_get : ∀ (l : List Dsc) (i : Nat) (h : i < l.length) (j : Nat) (v : Value), (l[i]'h).cells.toList[j]? = some v → (dCs l)[i * 4 + j]? = some v
  | x :: r, 0, _, j, v, hv => by
    show (x.cells.toList ++ dCs r)[0 * 4 + j]? = _
    have hj : j < x.cells.toList.length := (List.getElem?_eq_some_iff.1 hv).1
    rw [Nat.zero_mul, Nat.zero_add, List.getElem?_append_left hj]
    exact hv
  | x :: r, i + 1, h, j, v, hv => by
    show (x.cells.toList ++ dCs r)[(i + 1) * 4 + j]? = _
    have hx : x.cells.toList.length = 4 := rfl
    rw [List.getElem?_append_right (by rw [hx]; omega), hx, show (i + 1) * 4 + j - 4 = i * 4 + j by omega]
    exact dCs_get r i (by simpa using h) j v hv
theorem dAt_fresh (w : World) (l : List Dsc) (T : TypeId) (n : Nat) (hn : n = l.length) : DAt (w.alloc (.cells (dCs l).toArray T)) (some ⟨w.heap.size, 0, none⟩) n (fun i => l.getD i zDsc) := by
  subst hn
  intro i hi
  refine ⟨_, 0, rfl, fun j v hv => ?_⟩
  have e : l.getD i zDsc = l[i]'hi := by simp [List.getD_eq_getElem?_getD, hi]
  have hv : ((l.getD i zDsc).cells.toList)[j]? = some v := hv
  rw [e] at hv
  have h1 := dCs_get l i hi j v hv
  have h0 : 0 < (dCs l).toArray.size := by
    have := (List.getElem?_eq_some_iff.1 h1).1
    simpa using Nat.lt_of_le_of_lt (Nat.zero_le _) this
  have h2 := (ArrAt.fresh w (dCs l).toArray T h0).cell (i := i * 4 + j) (v := v) (by simpa using h1)
  rw [Nat.zero_add]
  exact h2
theorem bytes_lst (l : Nat → Dsc) : Bytes (lstB l) := fun i => by
  unfold lstB
  split
  · exact byteOf_bd _ _
  · exact byteOf_bd _ _

/-- One memory of one page. -/
theorem new1 (w : World) : Calls Try.prog 15 #[.int .i64 1] w fun e w' => ∃ b B, e = .returned (.tuple #[.pointer (some ⟨b, 0, none⟩), .int .i64 0]) ∧ w.heap.size ≤ b ∧ w.heap.size ≤ B ∧ Below w.heap.size w w' ∧ MemAt w' b B 4096 (fun _ => 0) [] := by
  have h := new_ok 1 w (by omega) (by omega)
  rw [show 1 * 4096 = 4096 by omega] at h
  exact h

/-- the descriptors of the examples -/
def wkL : List Dsc := [⟨1, 1000, 8, 0⟩, ⟨2, 0, 4, 0⟩, ⟨1, 2000, 8, 0⟩]
theorem swk1 (f : Nat → Int) : spansM f 4096 ⟨1, 100, 50, 0⟩ 40 true = .ok [⟨100, 40, false⟩] := by rfl
theorem swk2 (f : Nat → Int) : spansM f 4096 ⟨1, 100, 50, 0⟩ 51 true = .error 162 := by rfl
theorem swk3 (f : Nat → Int) : spansM f 4096 ⟨1, 4090, 7, 0⟩ 1 true = .error 3 := by rfl
theorem swk4 : spansM (upd (fun _ => 0) 0 48 (lstB fun i => wkL.getD i zDsc)) 4096 ⟨4, 0, 48, 0⟩ 15 true = .ok [⟨1000, 8, false⟩, ⟨0, 4, true⟩, ⟨2000, 3, false⟩] := by rfl
theorem swk5 : spansM (upd (fun _ => 0) 0 48 (lstB fun i => wkL.getD i zDsc)) 4096 ⟨4, 0, 48, 0⟩ 15 false = .ok [⟨1000, 8, false⟩, ⟨2000, 7, false⟩] := by rfl
theorem wkOk (k a n key : Int) (h1 : 0 ≤ k ∧ k ≤ 5) (h2 : 0 ≤ a ∧ a ≤ 100000) (h3 : 0 ≤ n ∧ n ≤ 100000) (h4 : 0 ≤ key ∧ key ≤ 100000) : (⟨k, a, n, key⟩ : Dsc).Ok := ⟨by simp only []; omega, by simp only []; omega, by simp only []; omega, by simp only []; omega⟩
theorem wkEnc1 (w : World) : Calls Try.prog 41 #[.agg (⟨1, 4096, 512, 0⟩ : Dsc).cells] w fun e w' => e = .returned (.tuple #[.agg #[.int .u64 4096, .int .u64 512], .int .i64 0]) ∧ Below w.heap.size w w' :=
  encode_ok ⟨1, 4096, 512, 0⟩ w (wkOk _ _ _ _ (by omega) (by omega) (by omega) (by omega)) (by decide)
theorem wkEnc2 (w : World) : Calls Try.prog 41 #[.agg (⟨2, 1, 5, 0⟩ : Dsc).cells] w fun e w' => e = .returned (.tuple #[.agg #[.int .u64 0, .int .u64 0], .int .i64 2]) ∧ Below w.heap.size w w' :=
  encode_no ⟨2, 1, 5, 0⟩ w (wkOk _ _ _ _ (by omega) (by omega) (by omega) (by omega)) (by decide)
theorem wkEnc3 (w : World) : Calls Try.prog 41 #[.agg (⟨5, 1, 2, 3⟩ : Dsc).cells] w fun e w' => e = .returned (.tuple #[.agg #[.int .u64 1, .int .u64 4611686018477719554], .int .i64 0]) ∧ Below w.heap.size w w' :=
  encode_ok ⟨5, 1, 2, 3⟩ w (wkOk _ _ _ _ (by omega) (by omega) (by omega) (by omega)) (by decide)
theorem wkDec1 (w : World) : Calls Try.prog 93 #[.agg #[.int .u64 0, .int .u64 1152921504606846983]] w fun e w' => e = .returned (.tuple #[.agg (⟨2, 0, 7, 0⟩ : Dsc).cells, .int .i64 0]) ∧ Below w.heap.size w w' :=
  decode_any 0 1152921504606846983 w (by omega) (by omega)
theorem wkDec2 (w : World) : Calls Try.prog 93 #[.agg #[.int .u64 0, .int .u64 72057594037927936]] w fun e w' => e = .returned (.tuple #[.agg (decD 0 72057594037927936).cells, .int .i64 160]) ∧ Below w.heap.size w w' :=
  decode_any 0 72057594037927936 w (by omega) (by omega)
theorem wkBld (b B : Nat) (w : World) (c : Nat) (ao : Option Addr) (hM : MemAt w b B 4096 (fun _ => 0) []) (hD : DAt w ao 3 fun i => wkL.getD i zDsc) :
    Calls Try.prog 38 #[.pointer (some ⟨b, 0, none⟩), .int .u64 0, .slice ao 3 c] w fun e w' => e = .returned (.tuple #[.agg (⟨4, 0, 48, 0⟩ : Dsc).cells, .int .i64 0]) ∧ Keeps (Two b B) w w' ∧ MemAt w' b B 4096 (upd (fun _ => 0) 0 48 (lstB fun i => wkL.getD i zDsc)) [(0, 48)] := by
  have hg : ∀ i, i < 3 → Good (wkL.getD i zDsc) := by decide
  have h := bld_any 0 ao 3 c b B 4096 (fun _ => 0) [] w hM (by omega) (fun i => wkL.getD i zDsc) hD (fun i hi => by
    obtain rfl | rfl | rfl : i = 0 ∨ i = 1 ∨ i = 2 := by omega
    all_goals exact wkOk _ _ _ _ (by decide) (by decide) (by decide) (by decide)) (by omega) (by omega) (by omega) (by simp)
  refine h.mono ?_
  rintro e w' (⟨⟨i, hi, hn⟩, -⟩ | ⟨-, hn, -⟩ | ⟨-, -, hn, -⟩ | ⟨-, -, -, rfl, hk, hm⟩)
  · exact absurd (hg i hi) hn
  · omega
  · omega
  · exact ⟨rfl, hk, hm⟩
end Go.Proofs.Ytfmabknhfehdcaa
