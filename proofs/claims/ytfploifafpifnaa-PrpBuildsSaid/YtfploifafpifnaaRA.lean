/- prp: the specification's Count and entry; Same; the law's num and spans. -/
import Derived.Test.YtfploifafpifnaaSP
import Derived.Test.YtfploifafpifnaaMS2
namespace Go.Proofs.Ytfploifafpifnaa
set_option linter.unusedVariables false
set_option linter.unusedSimpArgs false
open Go.RowKit

def zRM : Array Value := #[.slice none 0 0, .slice none 0 0]
theorem zeroRM (w : World) : (zeroValue 27).run Try.prog w = .ok (.agg zRM) w := by kernel_rfl
theorem sizeRM : (Try.prog.info? 27).map (·.size) = some 2 := by kernel_rfl
theorem sizeRMz : (Try.prog.info? 27).map (·.size) = some zRM.size := sizeRM
set_option maxHeartbeats 1000000 in
theorem num_any (no : Int) (w : World) : Calls Try.prog 14 #[.int .i64 no] w fun e w' => e = .returned (.int .i64 no) ∧ w = w' := by
  go_enter Try.func14, Try.ntmps14
  go_wp2
  go_ret
  exact ⟨rfl, rfl⟩
set_option maxHeartbeats 1000000 in
theorem rcount_any (a n K : Int) (w : World) (h0 : 0 ≤ a) (h1 : a ≤ 18446744073709551615) (hk : pgs a n = K) :
    Calls Try.prog 33 #[.int .u64 a, .int .i64 n] w fun e w' => e = .returned (.int .i64 K) ∧ w = w' := by
  unfold pgs at hk
  by_cases hn : n < 1
  · rw [if_pos (.inl hn)] at hk
    subst hk
    have q : decide (n < 1) = true := decide_eq_true hn
    go_enter Try.func33, Try.ntmps33
    go_wp2_with fail
    go_ret
    exact ⟨rfl, rfl⟩
  · have q : decide (n < 1) = false := decide_eq_false hn
    by_cases hn2 : 1048576 < n
    · rw [if_pos (.inr hn2)] at hk
      subst hk
      have q2 : decide (1048576 < n) = true := decide_eq_true hn2
      go_enter Try.func33, Try.ntmps33
      go_wp2_with fail
      go_ret
      exact ⟨rfl, rfl⟩
    · rw [if_neg (by omega)] at hk
      have q2 : decide (1048576 < n) = false := decide_eq_false hn2
      have HK := Lib.hid hk
      clear hk
      have b0 : 0 ≤ a % 4096 := by omega
      have b1 : a % 4096 < 4096 := by omega
      go_enter Try.func33, Try.ntmps33
      go_wp2_with fail
      go_ret
      exact ⟨by rw [← HK.out]; rfl, rfl⟩
section
variable (MC : Array Value) (size : Nat) (f : Nat → Int) (L : List (Nat × Nat)) (S : Nat → Prop) (a : Int) (w : World) (hM : RefAt S w (.agg MC) size f L) (hsz : size ≤ 4194304) (h2 : MC.size = 2) (ha0 : 0 ≤ a) (ha1 : a ≤ 18446744073709551615)
include hM hsz h2 ha0 ha1
set_option maxRecDepth 100000 in
set_option maxHeartbeats 2000000 in
theorem entry_bad (no : Int) (hc : chk size a 8 = no) (hne : no ≠ 0) :
    Calls Try.prog 48 #[.agg MC, .int .u64 a] w fun e w' => e = .returned (.tuple #[.int .u64 0, .int .i64 no]) ∧ Below w.heap.size w w' := by
  obtain ⟨W1, hW1⟩ : ∃ z, z = w.alloc (.cells MC 27) := ⟨_, rfl⟩
  have hb1 : Below w.heap.size w W1 := by rw [hW1]; exact (Below.refl _ _).alloc (Nat.le_refl _) _
  have HA := Lib.hid (show ArrAt W1 w.heap.size MC by rw [hW1]; exact ArrAt.fresh w MC _ (by omega))
  have HSZ := Lib.hid (show (Try.prog.info? 27).map (·.size) = some MC.size by rw [h2]; exact sizeRM)
  have HRD := Lib.hid (show Calls Try.prog 55 #[.agg MC, .int .u64 a, .int .i64 8] W1 fun e w' => e = .returned (.tuple #[.slice none 0 0, .int .i64 no]) ∧ Below W1.heap.size W1 w' by
    rw [← hc]
    exact rread_err S (.agg MC) size f L a 8 W1 (hM.below hb1) hsz ha0 ha1 (by omega) (by omega) (by rw [hc]; exact bne_iff_ne.2 hne))
  have HB1 := Lib.hid hb1
  have HW1 := Lib.hid hW1
  clear hM hsz h2 hc hne hb1 hW1
  go_enter Try.func48, Try.ntmps48
  go_upto_region 1 with fail
  rw [← HW1.out]
  go_wp2_with (first
    | ((with_reducible show wpList _ _ _ (⟨some 11, _, _, _, _, _⟩ :: _) _ _); refine wpList_loadA rfl HA.out 27 (.tmp 2) rfl (by first | rfl | simp [Act.eval, Act.put]) Try.underlying27 rfl HSZ.out ?_)
    | (go_at_call 55; refine HRD.out.mono ?_; rintro e w2 ⟨rfl, hb⟩; have HB2 := Lib.hid (HB1.out.trans (hb.mono HB1.out.size)); clear hb))
  refine wp_loop_rounds 2 ?_
  rw [rounds_succ]
  go_wp2_with fail
  go_ret2
  exact ⟨rfl, HB2.out⟩
set_option maxRecDepth 100000 in
set_option maxHeartbeats 2000000 in
theorem entry_ok (hby : Bytes f) (hc : chk size a 8 = 0) :
    Calls Try.prog 48 #[.agg MC, .int .u64 a] w fun e w' => e = .returned (.tuple #[.int .u64 (wrd f a), .int .i64 0]) ∧ Below w.heap.size w w' := by
  obtain ⟨h0, h8⟩ := chk_ok hc
  obtain ⟨an, rfl⟩ : ∃ an : Nat, a = (an : Int) := ⟨a.toNat, by omega⟩
  obtain ⟨W1, hW1⟩ : ∃ z, z = w.alloc (.cells MC 27) := ⟨_, rfl⟩
  have hb1 : Below w.heap.size w W1 := by rw [hW1]; exact (Below.refl _ _).alloc (Nat.le_refl _) _
  have HA := Lib.hid (show ArrAt W1 w.heap.size MC by rw [hW1]; exact ArrAt.fresh w MC _ (by omega))
  have HSZ := Lib.hid (show (Try.prog.info? 27).map (·.size) = some MC.size by rw [h2]; exact sizeRM)
  have HRD := Lib.hid (show Calls Try.prog 55 #[.agg MC, .int .u64 (an : Nat), .int .i64 8] W1 fun e w' => ∃ sv, e = .returned (.tuple #[sv, .int .i64 0]) ∧ NewBytes W1.heap.size w' sv 8 (fun i => f (an + i)) ∧ Below W1.heap.size W1 w' from rread_ok S (.agg MC) size f L an 8 W1 (hM.below hb1) hsz (by omega))
  obtain ⟨F, hF⟩ : ∃ F : Nat → Int, F = fun i => f (an + i) := ⟨_, rfl⟩
  have HWR := Lib.hid (show wrd f (an : Int) = hz F 7 8 by rw [hF]; rfl)
  have HBY := Lib.hid (show Bytes F by rw [hF]; exact fun j => hby _)
  rw [← hF] at HRD
  rw [HWR.out]
  have HB1 := Lib.hid hb1
  have HW1 := Lib.hid hW1
  clear hM hsz h2 hc hb1 hW1 hF hby HWR
  go_enter Try.func48, Try.ntmps48
  go_upto_region 1 with fail
  rw [← HW1.out]
  go_wp2_with (first
    | ((with_reducible show wpList _ _ _ (⟨some 11, _, _, _, _, _⟩ :: _) _ _); refine wpList_loadA rfl HA.out 27 (.tmp 2) rfl (by first | rfl | simp [Act.eval, Act.put]) Try.underlying27 rfl HSZ.out ?_)
    | (go_at_call 55; refine HRD.out.mono ?_; rintro e w2 ⟨sv, rfl, ⟨g, cap, G, rfl, hg, hr, hc1, hc2, hG⟩, hb⟩; have HB2 := Lib.hid (HB1.out.trans (hb.mono HB1.out.size)); have HX := Lib.hid hr; have HY := Lib.hid hG; clear hb hr hG))
  go_loop [8, 9] (fun v i => ∃ k : Nat, k ≤ 8 ∧ i = .int .i64 (7 - (k : Int)) ∧ v = .int .u64 (hz F 7 k)) (fun _ i => (intOf i + 1).toNat)
  case atStart => exact ⟨0, by omega, rfl, rfl⟩
  case round =>
    obtain ⟨k, hk, rfl, rfl⟩ := hrel
    by_cases hk8 : k < 8
    · have q : decide (0 ≤ 7 - (k : Int)) = true := decide_eq_true (by omega)
      obtain ⟨j, hj⟩ : ∃ j : Nat, j = 7 - k := ⟨_, rfl⟩
      have ej : (7 - (k : Int)) = (j : Int) := by omega
      have hj8 : j < 8 := by omega
      have c0 : w2.cell? ⟨g, j, none⟩ = some (.int .u8 (F j)) := by rw [HX.out.cell (by omega), HY.out j hj8]
      obtain ⟨y0, y1⟩ := HBY.out j
      obtain ⟨v0, v1⟩ := hz_bd HBY.out 7 k
      have p7 := pow256_le (k := k) (by omega)
      have HS := Lib.hid (show hz F 7 (k + 1) = hz F 7 k * 256 + F j by rw [hj]; rfl)
      obtain ⟨x, hx⟩ : ∃ x, x = hz F 7 k := ⟨_, rfl⟩
      rw [← hx] at HS v0 v1 ⊢
      obtain ⟨z, hzz⟩ : ∃ z, z = F j := ⟨_, rfl⟩
      rw [← hzz] at HS c0 y0 y1
      have v2 : x ≤ 72057594037927935 := by omega
      have HEJ := Lib.hid ej
      rw [ej] at q ⊢
      clear hj hx hzz v1 p7 ej
      go_wp2_with fail
      go_round
      case rel => exact ⟨k + 1, by omega, by rw [show (j : Int) - 1 = 7 - ((k + 1 : Nat) : Int) by have := HEJ.out; omega], by rw [HS.out]⟩
      case measure => simp [intOf]
    · obtain rfl : k = 8 := by omega
      go_wp2_with fail
      go_ret2
      exact ⟨rfl, HB2.out⟩
end
set_option maxRecDepth 100000 in
set_option maxHeartbeats 2000000 in
theorem same_ok (ao bo : Option Addr) (l : List Spn) (c c2 : Nat) (w : World) (ha : SpAt w ao l) (hb : SpAt w bo l) (hl : l.length ≤ 9223372036854775807) :
    Calls Try.prog 46 #[.slice ao l.length c, .slice bo l.length c2] w fun e w' => e = .returned (.bool true) ∧ Below w.heap.size w w' := by
  obtain ⟨n, hn⟩ : ∃ n, n = l.length := ⟨_, rfl⟩
  have q1 : ((n : Int) != (n : Int)) = false := by simp
  have HAA := Lib.hid ha
  have HBB := Lib.hid hb
  rw [← hn] at hl ⊢
  have HN := Lib.hid hn
  clear ha hb hn
  go_enter Try.func46, Try.ntmps46
  go_wp2_with fail
  go_loopw [5] (fun i wr => ∃ k : Nat, k ≤ n ∧ i = .int .i64 (k : Nat) ∧ Below w.heap.size w wr) (fun i _ => n - (intOf i).toNat)
  case atStart => exact ⟨0, by omega, rfl, Below.refl _ _⟩
  case round =>
    obtain ⟨k, hk, rfl, hW⟩ := hrel
    have HW := Lib.hid hW
    clear hW
    by_cases hkn : k < n
    · have q3 : decide ((k : Int) < (n : Int)) = true := decide_eq_true (by omega)
      obtain ⟨ag, oa, rfl, hra⟩ := HAA.out k (by rw [← HN.out]; exact hkn)
      obtain ⟨bg, ob, rfl, hrb⟩ := HBB.out k (by rw [← HN.out]; exact hkn)
      have hla0 := HAA.out.lt (by rw [← HN.out]; omega)
      have hlb0 := HBB.out.lt (by rw [← HN.out]; omega)
      have hla : ag < wr.heap.size := Nat.lt_of_lt_of_le hla0 HW.out.size
      have hlb : bg < wr.heap.size := Nat.lt_of_lt_of_le hlb0 HW.out.size
      obtain ⟨X, hX⟩ : ∃ X : Array Value, X.toList = (l[k]'(by rw [← HN.out]; exact hkn)).l := ⟨⟨_⟩, rfl⟩
      have HSZ := Lib.hid (show (Try.prog.info? 49).map (·.size) = some X.size by rw [← Array.length_toList, hX]; exact sizeSp)
      have HNQ := Lib.hid (show ∀ w, (binOp .neq 49 (.agg X) (.agg X)).run Try.prog w = .ok (.bool false) w from fun w => by
        have e : X = ⟨(l[k]'(by rw [← HN.out]; exact hkn)).l⟩ := by rw [← hX]
        rw [e]; exact neqSp _ _ _ w)
      have HEQ := Lib.hid (show ∀ w, (Op.equalIn 10000 49 (.agg X) (.agg X)).run Try.prog w = .ok true w from fun w => by
        have e : X = ⟨(l[k]'(by rw [← HN.out]; exact hkn)).l⟩ := by rw [← hX]
        rw [e]; exact eqSp _ _ _ w)
      rw [← hX] at hra hrb
      have HRA := Lib.hid (rangeAt_below hra HW.out hla0)
      have HRB := Lib.hid (rangeAt_below hrb HW.out hlb0)
      clear hX hra hrb hla0 hlb0
      go_upto_region 6 with fail
      refine wp_region_held_drew (S := fun w' => Below wr.heap.size wr w') (by kernel_rfl) ((Below.refl _ wr).drew) (fun hS0 => ?_)
      refine takeD 17 (i := 0) (v := .slice (some ⟨ag, oa, none⟩) n c) rfl rfl (by kernel_rfl) (by kernel_rfl) (by kernel_rfl) (fun _ _ _ h => h) (Or.inl ⟨by rfl, by (intro w' _; go_simp)⟩) (by assumption) ?_
      try simp only [Act.put, List.setIfInBounds_toArray, List.set_cons_zero, List.set_cons_succ]
      refine takeD 18 (i := 1) (v := .int .i64 (k : Nat)) rfl rfl (by kernel_rfl) (by kernel_rfl) (by kernel_rfl) (fun _ _ _ h => h) (Or.inl ⟨by rfl, by (intro w' _; go_simp)⟩) (by assumption) ?_
      try simp only [Act.put, List.setIfInBounds_toArray, List.set_cons_zero, List.set_cons_succ]
      refine takeD 19 (i := 2) (v := .pointer (some ⟨ag, oa + k * 3, none⟩)) rfl rfl (by kernel_rfl) (by kernel_rfl) (by kernel_rfl) (fun _ _ _ h => h) (Or.inl ⟨by rfl, by (intro w' _; go_simp)⟩) (by assumption) ?_
      try simp only [Act.put, List.setIfInBounds_toArray, List.set_cons_zero, List.set_cons_succ]
      refine takeD 20 (i := 3) (v := .agg X) rfl rfl (by kernel_rfl) (by kernel_rfl) (by kernel_rfl) (fun _ _ _ h => h) (yieldsR (by rfl) 49 (.tmp 19) rfl (ag) (oa + k * 3) (by first | rfl | simp [Act.eval, Act.put]) X (fun w h => (rangeAt_below HRA.out h hla)) Try.underlying49 rfl HSZ.out) (by assumption) ?_
      try simp only [Act.put, List.setIfInBounds_toArray, List.set_cons_zero, List.set_cons_succ]
      refine takeD 21 (i := 4) (v := .slice (some ⟨bg, ob, none⟩) n c2) rfl rfl (by kernel_rfl) (by kernel_rfl) (by kernel_rfl) (fun _ _ _ h => h) (Or.inl ⟨by rfl, by (intro w' _; go_simp)⟩) (by assumption) ?_
      try simp only [Act.put, List.setIfInBounds_toArray, List.set_cons_zero, List.set_cons_succ]
      refine takeD 22 (i := 5) (v := .int .i64 (k : Nat)) rfl rfl (by kernel_rfl) (by kernel_rfl) (by kernel_rfl) (fun _ _ _ h => h) (Or.inl ⟨by rfl, by (intro w' _; go_simp)⟩) (by assumption) ?_
      try simp only [Act.put, List.setIfInBounds_toArray, List.set_cons_zero, List.set_cons_succ]
      refine takeD 23 (i := 6) (v := .pointer (some ⟨bg, ob + k * 3, none⟩)) rfl rfl (by kernel_rfl) (by kernel_rfl) (by kernel_rfl) (fun _ _ _ h => h) (Or.inl ⟨by rfl, by (intro w' _; go_simp)⟩) (by assumption) ?_
      try simp only [Act.put, List.setIfInBounds_toArray, List.set_cons_zero, List.set_cons_succ]
      refine takeD 24 (i := 7) (v := .agg X) rfl rfl (by kernel_rfl) (by kernel_rfl) (by kernel_rfl) (fun _ _ _ h => h) (yieldsR (by rfl) 49 (.tmp 23) rfl (bg) (ob + k * 3) (by first | rfl | simp [Act.eval, Act.put]) X (fun w h => (rangeAt_below HRB.out h hlb)) Try.underlying49 rfl HSZ.out) (by assumption) ?_
      try simp only [Act.put, List.setIfInBounds_toArray, List.set_cons_zero, List.set_cons_succ]
      refine takeD 25 (i := 8) (v := .bool false) rfl rfl (by kernel_rfl) (by kernel_rfl) (by kernel_rfl) (fun _ _ _ h => h) (Or.inl ⟨by rfl, by (intro w' _; exact exec_neq 49 (.tmp 20) (.tmp 24) _ rfl _ _ rfl rfl (guardSp _ _ _ _ _) (HNQ.out w'))⟩) (by assumption) ?_
      try simp only [Act.put, List.setIfInBounds_toArray, List.set_cons_zero, List.set_cons_succ]
      refine wpAnyH_done (by kernel_rfl) ?_ _
      go_wp2_with fail
      go_roundw
      case rel =>
        first
          | exact ⟨k + 1, by omega, by go_num, HW.out.drew⟩
          | ((repeat apply Exists.intro); exact ⟨⟨k + 1, by omega, by go_num, HW.out.drew⟩, rfl⟩)
      case measure => simp [intOf]; omega
    · obtain rfl : k = n := by omega
      have q3 : decide ((k : Int) < (k : Int)) = false := decide_eq_false (by omega)
      go_wp2_with fail
      go_ret
      exact ⟨rfl, HW.out⟩

set_option maxRecDepth 100000 in
set_option maxHeartbeats 2000000 in
theorem spansL_of (p : Option Addr) (x y m no : Int) (R : Except Int (List Spn)) (ao : Option Addr) (n c : Nat) (w : World)
    (hsp : Calls Try.prog 16 #[.pointer p, .int .u64 x, .int .u64 y, .int .i64 m] w (SpPost w R)) (hW : SpW R no n ao w) :
    Calls Try.prog 20 #[.pointer p, .int .u64 x, .int .u64 y, .int .i64 m, .int .i64 no, .slice ao n c] w fun e w' => e = .returned (.bool true) ∧ Below w.heap.size w w' := by
  have HSP := Lib.hid hsp
  have HWW := Lib.hid hW
  clear hsp hW
  go_enter Try.func20, Try.ntmps20
  cases R with
  | error e =>
    obtain ⟨rfl, rfl⟩ := HWW.out
    have q : (e == e) = true := by simp
    go_wp2_with (first
      | (go_at_call 16; refine HSP.out.mono ?_; rintro e2 w1 ⟨hb1, rfl⟩; have B1 := Lib.hid hb1; clear hb1)
      | (go_at_call 46; refine (same_ok none ao [] 0 c _ (SpAt.nil _ _) (SpAt.nil _ _) (by simp)).mono ?_; rintro e3 w2 ⟨rfl, hb2⟩; have B2 := Lib.hid hb2; clear hb2)
      | (go_at_call 14; refine (num_any _ _).mono ?_; rintro e3 w3 ⟨rfl, rfl⟩))
    go_ret
    exact ⟨by simp, B1.out.trans (B2.out.mono B1.out.size)⟩
  | ok l =>
    obtain ⟨rfl, rfl, hl, hsa⟩ := HWW.out
    have HSA := Lib.hid hsa
    have HL := Lib.hid hl
    clear hsa hl HWW
    go_wp2_with (first
      | (go_at_call 16; refine HSP.out.mono ?_; rintro e2 w1 ⟨hb1, v, rfl, hown⟩; obtain ⟨aw, cw, rfl, -⟩ := ownsRow_shape hown; have B1 := Lib.hid hb1; have HOW := Lib.hid (spAt_owns hown); clear hb1 hown)
      | (go_at_call 46; refine (same_ok aw ao l cw c _ HOW.out (HSA.out.below B1.out) HL.out).mono ?_; rintro e3 w2 ⟨rfl, hb2⟩; have B2 := Lib.hid hb2; clear hb2)
      | (go_at_call 14; refine (num_any _ _).mono ?_; rintro e3 w3 ⟨rfl, rfl⟩))
    go_ret
    exact ⟨by simp, B1.out.trans (B2.out.mono B1.out.size)⟩
end Go.Proofs.Ytfploifafpifnaa
