/- prp: must: Contains of any number of conditions; a panic. -/
import Derived.Test.YtfmabknhfehdcaaQN6
import Derived.Laws.BitsAllLaws
import Derived.Test.YtfmabknhfehdcaaQN7
import Derived.Defers
import Derived.Recover
import Derived.Test.YtfmabknhfehdcaaQN12
namespace Go.Proofs.Ytfmabknhfehdcaa
set_option linter.unusedVariables false
set_option linter.unusedSimpArgs false
open Go.RowKit

/-- n conditions lie in a row -/
def Conds (w : World) (b n : Nat) (F : Nat → Bool) : Prop := ∀ i, i < n → w.cell? ⟨b, i, none⟩ = some (.bool (F i))
/-- where the first false condition is found -/
def IdxPost (n : Nat) (F : Nat → Bool) (w : World) (e : Ending) (w' : World) : Prop := ∃ r : Int, e = .returned (.int .i64 r) ∧ (((∀ i, i < n → F i = true) ∧ r = -1) ∨ ((∃ i, i < n ∧ F i = false) ∧ 0 ≤ r)) ∧ w = w'

set_option maxRecDepth 100000 in
set_option maxHeartbeats 1000000 in
theorem index_conds (b n c : Nat) (F : Nat → Bool) (w : World) (h : Conds w b n F) (hn : n ≤ 1000) :
   Calls Try.prog 95 #[.slice (some ⟨b, 0, none⟩) n c, .bool false] w (IdxPost n F w) := by
  have H := Lib.hid h
  clear h
  go_enter Try.func95, Try.ntmps95
  go_wp2_with fail
  go_loop [8] (fun i => ∃ k : Nat, k ≤ n ∧ i = .int .i64 (k : Nat) ∧ ∀ j, j < k → F j = true) (fun i => n - (intOf i).toNat)
  case atStart => exact ⟨0, Nat.zero_le _, rfl, fun j h => by omega⟩
  case round =>
    obtain ⟨k, hk, rfl, hF⟩ := hrel
    have HF := Lib.hid hF
    clear hF
    by_cases hkn : k < n
    · have q : decide ((k : Int) < (n : Int)) = true := decide_eq_true (by omega)
      have c0 : w.cell? ⟨b, k, none⟩ = some (.bool (F k)) := H.out k hkn
      cases hf : F k with
      | true =>
        rw [hf] at c0
        have HFK := Lib.hid hf
        clear hf
        go_wp2_with fail
        go_round
        case rel =>
          refine ⟨k + 1, by omega, by go_num, fun j hj => ?_⟩
          rcases Nat.lt_or_ge j k with h | h
          · exact HF.out j h
          · obtain rfl : j = k := by omega
            exact HFK.out
        case measure => simp [intOf]; omega
      | false =>
        rw [hf] at c0
        have HFK := Lib.hid hf
        clear hf
        go_wp2_with fail
        go_ret
        exact ⟨k, rfl, .inr ⟨⟨k, hkn, HFK.out⟩, by omega⟩, rfl⟩
    · have q : decide ((k : Int) < (n : Int)) = false := decide_eq_false (by omega)
      go_wp2_with fail
      go_ret
      exact ⟨-1, rfl, .inl ⟨fun i hi => HF.out i (by omega), rfl⟩, rfl⟩
set_option maxRecDepth 100000 in
set_option maxHeartbeats 1000000 in
theorem contains_conds (b n c : Nat) (F : Nat → Bool) (r : Bool) (hr : (r = false ∧ ∀ i, i < n → F i = true) ∨ (r = true ∧ ∃ i, i < n ∧ F i = false)) (w : World) (h : Conds w b n F) (hn : n ≤ 1000) :
   Calls Try.prog 86 #[.slice (some ⟨b, 0, none⟩) n c, .bool false] w fun e w' => e = .returned (.bool r) ∧ w = w' := by
  have H := Lib.hid h
  have HR := Lib.hid hr
  clear h hr
  go_enter Try.func86, Try.ntmps86
  go_upto_region 1 with fail
  have hd : ∀ z : Int, ((∀ i, i < n → F i = true) ∧ z = -1) ∨ ((∃ i, i < n ∧ F i = false) ∧ 0 ≤ z) → decide (0 ≤ z) = r := fun z hz => by
    rcases HR.out with ⟨rfl, ha⟩ | ⟨rfl, i, hi, hf⟩
    · rcases hz with ⟨-, rfl⟩ | ⟨⟨i, hi, hf⟩, -⟩
      · rfl
      · rw [ha i hi] at hf; cases hf
    · rcases hz with ⟨ha, -⟩ | ⟨-, h0⟩
      · rw [ha i hi] at hf; cases hf
      · exact decide_eq_true h0
  have HD := Lib.hid hd
  clear hd
  go_wp2_with (go_at_call 95; refine (index_conds b n c F _ H.out hn).mono ?_; rintro e w' ⟨z, rfl, hz, rfl⟩; have q := HD.out z hz; clear hz)
  go_ret
  exact ⟨rfl, rfl⟩
section
variable (no : Int) (b n c : Nat) (F : Nat → Bool) (w : World) (h : Conds w b n F) (hn : n ≤ 1000) (hc : n ≤ c)
include h hn hc
set_option maxRecDepth 100000 in
set_option maxHeartbeats 1000000 in
theorem must_row_ok (hr : ∀ i, i < n → F i = true) :
   Calls Try.prog 61 #[.int .i64 no, .slice (some ⟨b, 0, none⟩) n c] w fun e w' => e = .returned (.tuple #[]) ∧ w = w' := by
  have H := Lib.hid h
  have HR := Lib.hid hr
  clear h hr
  go_enter Try.func61, Try.ntmps61
  go_wp2_with (go_at_call 86; refine (contains_conds b n _ F false (.inl ⟨rfl, HR.out⟩) _ H.out hn).mono ?_; rintro e w' ⟨rfl, rfl⟩)
  go_end0
  exact ⟨rfl, rfl⟩
set_option maxRecDepth 100000 in
set_option maxHeartbeats 1000000 in
theorem must_row_bad (hr : ∃ i, i < n ∧ F i = false) :
   Calls Try.prog 61 #[.int .i64 no, .slice (some ⟨b, 0, none⟩) n c] w fun e w' => e = .panicked [pan no] ∧ w = w' := by
  have H := Lib.hid h
  have HR := Lib.hid hr
  clear h hr
  go_enter Try.func61, Try.ntmps61
  go_wp2_with (go_at_call 86; refine (contains_conds b n _ F true (.inr ⟨rfl, HR.out⟩) _ H.out hn).mono ?_; rintro e w' ⟨rfl, rfl⟩)
  exact ⟨rfl, rfl, rfl⟩
end
theorem conds_alloc (w : World) (l : List Bool) : Conds (w.alloc (.cells (l.map Value.bool).toArray 4)) w.heap.size l.length fun i => l.getD i false := fun i hi => by
  rw [World.cell?_alloc_new]
  simp [hi]
theorem must1_ok (no : Int) (w : World) : Calls Try.prog 61 #[.int .i64 no, .slice (some ⟨w.heap.size, 0, none⟩) 1 1] (w.alloc (.cells #[.bool true] 4)) fun e w' => e = .returned (.tuple #[]) ∧ w.alloc (.cells #[.bool true] 4) = w' :=
  must_row_ok no w.heap.size 1 1 _ _ (conds_alloc w [true]) (by omega) (by omega) (fun i hi => by
    match i, hi with
    | 0, _ => rfl)
theorem must1_bad (no : Int) (w : World) : Calls Try.prog 61 #[.int .i64 no, .slice (some ⟨w.heap.size, 0, none⟩) 1 1] (w.alloc (.cells #[.bool false] 4)) fun e w' => e = .panicked [pan no] ∧ w.alloc (.cells #[.bool false] 4) = w' :=
  must_row_bad no w.heap.size 1 1 _ _ (conds_alloc w [false]) (by omega) (by omega) ⟨0, by omega, rfl⟩
theorem must2_ok (no : Int) (w : World) : Calls Try.prog 61 #[.int .i64 no, .slice (some ⟨w.heap.size, 0, none⟩) 2 2] (w.alloc (.cells #[.bool true, .bool true] 4)) fun e w' => e = .returned (.tuple #[]) ∧ w.alloc (.cells #[.bool true, .bool true] 4) = w' :=
  must_row_ok no w.heap.size 2 2 _ _ (conds_alloc w [true, true]) (by omega) (by omega) (fun i hi => by
    match i, hi with
    | 0, _ => rfl
    | 1, _ => rfl)
theorem must2_bad (no : Int) (x y : Bool) (h : x = false ∨ y = false) (w : World) : Calls Try.prog 61 #[.int .i64 no, .slice (some ⟨w.heap.size, 0, none⟩) 2 2] (w.alloc (.cells #[.bool x, .bool y] 4)) fun e w' => e = .panicked [pan no] ∧ w.alloc (.cells #[.bool x, .bool y] 4) = w' :=
  must_row_bad no w.heap.size 2 2 _ _ (conds_alloc w [x, y]) (by omega) (by omega) (h.elim (fun e => ⟨0, by simp, e⟩) (fun e => ⟨1, by simp, e⟩))
theorem must5_ok (no : Int) (w : World) : Calls Try.prog 61 #[.int .i64 no, .slice (some ⟨w.heap.size, 0, none⟩) 5 5] (w.alloc (.cells #[.bool true, .bool true, .bool true, .bool true, .bool true] 4)) fun e w' => e = .returned (.tuple #[]) ∧ w.alloc (.cells #[.bool true, .bool true, .bool true, .bool true, .bool true] 4) = w' :=
  must_row_ok no w.heap.size 5 5 _ _ (conds_alloc w [true, true, true, true, true]) (by omega) (by omega) (fun i hi => by
    match i, hi with
    | 0, _ => rfl
    | 1, _ => rfl
    | 2, _ => rfl
    | 3, _ => rfl
    | 4, _ => rfl)
theorem must5_bad (no : Int) (a b c d f : Bool) (h : a = false ∨ b = false ∨ c = false ∨ d = false ∨ f = false) (w : World) : Calls Try.prog 61 #[.int .i64 no, .slice (some ⟨w.heap.size, 0, none⟩) 5 5] (w.alloc (.cells #[.bool a, .bool b, .bool c, .bool d, .bool f] 4)) fun e w' => e = .panicked [pan no] ∧ w.alloc (.cells #[.bool a, .bool b, .bool c, .bool d, .bool f] 4) = w' :=
  must_row_bad no w.heap.size 5 5 _ _ (conds_alloc w [a, b, c, d, f]) (by omega) (by omega) (by
    rcases h with e | e | e | e | e
    · exact ⟨0, by simp, e⟩
    · exact ⟨1, by simp, e⟩
    · exact ⟨2, by simp, e⟩
    · exact ⟨3, by simp, e⟩
    · exact ⟨4, by simp, e⟩)
end Go.Proofs.Ytfmabknhfehdcaa

namespace Go.Proofs.Ytfmabknhfehdcaa
open Go.RowKit

/-- a number of n bytes -/
def le (B : Nat → Int) (p : Nat) : Nat → Int
  | 0 => 0
  | k + 1 => le B p k + B (p + k) * 2 ^ (8 * k)
theorem le_bd {B : Nat → Int} (hB : ∀ j, 0 ≤ B j ∧ B j ≤ 255) (p k : Nat) : 0 ≤ le B p k ∧ le B p k < 2 ^ (8 * k) := by
  induction k with
  | zero => exact ⟨by simp [le], by simp [le]⟩
  | succ k ih =>
    obtain ⟨h1, h2⟩ := ih
    obtain ⟨b1, b2⟩ := hB (p + k)
    have hp : (0 : Int) < 2 ^ (8 * k) := Int.pow_pos (by omega)
    have e : (2 : Int) ^ (8 * (k + 1)) = 2 ^ (8 * k) * 256 := by rw [Nat.mul_add, Int.pow_add]; rfl
    have m1 : 0 ≤ B (p + k) * 2 ^ (8 * k) := Int.mul_nonneg b1 (Int.le_of_lt hp)
    have m2 : B (p + k) * 2 ^ (8 * k) ≤ 255 * 2 ^ (8 * k) := Int.mul_le_mul_of_nonneg_right b2 (Int.le_of_lt hp)
    unfold le
    rw [e]
    omega

theorem or_step (x y : Int) (k : Nat) (hx : 0 ≤ x) (hx' : x < 2 ^ (8 * k)) (hy : 0 ≤ y) (hy' : y ≤ 255) (hk : k < 8) :
    bits .or .u64 x (y * 2 ^ (8 * k)) = x + y * 2 ^ (8 * k) ∧ 0 ≤ y * 2 ^ (8 * k) ∧ y * 2 ^ (8 * k) ≤ 18446744073709551615 := by
  have hp : (0 : Int) < 2 ^ (8 * k) := Int.pow_pos (by omega)
  have hq : (2 : Int) ^ (8 * k) ≤ 72057594037927936 := by
    have h : k = 0 ∨ k = 1 ∨ k = 2 ∨ k = 3 ∨ k = 4 ∨ k = 5 ∨ k = 6 ∨ k = 7 := by omega
    rcases h with rfl | rfl | rfl | rfl | rfl | rfl | rfl | rfl <;> simp
  have m1 : 0 ≤ y * 2 ^ (8 * k) := Int.mul_nonneg hy (Int.le_of_lt hp)
  have m2 : y * 2 ^ (8 * k) ≤ 255 * 2 ^ (8 * k) := Int.mul_le_mul_of_nonneg_right hy' (Int.le_of_lt hp)
  refine ⟨?_, m1, by omega⟩
  obtain ⟨a, rfl⟩ := Int.eq_ofNat_of_zero_le hx
  obtain ⟨b, rfl⟩ := Int.eq_ofNat_of_zero_le hy
  have e : (b : Int) * 2 ^ (8 * k) = ((b <<< (8 * k) : Nat) : Int) := by rw [Nat.shiftLeft_eq]; push_cast; rfl
  rw [e] at m1 m2 ⊢
  have ha : a < 2 ^ (8 * k) := by
    have : ((a : Nat) : Int) < ((2 ^ (8 * k) : Nat) : Int) := by push_cast; exact hx'
    exact Int.ofNat_lt.1 this
  rw [u64_or _ _ (by omega) (by omega) (by omega) (by omega)]
  have h := Nat.shiftLeft_add_eq_or_of_lt ha b
  rw [Nat.or_comm] at h
  simp only [Int.toNat_natCast]
  omega

set_option maxRecDepth 100000 in
set_option maxHeartbeats 2000000 in
theorem get_ok (g o n c : Nat) (B : Nat → Int) (w : World) (hB : ∀ j, 0 ≤ B j ∧ B j ≤ 255) (h1 : 1 ≤ n) (h8 : n ≤ 8) (hc : ∀ j, j < n → w.cell? ⟨g, o + j, none⟩ = some (.int .u8 (B (o + j)))) :
   Calls Try.prog 109 #[.slice (some ⟨g, o, none⟩) n c] w fun e w' => e = .returned (.tuple #[.int .u64 (le B o n), .int .i64 0]) ∧ w = w' := by
  have HB := Lib.hid hB
  have HC := Lib.hid hc
  clear hB hc
  have d1 : decide (n < 1) = false := by simp; omega
  have d2 : decide (8 < n) = false := by simp; omega
  have d3 : decide ((n : Int) < 1) = false := by simp; omega
  have d4 : decide (8 < (n : Int)) = false := by simp; omega
  go_enter Try.func109, Try.ntmps109
  go_wp2_with fail
  go_loop [2, 4, 5, 16] (fun v _ _ i => ∃ k : Nat, k ≤ n ∧ i = .int .i64 k ∧ v = .int .u64 (le B o k)) (fun _ _ _ i => n - (intOf i).toNat)
  case atStart => exact ⟨0, Nat.zero_le _, rfl, rfl⟩
  case round =>
    obtain ⟨k, hk, rfl, rfl⟩ := hrel
    by_cases hlt : k < n
    · have c0 := HC.out k hlt
      obtain ⟨b1, b2⟩ := HB.out (o + k)
      obtain ⟨x1, x2⟩ := le_bd HB.out o k
      obtain ⟨s1, s2, s3⟩ := or_step (le B o k) (B (o + k)) k x1 x2 b1 b2 (by omega)
      have e4 : IntKind.i64.wrap (8 * (k : Int)) = 8 * (k : Int) := IntWalk.i64_in _ (by omega)
      have HS : Hid (le B o (k + 1) = le B o k + B (o + k) * 2 ^ (8 * k)) := Lib.hid rfl
      obtain ⟨x, hx⟩ : ∃ x, x = le B o k := ⟨_, rfl⟩
      obtain ⟨b, hb⟩ : ∃ b, b = B (o + k) := ⟨_, rfl⟩
      rw [← hx] at HS s1 x1 x2 ⊢
      rw [← hb] at HS s1 s2 s3 b1 b2 c0
      clear hx hb
      go_wp2_with fail
      go_round
      case rel => exact ⟨k + 1, by omega, by go_num, by rw [HS.out]⟩
      case measure => simp [intOf]; omega
    · obtain rfl : n = k := by omega
      go_wp2_with fail
      go_ret2
      exact ⟨rfl, rfl⟩

end Go.Proofs.Ytfmabknhfehdcaa

namespace Go.Proofs.Ytfmabknhfehdcaa
open Go.RowKit

set_option maxHeartbeats 1000000 in
theorem aligned_any (a u : Int) (r : Bool) (w : World) (h0 : 0 ≤ a) (h1 : a ≤ 18446744073709551615) (hu : 0 < u) (hu2 : u ≤ 4096) (hr : (a % u == 0) = r) :
    Calls Try.prog 89 #[.int .u64 a, .int .i64 u] w fun e w' => e = .returned (.bool r) ∧ w = w' := by
  have hr' : (a.tmod u == 0) = r := by rw [Int.tmod_eq_emod_of_nonneg h0]; exact hr
  have hne : (u == 0) = false := beq_eq_false_iff_ne.2 (by omega)
  go_enter Try.func89, Try.ntmps89
  go_wp2_with fail
  go_ret
  exact ⟨rfl, rfl⟩
set_option maxHeartbeats 1000000 in
theorem count_any (a n K : Int) (w : World) (h0 : 0 ≤ a) (h1 : a ≤ 18446744073709551615) (hk : pgs a n = K) :
    Calls Try.prog 67 #[.int .u64 a, .int .i64 n] w fun e w' => e = .returned (.int .i64 K) ∧ w = w' := by
  unfold pgs at hk
  by_cases hn : n < 1
  · rw [if_pos (.inl hn)] at hk
    subst hk
    have q : decide (n < 1) = true := decide_eq_true hn
    go_enter Try.func67, Try.ntmps67
    go_wp2_with fail
    go_ret
    exact ⟨rfl, rfl⟩
  · have q : decide (n < 1) = false := decide_eq_false hn
    by_cases hn2 : 1048576 < n
    · rw [if_pos (.inr hn2)] at hk
      subst hk
      have q2 : decide (1048576 < n) = true := decide_eq_true hn2
      go_enter Try.func67, Try.ntmps67
      go_wp2_with fail
      go_ret
      exact ⟨rfl, rfl⟩
    · rw [if_neg (by omega)] at hk
      have q2 : decide (1048576 < n) = false := decide_eq_false hn2
      have HK := Lib.hid hk
      clear hk
      have b0 : 0 ≤ a % 4096 := by omega
      have b1 : a % 4096 < 4096 := by omega
      go_enter Try.func67, Try.ntmps67
      go_wp2_with fail
      go_ret
      exact ⟨by rw [← HK.out, show a % 4096 + n + 4096 - 1 = a % 4096 + n + 4095 by omega]; rfl, rfl⟩
set_option maxHeartbeats 1000000 in
theorem room_any (l R : Int) (w : World) (h0 : 0 ≤ l) (h1 : l ≤ 18446744073709551615) (hr : roomP l = R) :
    Calls Try.prog 64 #[.int .u64 l] w fun e w' => e = .returned (.int .i64 R) ∧ w = w' := by
  unfold roomP at hr
  have HR := Lib.hid hr
  clear hr
  have b0 : 0 ≤ l % 4096 := by omega
  have b1 : l % 4096 < 4096 := by omega
  go_enter Try.func64, Try.ntmps64
  go_wp2_with fail
  go_ret
  exact ⟨by rw [← HR.out, show 4096 - l % 4096 + 8 - 1 = 4096 - l % 4096 + 7 by omega]; rfl, rfl⟩
theorem roomP_bd (l : Int) : 1 ≤ roomP l ∧ roomP l ≤ 512 := by unfold roomP; omega
set_option maxRecDepth 100000 in
set_option maxHeartbeats 2000000 in
theorem lists_any (l n K : Int) (w : World) (h0 : 0 ≤ l) (h1 : l ≤ 18446744073709551615) (hn0 : -9223372036854775808 ≤ n) (hn1 : n ≤ 9223372036854775807) (hk : lstsP l n = K) :
    Calls Try.prog 63 #[.int .u64 l, .int .i64 n] w fun e w' => e = .returned (.int .i64 K) ∧ w = w' := by
  unfold lstsP at hk
  by_cases c1 : n < 3
  · rw [if_pos (.inl c1)] at hk
    subst hk
    have q : decide (n < 3) = true := decide_eq_true c1
    go_enter Try.func63, Try.ntmps63
    go_wp2_with fail
    go_ret
    exact ⟨rfl, rfl⟩
  · have q : decide (n < 3) = false := decide_eq_false c1
    by_cases c2 : 257 < n
    · rw [if_pos (.inr c2)] at hk
      subst hk
      have q2 : decide (257 < n) = true := decide_eq_true c2
      go_enter Try.func63, Try.ntmps63
      go_wp2_with fail
      go_ret
      exact ⟨rfl, rfl⟩
    · rw [if_neg (by omega)] at hk
      have q2 : decide (257 < n) = false := decide_eq_false c2
      obtain ⟨R, hR⟩ : ∃ z, z = roomP l := ⟨_, rfl⟩
      obtain ⟨r0, r1⟩ := roomP_bd l
      rw [← hR] at hk r0 r1
      have HR := Lib.hid hR.symm
      clear hR
      by_cases c3 : n - 1 ≤ R
      · rw [if_pos c3] at hk
        subst hk
        have q3 : decide (R < n - 1) = false := decide_eq_false (by omega)
        go_enter Try.func63, Try.ntmps63
        go_wp2_with (go_at_call 64; refine (room_any l R _ h0 h1 HR.out).mono ?_; rintro e w' ⟨rfl, rfl⟩)
        refine wp_loop_rounds 3 ?_
        rw [rounds_succ]
        go_wp2_with fail
        go_ret
        exact ⟨rfl, rfl⟩
      · rw [if_neg c3] at hk
        subst hk
        have q3 : decide (R < n - 1) = true := decide_eq_true (by omega)
        have q4 : decide (512 < n - 1 - (R - 1)) = false := decide_eq_false (by omega)
        go_enter Try.func63, Try.ntmps63
        go_wp2_with (go_at_call 64; refine (room_any l R _ h0 h1 HR.out).mono ?_; rintro e w' ⟨rfl, rfl⟩)
        refine wp_loop_rounds 3 ?_
        rw [rounds_succ]
        go_wp2_with fail
        rw [rounds_succ]
        go_wp2_with fail
        go_ret
        exact ⟨rfl, rfl⟩
/-- what clears the results, and what lies there then -/
structure Clears (f : Nat) (cs : Array Value) (S : Nat → Prop) (C C' : World → Prop) : Prop where
  enter : ∀ args w, (callFunc f args).run Try.prog w = .ok (.enter f args) w
  call : ∀ w, C w → Calls Try.prog f cs w fun e w' => e = .returned (.tuple #[]) ∧ Keeps S w w' ∧ C' w'

set_option maxRecDepth 100000 in
set_option maxHeartbeats 4000000 in
theorem caught_panicking (f : Nat) (cs' : Array Value) (S : Nat → Prop) (eb : Nat) (C C' : World → Prop) (x no : Int) (w : World) (hcl : Clears f cs' S C C') (hC : C w) (he : w.cell? ⟨eb, 0, none⟩ = some (.int .i64 x)) (hz : w.frozen? ⟨eb, 0, none⟩ = false) (hne : ¬ S eb)
    (hC' : ∀ a b, C' a → Keeps (One eb) a b → C' b) :
    CallsD Try.prog 59 #[.pointer (some ⟨eb, 0, none⟩), .func (.func f) #[] cs'] (.panicking [pan no]) w fun e u' w' =>
      e = .returned (.tuple #[]) ∧ u' = .panicking [{ pan no with recovered := true }] ∧ Keeps (fun j => S j ∨ j = eb) w w' ∧ C' w' ∧ w'.cell? ⟨eb, 0, none⟩ = some (.int .i64 no) := by
  have HCL := Lib.hid hcl
  have HC := Lib.hid hC
  have HC' := Lib.hid hC'
  have HE := Lib.hid he
  have HZ := Lib.hid hz
  unfold pan
  refine callsD_of_wpS Try.func59 rfl fun c₀ cs hu => ?_
  apply wpS_seq
  apply wpS_region
  simp [wpOpsS, go_sem, recoverD, hu, Try.ntmps59, Exit.thenS]
  refine wpS_of_wp ?_
  have HU := Lib.hid hu
  clear hcl hC hC' he hz hu
  generalize hq : (bodyPostS Try.prog Try.f59 c₀ cs _) = Q
  have HQ := Lib.hid hq
  clear hq
  have hfr : (#[Value.pointer (some ⟨eb, 0, none⟩), Value.func (.func f) #[] cs'] ++ ((Array.replicate 21 undef).setIfInBounds 5 (Value.iface 50 (.int .i64 no))).setIfInBounds 2 (Value.iface 50 (.int .i64 no)) : Array Value) = #[.pointer (some ⟨eb, 0, none⟩), .func (.func f) #[] cs', undef, undef, .iface 50 (.int .i64 no), undef, undef, .iface 50 (.int .i64 no), undef, undef, undef, undef, undef, undef, undef, undef, undef, undef, undef, undef, undef, undef, undef] := by kernel_rfl
  rw [hfr]
  clear hfr
  go_upto_region 2 with (fail)
  have hta : ∀ w, (Instr.typeAssert (.iface 50 (.int .i64 no)) 20 50 true).run Try.prog w = .ok (.tuple #[.int .i64 no, .bool true]) w := fun w => by kernel_rfl
  go_upto_region 3 with (fail)
  go_upto_region 5 with (fail)
  have hen := HCL.out.enter
  have hcall := Lib.hid (HCL.out.call w HC.out)
  go_upto_region 6 with ((with_reducible refine hcall.out.mono ?_); rintro e w1 ⟨rfl, hk, hc1⟩)
  have he1 := hk.cell HE.out (fun e => hne e)
  have hz1 : w1.frozen? ⟨eb, 0, none⟩ = false := (World.frozen?_of_block (w := w) (hk.block eb (World.block_lt_of_cell? _ _ HE.out) (fun e => hne e))).trans HZ.out
  have HK := Lib.hid hk
  have HC1 := Lib.hid hc1
  clear hk hc1 hen hcall
  go_wp2_with fail
  rw [← HQ.out]
  refine ⟨rfl, _, rfl, .tuple #[], ?_, rfl, rfl, (HK.out.mono fun _ _ h => .inl h).trans (((Keeps.refl (One eb) w1).set1 0 (.int .i64 no)).mono fun _ _ h => .inr h), HC'.out _ _ HC1.out ((Keeps.refl (One eb) w1).set1 0 (.int .i64 no)), World.cell?_setCell_same _ _ _ he1⟩
  simp [results, Try.results59]

theorem caught_idle (u v : Value) (w : World) :
    CallsD Try.prog 59 #[u, v] .returning w fun e u' w' => e = .returned (.tuple #[]) ∧ u' = .returning ∧ w' = w := by
  refine callsD_of_wpS Try.func59 rfl fun c₀ cs hu => ?_
  apply wpS_seq
  apply wpS_region
  simp [wpOpsS, go_sem, recoverD, hu, Try.ntmps59, Exit.thenS]
  apply wpS_seq
  apply wpS_region
  simp [wpOpsS, go_sem, recoverD, hu, Try.ntmps59, Exit.thenS]
  refine wpS_cond (t := false) (by simp [Act.eval, Array.replicate]) ?_
  simp only [Bool.false_eq_true, if_false]
  refine wpS_of_wp (wp_skip ?_)
  cases c₀
  simp_all [bodyPostS, results, Try.results59]

/-- the spans cleared -/
theorem clears_spans (cb : Nat) : Clears 96 #[.pointer (some ⟨cb, 0, none⟩)] (One cb) (fun w => (∃ v, w.cell? ⟨cb, 0, none⟩ = some v) ∧ w.frozen? ⟨cb, 0, none⟩ = false) (fun w => w.cell? ⟨cb, 0, none⟩ = some (.slice none 0 0)) := by
  refine ⟨fun args w => by simp [go_sem], fun w h => ?_⟩
  obtain ⟨⟨v, hc⟩, hf⟩ := h
  go_enter Try.func96, Try.ntmps96
  go_wp2_with fail
  go_end0
  exact ⟨rfl, (Keeps.refl _ _).set1 _ _, World.cell?_setCell_same _ _ _ hc⟩
end Go.Proofs.Ytfmabknhfehdcaa

namespace Go.Proofs.Ytfmabknhfehdcaa
open Go.RowKit

/-- the cells of a status -/
def stA (code : Int) : Array Value := #[.int .u8 0, .int .u8 code, .bool false, .bool true]
def st0 : Array Value := #[.int .u8 0, .int .u8 0, .bool false, .bool false]
def panT (code : Int) : PanicEntry := { v := .iface 38 (.agg (stA code)), recovered := false }
theorem sizeSt : (Try.prog.info? 38).map (·.size) = some 4 := by kernel_rfl
theorem zeroSt (w : World) : (zeroValue 38).run Try.prog w = .ok (.agg st0) w := by kernel_rfl
theorem buildSt (code : Int) (w : World) : (Instr.build 38 #[(1, .int .u8 code), (3, .bool true)]).run Try.prog w = .ok (.agg (stA code)) w := by kernel_rfl
theorem stA_one (code : Int) : (stA code).all (·.oneCell') = true := by simp [stA, Value.oneCell']
theorem st0_one : st0.all (·.oneCell') = true := by simp [st0, Value.oneCell']

/-- the codes by error -/
def codesT : List (Int × Value) := [(1, .int .u8 6), (3, .int .u8 4), (161, .int .u8 13), (5, .int .u8 14), (162, .int .u8 15), (160, .int .u8 17), (2, .int .u8 17), (150, .int .u8 19)]
set_option maxRecDepth 100000 in
set_option maxHeartbeats 4000000 in
theorem codes_any (w : World) : Calls Try.prog 58 #[] w fun e w' => ∃ r, e = .returned (.map (some r)) ∧ w.heap.size ≤ r ∧ MapIs .i64 w' r codesT ∧ Below w.heap.size w w' := by
  have hm0 : MapIs .i64 (w.alloc (.map #[] 0)) w.heap.size [] := MapIs.made w
  have HM := Lib.hid hm0
  have hk0 : Keeps (fun j => w.heap.size ≤ j) w (w.alloc (.map #[] 0)) := (Keeps.refl _ w).alloc _
  have HK := Lib.hid hk0
  have hmm := @run_makeMap Try.prog
  clear hm0 hk0
  go_enter Try.func58, Try.ntmps58
  go_wp2_with ((with_reducible show wpList _ _ _ (⟨none, .insert _ _ _ _, _, _, _, _⟩ :: _) _ _); refine wpList_insert_mp rfl _ _ _ rfl Try.underlying115 Try.underlying50 HM.out _ _ rfl rfl rfl ?_ ?_; kernel_rfl; intro w' hm' hk'; replace HK := Lib.hid (HK.out.trans (hk'.mono (fun k _ e => by have e : k = w.heap.size := e; have := HK.out.size; omega))); replace HM := Lib.hid hm'; clear hm' hk')
  go_ret
  exact ⟨_, rfl, Nat.le_refl _, HM.out, HK.out.below (Nat.le_refl _) (fun k hk e => by omega)⟩
theorem look_codes {w : World} {r : Nat} (h : MapIs .i64 w r codesT) (no : Int) : (Instr.lookup 115 (.map (some r)) (.int .i64 no) false).run Try.prog w = .ok (.int .u8 (codeT no)) w := by
  have hz : ∀ w, (zeroValue 5).run Try.prog w = .ok (.int .u8 0) w := fun w => by kernel_rfl
  by_cases c : no = 1 ∨ no = 3 ∨ no = 161 ∨ no = 5 ∨ no = 162 ∨ no = 160 ∨ no = 2 ∨ no = 150
  · have hm : (no, .int .u8 (codeT no)) ∈ codesT := by
      rcases c with rfl | rfl | rfl | rfl | rfl | rfl | rfl | rfl <;> simp [codesT, codeT]
    exact h.look Try.underlying115 Try.underlying50 hm false
  · have h0 : codeT no = 0 := by
      unfold codeT
      repeat' split
      all_goals omega
    rw [h0]
    refine h.miss Try.underlying115 Try.underlying50 ?_ _ (hz w) false
    simp only [codesT, List.map_cons, List.map_nil, List.mem_cons, List.not_mem_nil, or_false]
    omega
set_option maxRecDepth 100000 in
theorem failed_any (code : Int) (w : World) : Calls Try.prog 87 #[.int .u8 code] w fun e w' => e = .returned (.agg (stA code)) ∧ Below w.heap.size w w' := by
  go_enter Try.func87, Try.ntmps87
  go_wp2_with (first
    | ((with_reducible show wpList _ _ _ (⟨some 2, _, _, _, _, _⟩ :: _) _ _); refine wpList_alloc rfl 38 rfl zeroSt ?_; rw [show (Value.agg st0).cells = st0 from rfl])
    | ((with_reducible show wpList _ _ _ (⟨some 4, _, _, _, _, _⟩ :: _) _ _); refine wpList_buildC rfl 38 #[(1, .tmp 3), (3, .const (.bool true))] rfl #[(1, .int .u8 code), (3, .bool true)] (by simp [Act.eval, Act.put]) (buildSt code _) ?_)
    | ((with_reducible show wpList _ _ _ (⟨none, _, _, _, _, _⟩ :: _) _ _); refine wpList_storeA rfl (b := w.heap.size) (A := st0) (A' := stA code) (ArrAt.fresh w st0 _ (by decide)) 38 (.tmp 2) (.tmp 4) rfl (by simp [Act.eval, Act.put]) (by simp [Act.eval, Act.put]) sizeSt rfl (stA_one code) ?_))
  exact bodyPost_ret (results_c rfl _ _ _ ((ArrAt.fresh w st0 _ (by decide)).store (stA code) rfl) rfl Try.underlying38 rfl sizeSt) rfl ⟨rfl, bstore ((Below.refl _ _).alloc (Nat.le_refl _) _) _ (Nat.le_refl _) _ _⟩
section
variable (code : Int) (b n c : Nat) (F : Nat → Bool) (w : World) (h : Conds w b n F) (hn : n ≤ 1000)
include h hn
set_option maxRecDepth 100000 in
set_option maxHeartbeats 1000000 in
theorem tmust_row_ok (hr : ∀ i, i < n → F i = true) :
   Calls Try.prog 56 #[.int .u8 code, .slice (some ⟨b, 0, none⟩) n c] w fun e w' => e = .returned (.tuple #[]) ∧ w = w' := by
  have H := Lib.hid h
  have HR := Lib.hid hr
  clear h hr
  go_enter Try.func56, Try.ntmps56
  go_wp2_with (go_at_call 86; refine (contains_conds b n _ F false (.inl ⟨rfl, HR.out⟩) _ H.out hn).mono ?_; rintro e w' ⟨rfl, rfl⟩)
  go_end0
  exact ⟨rfl, rfl⟩
set_option maxRecDepth 100000 in
set_option maxHeartbeats 1000000 in
theorem tmust_row_bad (hr : ∃ i, i < n ∧ F i = false) :
   Calls Try.prog 56 #[.int .u8 code, .slice (some ⟨b, 0, none⟩) n c] w fun e w' => e = .panicked [panT code] ∧ Below w.heap.size w w' := by
  have H := Lib.hid h
  have HR := Lib.hid hr
  clear h hr
  go_enter Try.func56, Try.ntmps56
  go_wp2_with (first
    | (go_at_call 86; refine (contains_conds b n _ F true (.inr ⟨rfl, HR.out⟩) _ H.out hn).mono ?_; rintro e w' ⟨rfl, rfl⟩)
    | (go_at_call 87; refine (failed_any code _).mono ?_; rintro e w1 ⟨rfl, hb⟩; have HB := Lib.hid hb; clear hb))
  exact ⟨rfl, rfl, HB.out⟩
end
theorem tmust1_ok' (code : Int) (b : Nat) (w : World) (hb : b = w.heap.size) : Calls Try.prog 56 #[.int .u8 code, .slice (some ⟨b, 0, none⟩) 1 1] (w.alloc (.cells #[.bool true] 4)) fun e w' => e = .returned (.tuple #[]) ∧ w.alloc (.cells #[.bool true] 4) = w' := by
  subst hb
  exact tmust_row_ok code w.heap.size 1 1 _ _ (conds_alloc w [true]) (by omega) (fun i hi => by
    match i, hi with
    | 0, _ => rfl)
theorem tmust1_bad' (code : Int) (b : Nat) (w : World) (hb : b = w.heap.size) : Calls Try.prog 56 #[.int .u8 code, .slice (some ⟨b, 0, none⟩) 1 1] (w.alloc (.cells #[.bool false] 4)) fun e w' => e = .panicked [panT code] ∧ Below w.heap.size w w' := by
  subst hb
  exact (tmust_row_bad code w.heap.size 1 1 _ _ (conds_alloc w [false]) (by omega) ⟨0, by omega, rfl⟩).mono fun e w' h => ⟨h.1, ((Below.refl _ w).alloc (Nat.le_refl _) _).trans (h.2.mono (by simp))⟩
theorem tmust2_ok' (code : Int) (b : Nat) (w : World) (hb : b = w.heap.size) : Calls Try.prog 56 #[.int .u8 code, .slice (some ⟨b, 0, none⟩) 2 2] (w.alloc (.cells #[.bool true, .bool true] 4)) fun e w' => e = .returned (.tuple #[]) ∧ w.alloc (.cells #[.bool true, .bool true] 4) = w' := by
  subst hb
  exact tmust_row_ok code w.heap.size 2 2 _ _ (conds_alloc w [true, true]) (by omega) (fun i hi => by
    match i, hi with
    | 0, _ => rfl
    | 1, _ => rfl)
theorem tmust2_bad' (code : Int) (x y : Bool) (h : x = false ∨ y = false) (b : Nat) (w : World) (hb : b = w.heap.size) : Calls Try.prog 56 #[.int .u8 code, .slice (some ⟨b, 0, none⟩) 2 2] (w.alloc (.cells #[.bool x, .bool y] 4)) fun e w' => e = .panicked [panT code] ∧ Below w.heap.size w w' := by
  subst hb
  refine (tmust_row_bad code w.heap.size 2 2 _ _ (conds_alloc w [x, y]) (by omega) ?_).mono fun e w' h => ⟨h.1, ((Below.refl _ w).alloc (Nat.le_refl _) _).trans (h.2.mono (by simp))⟩
  rcases h with rfl | rfl
  · exact ⟨0, by omega, rfl⟩
  · exact ⟨1, by omega, rfl⟩
/-- A panic, wherever it comes up in a region, or a normal end. -/
def PanK (i j : Nat) (xi xj : Value) (D : List Deferred) (ch : List PanicEntry) (C : World → Prop) (N : Act → World → Prop) : Exit → Act → World → Prop
  | .panic c, a, w => c = ch ∧ a.tmps.getD i undef = xi ∧ a.tmps.getD j undef = xj ∧ a.defers = D ∧ C w
  | .normal, a, w => N a w
  | _, _, _ => False
theorem PanK.put {i j : Nat} {xi xj : Value} {D : List Deferred} {ch : List PanicEntry} {C : World → Prop} {N : Act → World → Prop} {c : List PanicEntry} {a : Act} {w : World} {d : Nat} {v : Value} (h : PanK i j xi xj D ch C N (.panic c) (a.put (some d) v) w) (hi : d ≠ i) (hj : d ≠ j) : PanK i j xi xj D ch C N (.panic c) a w := by
  obtain ⟨e1, e2, e3, e4, e5⟩ := h
  refine ⟨e1, ?_, ?_, e4, e5⟩
  · rw [← e2]; simp [Act.put, Array.getElem?_setIfInBounds, hi]
  · rw [← e3]; simp [Act.put, Array.getElem?_setIfInBounds, hj]
theorem PanK.fin {i j : Nat} {xi xj : Value} {D : List Deferred} {ch : List PanicEntry} {C : World → Prop} {N : Act → World → Prop} {a : Act} {w : World} (h : N a w) : PanK i j xi xj D ch C N .normal a w := h
theorem wp_pank {P : Program} {Q : Exit → Act → World → Prop} {c : Code} {a : Act} {w : World} {i j : Nat} {xi xj : Value} {D : List Deferred} {ch : List PanicEntry} {C : World → Prop} (h : c.wp P (PanK i j xi xj D ch C (Q .normal)) a w)
    (hq : ∀ tmps w', tmps.getD i undef = xi → tmps.getD j undef = xj → C w' → Q (.panic ch) { tmps := tmps, defers := D } w') : c.wp P Q a w :=
  wp_mono h fun e a' w' q => by
    cases e with
    | panic c =>
      obtain ⟨e1, e2, e3, e4, e5⟩ := q
      subst e1 e4
      exact hq a'.tmps w' e2 e3 e5
    | normal => exact q
    | _ => exact q.elim
end Go.Proofs.Ytfmabknhfehdcaa
