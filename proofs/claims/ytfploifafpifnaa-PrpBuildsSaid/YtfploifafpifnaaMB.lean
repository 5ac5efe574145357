/- memory: span, store. -/
import Derived.Test.YtfploifafpifnaaMA
namespace Go.Proofs.Ytfploifafpifnaa
set_option linter.unusedVariables false
set_option linter.unusedSimpArgs false
open Go.RowKit

set_option maxHeartbeats 400000 in
theorem span_ok (b B : Nat) (size cap addr n : Nat) (w : World) (h : w.cell? ⟨b, 769, none⟩ = some (.slice (some ⟨B, 0, none⟩) size cap))
   (hs : size ≤ 4194304) (hcap : size ≤ cap) (hcap' : cap ≤ 9223372036854775807) (hf : addr + n ≤ size) :
   Calls Try.prog 37 #[.pointer (some ⟨b, 0, none⟩), .int .u64 addr, .int .i64 n] w fun e w' => (∃ ad, e = .returned (.tuple #[.slice (some ad) n n, .int .i64 0]) ∧ (0 < n → ad = ⟨B, addr, none⟩)) ∧ Below w.heap.size w w' := by
  have hc : chk size addr n = 0 := by unfold chk; rw [if_neg (by omega), if_pos (by omega)]
  rcases Nat.eq_zero_or_pos n with rfl | hn
  · simp only [Int.natCast_zero] at hc ⊢
    go_enter Try.func37, Try.ntmps37
    go_wp2_with (first | (go_at_call 18; refine (check_made _ _ _ _ _ _ _ h hs (by omega) (by omega) (by omega) (by omega)).mono ?_; rw [hc]; rintro e w1 ⟨rfl, hb⟩; have h1 := hb.cell (p := ⟨b, 769, none⟩) (World.block_lt_of_cell? _ _ h); rw [h] at h1; clear h))
    go_ret2
    exact ⟨⟨_, rfl, fun h => absurd h (Nat.lt_irrefl 0)⟩, hb⟩
  · have hne : ¬ n = 0 := by omega
    go_enter Try.func37, Try.ntmps37
    go_wp2_with (first | (go_at_call 18; refine (check_made _ _ _ _ _ _ _ h hs (by omega) (by omega) (by omega) (by omega)).mono ?_; rw [hc]; rintro e w1 ⟨rfl, hb⟩; have h1 := hb.cell (p := ⟨b, 769, none⟩) (World.block_lt_of_cell? _ _ h); rw [h] at h1; clear h))
    go_ret2
    exact ⟨⟨⟨B, addr, none⟩, by simp, fun _ => rfl⟩, hb⟩

set_option maxHeartbeats 400000 in
theorem span_err (b B : Nat) (size cap : Nat) (addr n : Int) (w : World) (h : w.cell? ⟨b, 769, none⟩ = some (.slice (some ⟨B, 0, none⟩) size cap))
   (hs : size ≤ 4194304) (ha : 0 ≤ addr) (ha' : addr ≤ 18446744073709551615) (hn : -9223372036854775808 ≤ n) (hn' : n ≤ 9223372036854775807) (hc : (chk size addr n != 0) = true) :
   Calls Try.prog 37 #[.pointer (some ⟨b, 0, none⟩), .int .u64 addr, .int .i64 n] w fun e w' => e = .returned (.tuple #[.slice none 0 0, .int .i64 (chk size addr n)]) ∧ Below w.heap.size w w' := by
  generalize hk : chk size addr n = k at *
  have HK := Lib.hid hk
  clear hk
  go_enter Try.func37, Try.ntmps37
  go_wp2_with (first | (go_at_call 18; refine (check_made _ _ _ _ _ _ _ h hs ha ha' hn hn').mono ?_; rw [HK.out]; rintro e w1 ⟨rfl, hb⟩))
  go_ret2
  exact ⟨rfl, hb⟩

set_option maxHeartbeats 400000 in
theorem span_nil (addr n : Int) (w : World) :
   Calls Try.prog 37 #[.pointer none, .int .u64 addr, .int .i64 n] w fun e w' => e = .returned (.tuple #[.slice none 0 0, .int .i64 1]) ∧ w = w' := by
  go_enter Try.func37, Try.ntmps37
  go_wp2_with (first | (go_at_call 18; refine (check_nil _ _ _).mono ?_; rintro e w1 ⟨rfl, rfl⟩))
  go_ret2
  exact ⟨rfl, rfl⟩

set_option maxHeartbeats 400000 in
theorem span_zero (b c m : Nat) (addr n : Int) (w : World) (h : w.cell? ⟨b, 769, none⟩ = some (.slice none m c)) :
   Calls Try.prog 37 #[.pointer (some ⟨b, 0, none⟩), .int .u64 addr, .int .i64 n] w fun e w' => e = .returned (.tuple #[.slice none 0 0, .int .i64 1]) ∧ w = w' := by
  go_enter Try.func37, Try.ntmps37
  go_wp2_with (first | (go_at_call 18; refine (check_zero _ _ _ _ _ _ h).mono ?_; rintro e w1 ⟨rfl, rfl⟩))
  go_ret2
  exact ⟨rfl, rfl⟩

/-- The cells behind 'store': n cells from 'off' on hold what the function gives. -/
def stored (f : Nat → Value) (off n : Nat) (g : Nat → Int) : Nat → Value := fun j => if off ≤ j ∧ j < off + n then .int .u8 (g (j - off)) else f j

set_option maxHeartbeats 1000000 in
theorem store_any (B m : Nat) (f : Nat → Value) (ad : Addr) (off n c K : Nat) (lb : Array Value) (g : Nat → Int) (w : World) (hr : w.rowIs B 5 m f)
    (had : 0 < n → ad = ⟨B, off, none⟩) (hm : off + n ≤ m) (hm' : m ≤ 9223372036854775807)
    (eK : ∀ args w, (callFunc K args).run Try.prog w = .ok (.enter K args) w)
    (H : ∀ i : Nat, i < n → ∀ w1, Keeps (One B) w w1 → Calls Try.prog K (#[.int .i64 i] ++ lb) w1 fun e w' => e = .returned (.int .u8 (g i)) ∧ w1 = w') :
   Calls Try.prog 56 #[.slice (some ad) n c, .func (.func K) #[] lb] w fun e w' => e = .returned (.tuple #[]) ∧ Keeps (One B) w w' ∧ w'.rowIs B 5 m (stored f off n g) := by
  have HH := Lib.hid H
  have hadH := Lib.hid had
  clear H had
  go_enter Try.func56, Try.ntmps56
  go_wp2
  go_loopw [4, 7] (fun _ i wr => ∃ k : Nat, k ≤ n ∧ i = .int .i64 k ∧ Keeps (One B) w wr ∧ wr.rowIs B 5 m (stored f off k g)) (fun _ i _ => n - (intOf i).toNat)
  case atStart => exact ⟨0, Nat.zero_le _, rfl, Keeps.refl _ _, hr.congr fun i _ => by simp [stored]; omega⟩
  case round =>
    obtain ⟨k, hk, rfl, hkp, hrow⟩ := hrel
    by_cases hlt : k < n
    · have ha := hadH.out (by omega)
      subst ha
      have hc := hrow.cell (i := off + k) (by omega)
      have hf := hrow.frozen (off + k)
      go_wp2_with fail
      refine (HH.out k hlt _ hkp).mono ?_
      rintro e w1 ⟨rfl, rfl⟩
      go_wp2_with fail
      go_roundw
      case rel =>
        refine ⟨k + 1, by omega, by go_num, hkp.set1 _ _, (hrow.set (off + k) _).congr ?_⟩
        intro j hj
        simp only [stored]
        by_cases h1 : j = off + k
        · subst h1; simp
        · rw [if_neg h1]
          by_cases h2 : off ≤ j ∧ j < off + k
          · rw [if_pos h2, if_pos (by omega)]
          · rw [if_neg h2, if_neg (by omega)]
      case measure => simp [intOf]; omega
    · have hkn : k = n := by omega
      subst hkn
      go_wp2_with fail
      go_end0
      exact ⟨rfl, hkp, hrow⟩
end Go.Proofs.Ytfploifafpifnaa
