/- Plain law: the entries of a ring. -/
import Derived.Test.YtpoeepdpoblfcaaRow
namespace Go.Proofs.Ytpoeepdpoblfcaa

theorem mod2 {x n : Nat} (h : x < 2 * n) : x % n = if x < n then x else x - n := by
  split
  · rename_i h1; exact Nat.mod_eq_of_lt h1
  · rename_i h1
    rw [Nat.mod_eq_sub_mod (by omega)]
    exact Nat.mod_eq_of_lt (by omega)

/-- the number of entries from the slot h up to the slot t -/
def usd (n h t : Nat) : Nat := (t + n - h) % n
/-- the next slot -/
def nxt (n h : Nat) : Nat := (h + 1) % n

theorem usd_eq {n h t : Nat} (h1 : h < n) (h2 : t < n) : usd n h t = if h ≤ t then t - h else t + n - h := by
  unfold usd
  rw [mod2 (by omega)]
  by_cases e : h ≤ t
  · rw [if_neg (by omega), if_pos e]; omega
  · rw [if_pos (by omega), if_neg e]
theorem usd_lt {n h t : Nat} (h1 : h < n) (h2 : t < n) : usd n h t < n := by
  rw [usd_eq h1 h2]; split <;> omega
theorem nxt_eq {n h : Nat} (h1 : h < n) : nxt n h = if h + 1 = n then 0 else h + 1 := by
  unfold nxt
  rw [mod2 (by omega)]
  by_cases e : h + 1 = n
  · rw [if_neg (by omega), if_pos e]; omega
  · rw [if_pos (by omega), if_neg e]
theorem nxt_lt {n h : Nat} (h1 : h < n) : nxt n h < n := by
  rw [nxt_eq h1]; split <;> omega
theorem usd_zero {n h t : Nat} (h1 : h < n) (h2 : t < n) : usd n h t = 0 ↔ h = t := by
  rw [usd_eq h1 h2]; split <;> omega

/-- the slot k steps on -/
def stp (n h k : Nat) : Nat := (h + k) % n
theorem stp_eq {n h k : Nat} (h1 : h < n) (h2 : k < n) : stp n h k = if h + k < n then h + k else h + k - n := by
  unfold stp
  exact mod2 (by omega)
theorem stp_usd {n h t k : Nat} (h1 : h < n) (h2 : t < n) (hk : k ≤ usd n h t) : stp n h k = t ↔ k = usd n h t := by
  have := usd_lt h1 h2
  rw [stp_eq h1 (by omega)]
  rw [usd_eq h1 h2] at *
  split <;> split at hk <;> (rename_i a b; first | rw [if_pos b] | rw [if_neg b]) <;> omega
theorem stp_succ {n h k : Nat} (_h1 : h < n) : (stp n h k + 1) % n = stp n h (k + 1) := by
  unfold stp
  rw [Nat.mod_add_mod, Nat.add_assoc]
theorem stp_lt {n h k : Nat} (h1 : h < n) : stp n h k < n := Nat.mod_lt _ (by omega)
theorem stp_zero {n h : Nat} (h1 : h < n) : stp n h 0 = h := by unfold stp; exact Nat.mod_eq_of_lt h1
end Go.Proofs.Ytpoeepdpoblfcaa
