/- prp: plain laws (no walk): the walk's steps; the spans of what was built. -/
import Derived.Test.YtfmabknhfehdcaaZT6
import Derived.Laws.BitsAllLaws
import Derived.Defers
import Derived.Recover
namespace Go.Proofs.Ytfmabknhfehdcaa
set_option linter.unusedVariables false
set_option linter.unusedSimpArgs false
open Go.RowKit

/-- Count -/
def pgs (first n : Int) : Int := if n < 1 ∨ 1048576 < n then 0 else (first % 4096 + n + 4095) / 4096
/-- the number of addresses up to the end of a page -/
def roomP (l : Int) : Int := (4096 - l % 4096 + 7) / 8
/-- Lists -/
def lstsP (second pages : Int) : Int := if pages < 3 ∨ 257 < pages then 0 else if pages - 1 ≤ roomP second then 1 else 2
/-- the address that is stored at an address -/
def wrd (f : Nat → Int) (a : Int) : Int := hz (fun i => f (a.toNat + i)) 7 8
structure PSt where
  list : Int
  fresh : Bool
  left : Int
  out : List Spn
def nxtP (f : Nat → Int) (size : Nat) (missing : Int) (s : PSt) : Except Int (Int × PSt) :=
  if s.fresh = true ∧ s.list % 8 ≠ 0 then .error 150
  else if chk size s.list 8 ≠ 0 then .error (chk size s.list 8)
  else if s.list % 4096 = 4088 ∧ 1 < missing then
    if wrd f s.list % 4096 ≠ 0 then .error 150
    else if chk size (wrd f s.list) 8 ≠ 0 then .error (chk size (wrd f s.list) 8)
    else .ok (wrd f (wrd f s.list), ⟨wrd f s.list + 8, false, s.left, s.out⟩)
  else .ok (wrd f s.list, ⟨s.list + 8, false, s.left, s.out⟩)
def addA (size : Nat) (a : Int) (s : PSt) : Except Int PSt :=
  if chk size a (min s.left (4096 - a % 4096)) ≠ 0 then .error (chk size a (min s.left (4096 - a % 4096)))
  else .ok ⟨s.list, s.fresh, s.left - min s.left (4096 - a % 4096), s.out ++ [⟨a, min s.left (4096 - a % 4096), false⟩]⟩
def adrP (f : Nat → Int) (size : Nat) (second pages : Int) (i : Int) (s : PSt) : Except Int (Int × PSt) :=
  if 2 < pages then nxtP f size (pages - i) s else .ok (second, s)
def stepP (f : Nat → Int) (size : Nat) (second pages : Int) (i : Int) (s : PSt) : Except Int PSt :=
  match adrP f size second pages i s with
  | .error e => .error e
  | .ok x => if x.1 % 4096 ≠ 0 then .error 150 else addA size x.1 x.2
def runP (f : Nat → Int) (size : Nat) (second pages : Int) : Nat → Int → PSt → Except Int (List Spn)
  | 0, _, s => .ok s.out
  | k + 1, i, s => match stepP f size second pages i s with
    | .error e => .error e
    | .ok s' => runP f size second pages k (i + 1) s'
def spansP (f : Nat → Int) (size : Nat) (first second n : Int) : Except Int (List Spn) :=
  if n < 0 ∨ 1048576 < n then .error 2 else if n = 0 then .ok [] else if first % 4 ≠ 0 then .error 150
  else match addA size first ⟨second, true, n, []⟩ with
    | .error e => .error e
    | .ok s => runP f size second (pgs first n) ((pgs first n).toNat - 1) 1 s

/-- bytes of words -/
def wB (g : Nat → Int) (j : Nat) : Int := byteOf (g (j / 8)) (j % 8)
theorem wB_bd (g : Nat → Int) : Bytes (wB g) := fun j => by unfold wB byteOf; omega
theorem wrd_congr {f h : Nat → Int} {a : Int} (e : ∀ i, i < 8 → f (a.toNat + i) = h i) : wrd f a = hz h 7 8 := by
  unfold wrd
  simp [hz, e 0, e 1, e 2, e 3, e 4, e 5, e 6, e 7]
  have := e 0 (by omega)
  rw [Nat.add_zero] at this
  rw [this]
theorem wrd_of {f : Nat → Int} {a : Int} {v : Int} (h0 : 0 ≤ v) (h1 : v ≤ 18446744073709551615) (e : ∀ i, i < 8 → f (a.toNat + i) = byteOf v i) : wrd f a = v := by
  rw [wrd_congr (h := byteOf v) e]
  exact sum8 v h0 h1

/-- the memory behind Build -/
def bltF (f : Nat → Int) (l0 l1 R K : Nat) (p : Nat → Int) : Nat → Int :=
  if K ≤ R + 1 then upd f l0 (8 * (K - 1)) (wB fun e => p (e + 1))
  else upd (upd f l0 (8 * R) (wB fun e => if e + 1 < R then p (e + 1) else l1)) l1 (8 * (K - R)) (wB fun e => p (R + e))

section
variable {f : Nat → Int} {size l0 l1 R K : Nat} {p : Nat → Int} {o N : Int}
/-- what is known of the pages and lists of a transfer -/
structure Bt (size l0 l1 R K : Nat) (p : Nat → Int) (o N : Int) : Prop where
  n0 : 1 ≤ N
  n1 : N ≤ 1048576
  o0 : 0 ≤ o
  o1 : o < 4096
  o4 : o % 4 = 0
  k : pgs o N = K
  pg : ∀ i, i < K → p i % 4096 = 0 ∧ 0 ≤ p i ∧ p i + 4096 ≤ size
  sz : size ≤ 4194304
  a0 : l0 % 8 = 0
  r : R = (4096 - l0 % 4096) / 8
  f0 : l0 / 4096 * 4096 + 4096 ≤ size
  a1 : l1 % 4096 = 0
  f1 : l1 + 4096 ≤ size
  ne : l0 / 4096 ≠ l1 / 4096
def lenP (o N : Int) (i : Nat) : Int := if i = 0 then min N (4096 - o) else min (N + o - 4096 * i) 4096
def adP (p : Nat → Int) (o : Int) (i : Nat) : Int := if i = 0 then p 0 + o else p i
def outP (p : Nat → Int) (o N : Int) (k : Nat) : List Spn := (List.range k).map fun i => ⟨adP p o i, lenP o N i, false⟩
theorem outP_succ (p : Nat → Int) (o N : Int) (k : Nat) : outP p o N (k + 1) = outP p o N k ++ [⟨adP p o k, lenP o N k, false⟩] := by
  unfold outP
  rw [List.range_succ, List.map_append]
  rfl
theorem bt_k (h : Bt size l0 l1 R K p o N) : 1 ≤ K ∧ K ≤ 257 ∧ (4096 * (K : Int) < o + N + 4096) ∧ o + N ≤ 4096 * K := by
  have hk := h.k
  unfold pgs at hk
  rw [if_neg (by have := h.n0; have := h.n1; omega), Int.emod_eq_of_lt h.o0 h.o1] at hk
  have := h.n0; have := h.n1; have := h.o0; have := h.o1
  omega
/-- where the e-th address is sought -/
def posP (l0 l1 R K e : Nat) : Int := if K ≤ R + 1 ∨ e < R then l0 + 8 * e else l1 + 8 * (e - (R - 1) : Nat)
theorem blt_lo (h : Bt size l0 l1 R K p o N) (hK : K ≤ R + 1) (e : Nat) (he : e + 1 < K) : wrd (bltF f l0 l1 R K p) (l0 + 8 * e : Nat) = p (e + 1) := by
  have hp := h.pg (e + 1) he
  have hs := h.sz
  refine wrd_of hp.2.1 (by omega) fun i hi => ?_
  unfold bltF
  rw [if_pos hK]
  unfold upd wB
  rw [show ((l0 + 8 * e : Nat) : Int).toNat = l0 + 8 * e by omega, if_pos (by omega), show (l0 + 8 * e + i - l0) / 8 = e by omega, show (l0 + 8 * e + i - l0) % 8 = i by omega]
theorem blt_a (h : Bt size l0 l1 R K p o N) (hK : ¬ K ≤ R + 1) (e : Nat) (he : e < R) : wrd (bltF f l0 l1 R K p) (l0 + 8 * e : Nat) = if e + 1 < R then p (e + 1) else l1 := by
  have hr := h.r; have ha := h.a0; have hne := h.ne; have hk := bt_k h; have hf0 := h.f0; have hf1 := h.f1; have ha1 := h.a1; have hs := h.sz
  refine wrd_of ?_ ?_ fun i hi => ?_
  · split
    · exact (h.pg (e + 1) (by omega)).2.1
    · omega
  · split
    · have := (h.pg (e + 1) (by omega)).2.2; omega
    · omega
  · unfold bltF
    rw [if_neg hK]
    unfold upd wB
    rw [show ((l0 + 8 * e : Nat) : Int).toNat = l0 + 8 * e by omega, if_neg (by omega), if_pos (by omega), show (l0 + 8 * e + i - l0) / 8 = e by omega, show (l0 + 8 * e + i - l0) % 8 = i by omega]
theorem blt_b (h : Bt size l0 l1 R K p o N) (hK : ¬ K ≤ R + 1) (e : Nat) (he : e + R < K) : wrd (bltF f l0 l1 R K p) (l1 + 8 * e : Nat) = p (R + e) := by
  have hp := h.pg (R + e) (by omega)
  have hs := h.sz
  refine wrd_of hp.2.1 (by omega) fun i hi => ?_
  unfold bltF
  rw [if_neg hK]
  unfold upd wB
  rw [show ((l1 + 8 * e : Nat) : Int).toNat = l1 + 8 * e by omega, if_pos (by omega), show (l1 + 8 * e + i - l1) / 8 = e by omega, show (l1 + 8 * e + i - l1) % 8 = i by omega]
theorem chk8 {a : Int} (h0 : 0 ≤ a) (h : a + 8 ≤ size) : chk size a 8 = 0 := by
  unfold chk
  rw [if_neg (by omega), if_pos (by omega)]
/-- the address of the i-th page -/
theorem nxt_blt (h : Bt size l0 l1 R K p o N) (h3 : 3 ≤ K) (e : Nat) (he : e + 1 < K) (fr : Bool) (left : Int) (out : List Spn) :
    nxtP (bltF f l0 l1 R K p) size ((K : Int) - ((e + 1 : Nat) : Int)) ⟨posP l0 l1 R K e, fr, left, out⟩ = .ok (p (e + 1), ⟨posP l0 l1 R K (e + 1), false, left, out⟩) := by
  have hr := h.r; have ha := h.a0; have hne := h.ne; have hk := bt_k h; have hf0 := h.f0; have hf1 := h.f1; have ha1 := h.a1
  have hR : 1 ≤ R := by omega
  by_cases hK : K ≤ R + 1
  · have hp : posP l0 l1 R K e = ((l0 + 8 * e : Nat) : Int) := by unfold posP; rw [if_pos (.inl hK)]; omega
    have hp2 : posP l0 l1 R K (e + 1) = ((l0 + 8 * e : Nat) : Int) + 8 := by unfold posP; rw [if_pos (.inl hK)]; omega
    unfold nxtP
    simp only []
    rw [hp, hp2, if_neg (by omega), chk8 (by omega) (by omega), if_neg (by omega), if_neg (by omega), blt_lo h hK e he]
  · by_cases hlo : e + 1 < R
    · have hp : posP l0 l1 R K e = ((l0 + 8 * e : Nat) : Int) := by unfold posP; rw [if_pos (.inr (by omega))]; omega
      have hp2 : posP l0 l1 R K (e + 1) = ((l0 + 8 * e : Nat) : Int) + 8 := by unfold posP; rw [if_pos (.inr (by omega))]; omega
      unfold nxtP
      simp only []
      rw [hp, hp2, if_neg (by omega), chk8 (by omega) (by omega), if_neg (by omega), if_neg (by omega), blt_a h hK e (by omega), if_pos hlo]
    · by_cases hmi : e + 1 = R
      · have hp : posP l0 l1 R K e = ((l0 + 8 * e : Nat) : Int) := by unfold posP; rw [if_pos (.inr (by omega))]; omega
        have hp2 : posP l0 l1 R K (e + 1) = (l1 : Int) + 8 := by unfold posP; rw [if_neg (by omega)]; omega
        have hb := blt_b (f := f) h hK 0 (by omega)
        rw [Nat.mul_zero, Nat.add_zero, Nat.add_zero] at hb
        unfold nxtP
        simp only []
        rw [hp, hp2, if_neg (by omega), chk8 (by omega) (by omega), if_neg (by omega), if_pos (by omega), blt_a h hK e (by omega), if_neg hlo, if_neg (by omega), chk8 (by omega) (by omega), if_neg (by omega), hb, show R = e + 1 by omega]
      · obtain ⟨d, hd⟩ : ∃ d, e = R + d := ⟨e - R, by omega⟩
        have hp : posP l0 l1 R K e = ((l1 + 8 * (d + 1) : Nat) : Int) := by unfold posP; rw [if_neg (by omega)]; omega
        have hp2 : posP l0 l1 R K (e + 1) = ((l1 + 8 * (d + 1) : Nat) : Int) + 8 := by unfold posP; rw [if_neg (by omega)]; omega
        unfold nxtP
        simp only []
        rw [hp, hp2, if_neg (by omega), chk8 (by omega) (by omega), if_neg (by omega), if_neg (by omega), blt_b h hK (d + 1) (by omega), show R + (d + 1) = e + 1 by omega]
/-- what is left ahead of the i-th page -/
theorem left_step (h : Bt size l0 l1 R K p o N) (i : Nat) (hi : i < K) (h1 : 1 ≤ i) : min (N + o - 4096 * i) (4096 - p i % 4096) = lenP o N i := by
  unfold lenP
  rw [if_neg (by omega), (h.pg i hi).1]
  omega
theorem run_blt (h : Bt size l0 l1 R K p o N) (second : Int) (hsec : (K = 2 → second = p 1)) (k i : Nat) (hi : 1 ≤ i) (hik : i + k = K) (fr : Bool) (list : Int) (hl : 3 ≤ K → list = posP l0 l1 R K (i - 1)) (left : Int) (hle : i < K → left = N + o - 4096 * i) :
    runP (bltF f l0 l1 R K p) size second K k i ⟨list, fr, left, outP p o N i⟩ = .ok (outP p o N K) := by
  induction k generalizing i fr list left with
  | zero => obtain rfl : i = K := by omega
            rfl
  | succ k ih =>
    have hp := h.pg i (by omega)
    obtain ⟨k1, k2, k3, k4⟩ := bt_k h
    have hls := left_step h i (by omega) hi
    have hle := hle (by omega)
    subst hle
    have key : ∃ l' fr', adrP (bltF f l0 l1 R K p) size second K i ⟨list, fr, N + o - 4096 * i, outP p o N i⟩ = .ok (p i, ⟨l', fr', N + o - 4096 * i, outP p o N i⟩) ∧ (3 ≤ K → l' = posP l0 l1 R K i) := by
      unfold adrP
      by_cases h3 : 3 ≤ K
      · rw [if_pos (by omega)]
        obtain ⟨e, rfl⟩ : ∃ e, i = e + 1 := ⟨i - 1, by omega⟩
        have := nxt_blt (f := f) h h3 e (by omega) fr (N + o - 4096 * ((e + 1 : Nat) : Int)) (outP p o N (e + 1))
        rw [hl h3]
        exact ⟨_, _, this, fun _ => rfl⟩
      · rw [if_neg (by omega)]
        obtain rfl : i = 1 := by omega
        rw [hsec (by omega)]
        exact ⟨_, _, rfl, fun h => absurd h h3⟩
    obtain ⟨l', fr', key, hl'⟩ := key
    have hc : chk size (p i) (lenP o N i) = 0 := by
      have hb : 0 ≤ lenP o N i ∧ lenP o N i ≤ 4096 := by unfold lenP; rw [if_neg (by omega)]; omega
      unfold chk
      rw [if_neg (by omega), if_pos (by omega)]
    unfold runP stepP
    rw [key]
    simp only []
    rw [if_neg (by omega)]
    unfold addA
    simp only []
    rw [hls, if_neg (by omega)]
    simp only []
    have e1 : outP p o N i ++ [⟨p i, lenP o N i, false⟩] = outP p o N (i + 1) := by
      rw [outP_succ]
      unfold adP
      rw [if_neg (by omega)]
    rw [e1]
    exact ih (i + 1) (by omega) (by omega) fr' l' (by rw [Nat.add_sub_cancel]; exact hl') _ (fun hlt => by
      unfold lenP
      rw [if_neg (by omega)]
      omega)
/-- The spans of what was built. -/
theorem spans_blt (h : Bt size l0 l1 R K p o N) (second : Int) (h2 : K = 2 → second = p 1) (h3 : 3 ≤ K → second = l0) :
    spansP (bltF f l0 l1 R K p) size (p 0 + o) second N = .ok (outP p o N K) := by
  obtain ⟨k1, k2, k3, k4⟩ := bt_k h
  have hp := h.pg 0 (by omega)
  have := h.n0; have := h.n1; have := h.o0; have := h.o1; have h4 := h.o4
  have hm : (p 0 + o) % 4096 = o := by omega
  have hk : pgs (p 0 + o) N = K := by
    have := h.k
    unfold pgs at this ⊢
    rw [hm]
    rw [Int.emod_eq_of_lt h.o0 h.o1] at this
    exact this
  unfold spansP
  rw [if_neg (by omega), if_neg (by omega), if_neg (by omega)]
  unfold addA
  simp only []
  rw [hm]
  have e0 : min N (4096 - o) = lenP o N 0 := by unfold lenP; rw [if_pos rfl]
  have hc : chk size (p 0 + o) (lenP o N 0) = 0 := by
    unfold chk lenP
    rw [if_pos rfl, if_neg (by omega), if_pos (by omega)]
  rw [e0, if_neg (by omega), hk]
  have e1 : ([] : List Spn) ++ [⟨p 0 + o, lenP o N 0, false⟩] = outP p o N 1 := by
    rw [outP_succ]; rfl
  simp only []
  rw [e1]
  exact run_blt h second h2 (K - 1) 1 (Nat.le_refl _) (by omega) true second (fun hh => by rw [h3 hh]; unfold posP; rw [if_pos (.inr (by have := h.r; have := h.a0; omega))]; omega) _ (fun hlt => by
    unfold lenP
    rw [if_pos rfl]
    omega)
end
end Go.Proofs.Ytfmabknhfehdcaa

namespace Go.Proofs.Ytfmabknhfehdcaa
open Go.RowKit

/-- a number of n bytes -/
def le (B : Nat → Int) (p : Nat) : Nat → Int
  | 0 => 0
  | k + 1 => le B p k + B (p + k) * 2 ^ (8 * k)
theorem le_bd {B : Nat → Int} (hB : ∀ j, 0 ≤ B j ∧ B j ≤ 255) (p k : Nat) : 0 ≤ le B p k ∧ le B p k < 2 ^ (8 * k) := by
  induction k with
  | zero => exact ⟨by simp [le], by simp [le]⟩
  | succ k ih =>
    obtain ⟨h1, h2⟩ := ih
    obtain ⟨b1, b2⟩ := hB (p + k)
    have hp : (0 : Int) < 2 ^ (8 * k) := Int.pow_pos (by omega)
    have e : (2 : Int) ^ (8 * (k + 1)) = 2 ^ (8 * k) * 256 := by rw [Nat.mul_add, Int.pow_add]; rfl
    have m1 : 0 ≤ B (p + k) * 2 ^ (8 * k) := Int.mul_nonneg b1 (Int.le_of_lt hp)
    have m2 : B (p + k) * 2 ^ (8 * k) ≤ 255 * 2 ^ (8 * k) := Int.mul_le_mul_of_nonneg_right b2 (Int.le_of_lt hp)
    unfold le
    rw [e]
    omega

theorem or_step (x y : Int) (k : Nat) (hx : 0 ≤ x) (hx' : x < 2 ^ (8 * k)) (hy : 0 ≤ y) (hy' : y ≤ 255) (hk : k < 8) :
    bits .or .u64 x (y * 2 ^ (8 * k)) = x + y * 2 ^ (8 * k) ∧ 0 ≤ y * 2 ^ (8 * k) ∧ y * 2 ^ (8 * k) ≤ 18446744073709551615 := by
  have hp : (0 : Int) < 2 ^ (8 * k) := Int.pow_pos (by omega)
  have hq : (2 : Int) ^ (8 * k) ≤ 72057594037927936 := by
    have h : k = 0 ∨ k = 1 ∨ k = 2 ∨ k = 3 ∨ k = 4 ∨ k = 5 ∨ k = 6 ∨ k = 7 := by omega
    rcases h with rfl | rfl | rfl | rfl | rfl | rfl | rfl | rfl <;> simp
  have m1 : 0 ≤ y * 2 ^ (8 * k) := Int.mul_nonneg hy (Int.le_of_lt hp)
  have m2 : y * 2 ^ (8 * k) ≤ 255 * 2 ^ (8 * k) := Int.mul_le_mul_of_nonneg_right hy' (Int.le_of_lt hp)
  refine ⟨?_, m1, by omega⟩
  obtain ⟨a, rfl⟩ := Int.eq_ofNat_of_zero_le hx
  obtain ⟨b, rfl⟩ := Int.eq_ofNat_of_zero_le hy
  have e : (b : Int) * 2 ^ (8 * k) = ((b <<< (8 * k) : Nat) : Int) := by rw [Nat.shiftLeft_eq]; push_cast; rfl
  rw [e] at m1 m2 ⊢
  have ha : a < 2 ^ (8 * k) := by
    have : ((a : Nat) : Int) < ((2 ^ (8 * k) : Nat) : Int) := by push_cast; exact hx'
    exact Int.ofNat_lt.1 this
  rw [u64_or _ _ (by omega) (by omega) (by omega) (by omega)]
  have h := Nat.shiftLeft_add_eq_or_of_lt ha b
  rw [Nat.or_comm] at h
  simp only [Int.toNat_natCast]
  omega

set_option maxRecDepth 100000 in
set_option maxHeartbeats 2000000 in
theorem get_ok (g o n c : Nat) (B : Nat → Int) (w : World) (hB : ∀ j, 0 ≤ B j ∧ B j ≤ 255) (h1 : 1 ≤ n) (h8 : n ≤ 8) (hc : ∀ j, j < n → w.cell? ⟨g, o + j, none⟩ = some (.int .u8 (B (o + j)))) :
   Calls Try.prog 109 #[.slice (some ⟨g, o, none⟩) n c] w fun e w' => e = .returned (.tuple #[.int .u64 (le B o n), .int .i64 0]) ∧ w = w' := by
  have HB := Lib.hid hB
  have HC := Lib.hid hc
  clear hB hc
  have d1 : decide (n < 1) = false := by simp; omega
  have d2 : decide (8 < n) = false := by simp; omega
  have d3 : decide ((n : Int) < 1) = false := by simp; omega
  have d4 : decide (8 < (n : Int)) = false := by simp; omega
  go_enter Try.func109, Try.ntmps109
  go_wp2_with fail
  go_loop [2, 4, 5, 16] (fun v _ _ i => ∃ k : Nat, k ≤ n ∧ i = .int .i64 k ∧ v = .int .u64 (le B o k)) (fun _ _ _ i => n - (intOf i).toNat)
  case atStart => exact ⟨0, Nat.zero_le _, rfl, rfl⟩
  case round =>
    obtain ⟨k, hk, rfl, rfl⟩ := hrel
    by_cases hlt : k < n
    · have c0 := HC.out k hlt
      obtain ⟨b1, b2⟩ := HB.out (o + k)
      obtain ⟨x1, x2⟩ := le_bd HB.out o k
      obtain ⟨s1, s2, s3⟩ := or_step (le B o k) (B (o + k)) k x1 x2 b1 b2 (by omega)
      have e4 : IntKind.i64.wrap (8 * (k : Int)) = 8 * (k : Int) := IntWalk.i64_in _ (by omega)
      have HS : Hid (le B o (k + 1) = le B o k + B (o + k) * 2 ^ (8 * k)) := Lib.hid rfl
      obtain ⟨x, hx⟩ : ∃ x, x = le B o k := ⟨_, rfl⟩
      obtain ⟨b, hb⟩ : ∃ b, b = B (o + k) := ⟨_, rfl⟩
      rw [← hx] at HS s1 x1 x2 ⊢
      rw [← hb] at HS s1 s2 s3 b1 b2 c0
      clear hx hb
      go_wp2_with fail
      go_round
      case rel => exact ⟨k + 1, by omega, by go_num, by rw [HS.out]⟩
      case measure => simp [intOf]; omega
    · obtain rfl : n = k := by omega
      go_wp2_with fail
      go_ret2
      exact ⟨rfl, rfl⟩

end Go.Proofs.Ytfmabknhfehdcaa

namespace Go.Proofs.Ytfmabknhfehdcaa
open Go.RowKit

set_option maxHeartbeats 1000000 in
theorem aligned_any (a u : Int) (r : Bool) (w : World) (h0 : 0 ≤ a) (h1 : a ≤ 18446744073709551615) (hu : 0 < u) (hu2 : u ≤ 4096) (hr : (a % u == 0) = r) :
    Calls Try.prog 89 #[.int .u64 a, .int .i64 u] w fun e w' => e = .returned (.bool r) ∧ w = w' := by
  have hr' : (a.tmod u == 0) = r := by rw [Int.tmod_eq_emod_of_nonneg h0]; exact hr
  have hne : (u == 0) = false := beq_eq_false_iff_ne.2 (by omega)
  go_enter Try.func89, Try.ntmps89
  go_wp2_with fail
  go_ret
  exact ⟨rfl, rfl⟩
set_option maxHeartbeats 1000000 in
theorem count_any (a n K : Int) (w : World) (h0 : 0 ≤ a) (h1 : a ≤ 18446744073709551615) (hk : pgs a n = K) :
    Calls Try.prog 67 #[.int .u64 a, .int .i64 n] w fun e w' => e = .returned (.int .i64 K) ∧ w = w' := by
  unfold pgs at hk
  by_cases hn : n < 1
  · rw [if_pos (.inl hn)] at hk
    subst hk
    have q : decide (n < 1) = true := decide_eq_true hn
    go_enter Try.func67, Try.ntmps67
    go_wp2_with fail
    go_ret
    exact ⟨rfl, rfl⟩
  · have q : decide (n < 1) = false := decide_eq_false hn
    by_cases hn2 : 1048576 < n
    · rw [if_pos (.inr hn2)] at hk
      subst hk
      have q2 : decide (1048576 < n) = true := decide_eq_true hn2
      go_enter Try.func67, Try.ntmps67
      go_wp2_with fail
      go_ret
      exact ⟨rfl, rfl⟩
    · rw [if_neg (by omega)] at hk
      have q2 : decide (1048576 < n) = false := decide_eq_false hn2
      have HK := Lib.hid hk
      clear hk
      have b0 : 0 ≤ a % 4096 := by omega
      have b1 : a % 4096 < 4096 := by omega
      go_enter Try.func67, Try.ntmps67
      go_wp2_with fail
      go_ret
      exact ⟨by rw [← HK.out, show a % 4096 + n + 4096 - 1 = a % 4096 + n + 4095 by omega]; rfl, rfl⟩
set_option maxHeartbeats 1000000 in
theorem room_any (l R : Int) (w : World) (h0 : 0 ≤ l) (h1 : l ≤ 18446744073709551615) (hr : roomP l = R) :
    Calls Try.prog 64 #[.int .u64 l] w fun e w' => e = .returned (.int .i64 R) ∧ w = w' := by
  unfold roomP at hr
  have HR := Lib.hid hr
  clear hr
  have b0 : 0 ≤ l % 4096 := by omega
  have b1 : l % 4096 < 4096 := by omega
  go_enter Try.func64, Try.ntmps64
  go_wp2_with fail
  go_ret
  exact ⟨by rw [← HR.out, show 4096 - l % 4096 + 8 - 1 = 4096 - l % 4096 + 7 by omega]; rfl, rfl⟩
theorem roomP_bd (l : Int) : 1 ≤ roomP l ∧ roomP l ≤ 512 := by unfold roomP; omega
set_option maxRecDepth 100000 in
set_option maxHeartbeats 2000000 in
theorem lists_any (l n K : Int) (w : World) (h0 : 0 ≤ l) (h1 : l ≤ 18446744073709551615) (hn0 : -9223372036854775808 ≤ n) (hn1 : n ≤ 9223372036854775807) (hk : lstsP l n = K) :
    Calls Try.prog 63 #[.int .u64 l, .int .i64 n] w fun e w' => e = .returned (.int .i64 K) ∧ w = w' := by
  unfold lstsP at hk
  by_cases c1 : n < 3
  · rw [if_pos (.inl c1)] at hk
    subst hk
    have q : decide (n < 3) = true := decide_eq_true c1
    go_enter Try.func63, Try.ntmps63
    go_wp2_with fail
    go_ret
    exact ⟨rfl, rfl⟩
  · have q : decide (n < 3) = false := decide_eq_false c1
    by_cases c2 : 257 < n
    · rw [if_pos (.inr c2)] at hk
      subst hk
      have q2 : decide (257 < n) = true := decide_eq_true c2
      go_enter Try.func63, Try.ntmps63
      go_wp2_with fail
      go_ret
      exact ⟨rfl, rfl⟩
    · rw [if_neg (by omega)] at hk
      have q2 : decide (257 < n) = false := decide_eq_false c2
      obtain ⟨R, hR⟩ : ∃ z, z = roomP l := ⟨_, rfl⟩
      obtain ⟨r0, r1⟩ := roomP_bd l
      rw [← hR] at hk r0 r1
      have HR := Lib.hid hR.symm
      clear hR
      by_cases c3 : n - 1 ≤ R
      · rw [if_pos c3] at hk
        subst hk
        have q3 : decide (R < n - 1) = false := decide_eq_false (by omega)
        go_enter Try.func63, Try.ntmps63
        go_wp2_with (go_at_call 64; refine (room_any l R _ h0 h1 HR.out).mono ?_; rintro e w' ⟨rfl, rfl⟩)
        refine wp_loop_rounds 3 ?_
        rw [rounds_succ]
        go_wp2_with fail
        go_ret
        exact ⟨rfl, rfl⟩
      · rw [if_neg c3] at hk
        subst hk
        have q3 : decide (R < n - 1) = true := decide_eq_true (by omega)
        have q4 : decide (512 < n - 1 - (R - 1)) = false := decide_eq_false (by omega)
        go_enter Try.func63, Try.ntmps63
        go_wp2_with (go_at_call 64; refine (room_any l R _ h0 h1 HR.out).mono ?_; rintro e w' ⟨rfl, rfl⟩)
        refine wp_loop_rounds 3 ?_
        rw [rounds_succ]
        go_wp2_with fail
        rw [rounds_succ]
        go_wp2_with fail
        go_ret
        exact ⟨rfl, rfl⟩
/-- what clears the results, and what lies there then -/
structure Clears (f : Nat) (cs : Array Value) (S : Nat → Prop) (C C' : World → Prop) : Prop where
  enter : ∀ args w, (callFunc f args).run Try.prog w = .ok (.enter f args) w
  call : ∀ w, C w → Calls Try.prog f cs w fun e w' => e = .returned (.tuple #[]) ∧ Keeps S w w' ∧ C' w'

set_option maxRecDepth 100000 in
set_option maxHeartbeats 4000000 in
theorem caught_panicking (f : Nat) (cs' : Array Value) (S : Nat → Prop) (eb : Nat) (C C' : World → Prop) (x no : Int) (w : World) (hcl : Clears f cs' S C C') (hC : C w) (he : w.cell? ⟨eb, 0, none⟩ = some (.int .i64 x)) (hz : w.frozen? ⟨eb, 0, none⟩ = false) (hne : ¬ S eb)
    (hC' : ∀ a b, C' a → Keeps (One eb) a b → C' b) :
    CallsD Try.prog 59 #[.pointer (some ⟨eb, 0, none⟩), .func (.func f) #[] cs'] (.panicking [pan no]) w fun e u' w' =>
      e = .returned (.tuple #[]) ∧ u' = .panicking [{ pan no with recovered := true }] ∧ Keeps (fun j => S j ∨ j = eb) w w' ∧ C' w' ∧ w'.cell? ⟨eb, 0, none⟩ = some (.int .i64 no) := by
  have HCL := Lib.hid hcl
  have HC := Lib.hid hC
  have HC' := Lib.hid hC'
  have HE := Lib.hid he
  have HZ := Lib.hid hz
  unfold pan
  refine callsD_of_wpS Try.func59 rfl fun c₀ cs hu => ?_
  apply wpS_seq
  apply wpS_region
  simp [wpOpsS, go_sem, recoverD, hu, Try.ntmps59, Exit.thenS]
  refine wpS_of_wp ?_
  have HU := Lib.hid hu
  clear hcl hC hC' he hz hu
  generalize hq : (bodyPostS Try.prog Try.f59 c₀ cs _) = Q
  have HQ := Lib.hid hq
  clear hq
  have hfr : (#[Value.pointer (some ⟨eb, 0, none⟩), Value.func (.func f) #[] cs'] ++ ((Array.replicate 21 undef).setIfInBounds 5 (Value.iface 50 (.int .i64 no))).setIfInBounds 2 (Value.iface 50 (.int .i64 no)) : Array Value) = #[.pointer (some ⟨eb, 0, none⟩), .func (.func f) #[] cs', undef, undef, .iface 50 (.int .i64 no), undef, undef, .iface 50 (.int .i64 no), undef, undef, undef, undef, undef, undef, undef, undef, undef, undef, undef, undef, undef, undef, undef] := by kernel_rfl
  rw [hfr]
  clear hfr
  go_upto_region 2 with (fail)
  have hta : ∀ w, (Instr.typeAssert (.iface 50 (.int .i64 no)) 20 50 true).run Try.prog w = .ok (.tuple #[.int .i64 no, .bool true]) w := fun w => by kernel_rfl
  go_upto_region 3 with (fail)
  go_upto_region 5 with (fail)
  have hen := HCL.out.enter
  have hcall := Lib.hid (HCL.out.call w HC.out)
  go_upto_region 6 with ((with_reducible refine hcall.out.mono ?_); rintro e w1 ⟨rfl, hk, hc1⟩)
  have he1 := hk.cell HE.out (fun e => hne e)
  have hz1 : w1.frozen? ⟨eb, 0, none⟩ = false := (World.frozen?_of_block (w := w) (hk.block eb (World.block_lt_of_cell? _ _ HE.out) (fun e => hne e))).trans HZ.out
  have HK := Lib.hid hk
  have HC1 := Lib.hid hc1
  clear hk hc1 hen hcall
  go_wp2_with fail
  rw [← HQ.out]
  refine ⟨rfl, _, rfl, .tuple #[], ?_, rfl, rfl, (HK.out.mono fun _ _ h => .inl h).trans (((Keeps.refl (One eb) w1).set1 0 (.int .i64 no)).mono fun _ _ h => .inr h), HC'.out _ _ HC1.out ((Keeps.refl (One eb) w1).set1 0 (.int .i64 no)), World.cell?_setCell_same _ _ _ he1⟩
  simp [results, Try.results59]

theorem caught_idle (u v : Value) (w : World) :
    CallsD Try.prog 59 #[u, v] .returning w fun e u' w' => e = .returned (.tuple #[]) ∧ u' = .returning ∧ w' = w := by
  refine callsD_of_wpS Try.func59 rfl fun c₀ cs hu => ?_
  apply wpS_seq
  apply wpS_region
  simp [wpOpsS, go_sem, recoverD, hu, Try.ntmps59, Exit.thenS]
  apply wpS_seq
  apply wpS_region
  simp [wpOpsS, go_sem, recoverD, hu, Try.ntmps59, Exit.thenS]
  refine wpS_cond (t := false) (by simp [Act.eval, Array.replicate]) ?_
  simp only [Bool.false_eq_true, if_false]
  refine wpS_of_wp (wp_skip ?_)
  cases c₀
  simp_all [bodyPostS, results, Try.results59]

/-- the spans cleared -/
theorem clears_spans (cb : Nat) : Clears 96 #[.pointer (some ⟨cb, 0, none⟩)] (One cb) (fun w => (∃ v, w.cell? ⟨cb, 0, none⟩ = some v) ∧ w.frozen? ⟨cb, 0, none⟩ = false) (fun w => w.cell? ⟨cb, 0, none⟩ = some (.slice none 0 0)) := by
  refine ⟨fun args w => by simp [go_sem], fun w h => ?_⟩
  obtain ⟨⟨v, hc⟩, hf⟩ := h
  go_enter Try.func96, Try.ntmps96
  go_wp2_with fail
  go_end0
  exact ⟨rfl, (Keeps.refl _ _).set1 _ _, World.cell?_setCell_same _ _ _ hc⟩
end Go.Proofs.Ytfmabknhfehdcaa
