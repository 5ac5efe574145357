/- sgl: the bytes of a valid descriptor are those of its words. -/
import Derived.Test.YtfmabknhfehdcaaZT20
import Derived.Test.YtfmabknhfehdcaaZT28
import Derived.Test.YtfmabknhfehdcaaZT15
import Derived.Test.YtfmabknhfehdcaaZT35
import Derived.Test.YtfmabknhfehdcaaZT32
namespace Go.Proofs.Ytfmabknhfehdcaa
set_option linter.unusedVariables false
set_option linter.unusedSimpArgs false
open Go.RowKit

end Go.Proofs.Ytfmabknhfehdcaa

namespace Go.Proofs.Ytfmabknhfehdcaa
open Go.RowKit

/-- Decode is the inverse of Encode. -/
theorem dec_enc (d : Dsc) (hv : Vld d) (ho : d.Ok) : decE (word1 d) = 0 ∧ decD d.a (word1 d) = d := by
  obtain ⟨⟨h1, h5⟩, ⟨n0, n1⟩, h3, h4⟩ := hv
  obtain ⟨-, -, -, y0, y1⟩ := ho
  obtain ⟨k, a, n, key⟩ := d
  simp only [] at *
  unfold lim at n1
  unfold decD decE word1
  simp only []
  by_cases k5 : k = 5
  · subst k5
    rw [if_pos rfl] at n1
    have e1 : (n + key * 16777216 + (5 - 1) * 1152921504606846976) / 1152921504606846976 = 4 := by omega
    have e2 : (n + key * 16777216 + (5 - 1) * 1152921504606846976) % 1152921504606846976 = n + key * 16777216 := by omega
    rw [e1, e2]
    have e3 : (n + key * 16777216) / 72057594037927936 = 0 := by omega
    have e4 : (n + key * 16777216) % 16777216 = n := by omega
    have e5 : (n + key * 16777216) / 16777216 = key := by omega
    rw [e3, e4, e5]
    simp
  · rw [if_neg k5] at n1
    obtain rfl : key = 0 := by omega
    have e1 : (n + 0 * 16777216 + (k - 1) * 1152921504606846976) / 1152921504606846976 = k - 1 := by omega
    have e2 : (n + 0 * 16777216 + (k - 1) * 1152921504606846976) % 1152921504606846976 = n := by omega
    rw [e1, e2]
    have e3 : n / 72057594037927936 = 0 := by omega
    have e4 : n / 4294967296 = 0 := by omega
    have e5 : ¬ k - 1 = 4 := by omega
    have e6 : ¬ (5 ≤ k - 1 ∨ n / 72057594037927936 ≠ 0) := by omega
    rw [if_neg e6, if_neg e5, if_neg (by omega), if_neg (by decide), if_neg e5]
    exact ⟨rfl, by rw [show k - 1 + 1 = k by omega]⟩

theorem hz_congr8 {F G : Nat → Int} (h : ∀ i, i < 8 → F i = G i) : hz F 7 8 = hz G 7 8 := by
  simp [hz, h 0, h 1, h 2, h 3, h 4, h 5, h 6, h 7]
/-- Sixteen bytes of a descriptor at an address. -/
def Lies (f : Nat → Int) (A : Nat) (d : Dsc) : Prop := ∀ i, i < 16 → f (A + i) = fwB d.a (word1 d) i
theorem dscAt_lies {f : Nat → Int} {A : Nat} {d : Dsc} (h : Lies f A d) (hv : Vld d) (ho : d.Ok) : errAt f (A : Int) = 0 ∧ dscAt f (A : Int) = d := by
  have e0 : (A : Int).toNat = A := rfl
  have e1 : hz (fun i => f (A + i)) 7 8 = d.a := by
    rw [← fwB_lo d.a (word1 d) ho.a.1 ho.a.2]
    exact hz_congr8 fun i hi => h i (by omega)
  have e2 : hiW (fun i => f (A + i)) = word1 d := by
    obtain ⟨w0, w1⟩ := word1_bd hv ho
    rw [← fwB_hi d.a (word1 d) w0 w1]
    exact hz_congr8 fun i hi => h (8 + i) (by omega)
  obtain ⟨d1, d2⟩ := dec_enc d hv ho
  unfold errAt dscAt
  rw [e0, e1, e2]
  exact ⟨d1, d2⟩
theorem lies_lst (l : Nat → Dsc) (j i : Nat) (hi : i < 16) : lstB l (16 * j + i) = fwB (l j).a (word1 (l j)) i := by
  unfold lstB fwB
  rw [show (16 * j + i) % 16 = i by omega, show (16 * j + i) / 16 = j by omega]
  by_cases h : i < 8
  · rw [if_pos h, if_pos h, Nat.mod_eq_of_lt h]
  · rw [if_neg h, if_neg h, show i % 8 = i - 8 by omega]
theorem lies_upd {f : Nat → Int} {a m : Nat} {l : Nat → Dsc} {j : Nat} (hj : j < m) : Lies (upd f a (16 * m) (lstB l)) (a + 16 * j) (l j) := fun i hi => by
  unfold upd
  rw [if_pos (by omega), show a + 16 * j + i - a = 16 * j + i by omega]
  exact lies_lst l j i hi

section
variable {f : Nat → Int} {size : Nat} {th : Bool} {d d' : Dsc} {s s' : WSt}
theorem run_done (he : exam size th d s = .ok s') (h0 : s'.left = 0) (K : Nat) : runS f size th K d s = .ok s'.out := by
  cases K <;> (unfold runS; rw [he]; simp only [h0, if_true])
theorem run_short (he : exam size th d s = .ok s') (h0 : s'.left ≠ 0) (h1 : ¬ s'.at' < s'.en) (K : Nat) : runS f size th K d s = .error 162 := by
  cases K <;> (unfold runS; rw [he]; simp only [h0, h1, if_false, not_false_eq_true, if_true])
theorem run_step (he : exam size th d s = .ok s') (h0 : s'.left ≠ 0) (h1 : s'.at' < s'.en) {A : Nat} (hA : s'.at' = A) (hl : Lies f A d') (hv : Vld d') (ho : d'.Ok) (K : Nat) :
    runS f size th (K + 1) d s = runS f size th K d' { s' with at' := s'.at' + 16 } := by
  obtain ⟨e1, e2⟩ := dscAt_lies hl hv ho
  rw [← hA] at e1 e2
  rw [runS, he]
  simp only [h0, h1, e1, e2, hv, if_false, not_true_eq_false, ne_eq]
end

/-- What is left, and what was found. -/
abbrev LO := Int × List Spn
def addP (x : Spn) (p : LO) : LO := if 0 < min x.n p.1 then (p.1 - min x.n p.1, p.2 ++ [{ x with n := min x.n p.1 }]) else p
def stp (th : Bool) (d : Dsc) (p : LO) : LO := if d.k = 2 then (if th then addP ⟨0, d.n, true⟩ p else p) else addP ⟨d.a, d.n, false⟩ p
def WSt.lo (s : WSt) : LO := (s.left, s.out)
def WSt.set (s : WSt) (p : LO) : WSt := { s with left := p.1, out := p.2 }
theorem addS_set (x : Spn) (s : WSt) : addS x s = s.set (addP x s.lo) := by
  unfold addS addP WSt.set WSt.lo
  simp only []
  split <;> rfl
theorem exam_blk {size : Nat} {th : Bool} {d : Dsc} {s : WSt} (hg : Good d) (hc : d.k = 2 ∨ chk size d.a d.n = 0) : exam size th d s = .ok (s.set (stp th d s.lo)) := by
  unfold exam stp
  rw [if_neg (fun c => c.elim hg.2.1 hg.2.2)]
  by_cases h2 : d.k = 2
  · rw [if_pos h2, if_pos h2]
    cases th
    · rfl
    · rw [if_pos rfl, if_pos rfl, addS_set]
  · rw [if_neg h2, if_neg h2, if_neg (fun c => c (hc.resolve_left h2)), addS_set]
/-- the first k of a list -/
def fold (th : Bool) (l : Nat → Dsc) : Nat → LO → LO
  | 0, p => p
  | k + 1, p => stp th (l k) (fold th l k p)
theorem stp_zero (th : Bool) (d : Dsc) (p : LO) (h : p.1 = 0) : stp th d p = p := by
  have ha : ∀ x : Spn, addP x p = p := fun x => by
    unfold addP
    rw [if_neg (by rw [h]; omega)]
  unfold stp
  rw [ha, ha]
  split <;> (try split) <;> rfl
theorem fold_zero (th : Bool) (l : Nat → Dsc) (p : LO) {m n : Nat} (hm : m ≤ n) (h : (fold th l m p).1 = 0) : fold th l n p = fold th l m p := by
  induction n with
  | zero => obtain rfl : m = 0 := by omega
            rfl
  | succ n ih =>
    by_cases e : m = n + 1
    · subst e; rfl
    · show stp th (l n) (fold th l n p) = _
      rw [ih (by omega), stp_zero _ _ _ h]
theorem fold_first (th : Bool) (l : Nat → Dsc) (p : LO) (hp : p.1 ≠ 0) (n : Nat) (h : (fold th l n p).1 = 0) : ∃ m, m < n ∧ (fold th l m p).1 ≠ 0 ∧ (fold th l (m + 1) p).1 = 0 := by
  induction n with
  | zero => exact absurd h hp
  | succ n ih =>
    by_cases e : (fold th l n p).1 = 0
    · obtain ⟨m, h1, h2⟩ := ih e
      exact ⟨m, by omega, h2⟩
    · exact ⟨n, by omega, e, h⟩
/-- Blocks at an address, each of which may be read. -/
structure Seg (f : Nat → Int) (size : Nat) (A n : Nat) (l : Nat → Dsc) : Prop where
  lies : ∀ j, j < n → Lies f (A + 16 * j) (l j)
  good : ∀ j, j < n → Good (l j)
  ok : ∀ j, j < n → (l j).Ok
  chk : ∀ j, j < n → (l j).k = 2 ∨ chk size (l j).a (l j).n = 0
/-- The first m of them are walked through; what follows is d'. -/
theorem run_pre {f : Nat → Int} {size : Nat} {th : Bool} {A m : Nat} {l : Nat → Dsc} {s : WSt} (hS : Seg f size A m l) (hA : s.at' = ((A + 16 : Nat) : Int)) (d' : Dsc) (hl : Lies f (A + 16 * m) d') (hv : Vld d') (ho : d'.Ok)
    (he : ((A + 16 * m : Nat) : Int) < s.en) (h0 : (fold th l m s.lo).1 ≠ 0) (K : Nat) : m ≠ 0 →
    runS f size th (K + m) (l 0) s = runS f size th K d' { s.set (fold th l m s.lo) with at' := ((A + 16 * (m + 1) : Nat) : Int) } := by
  induction m generalizing d' K with
  | zero => exact fun h => absurd rfl h
  | succ m ih =>
    intro _
    have h0' : (fold th l m s.lo).1 ≠ 0 := fun e => h0 (by rw [fold_zero th l s.lo (Nat.le_succ m) e]; exact e)
    have hx := exam_blk (th := th) (size := size) (s := { s.set (fold th l m s.lo) with at' := ((A + 16 * (m + 1) : Nat) : Int) }) (hS.good m (by omega)) (hS.chk m (by omega))
    have hst := run_step (f := f) (s' := { s.set (fold th l (m + 1) s.lo) with at' := ((A + 16 * (m + 1) : Nat) : Int) }) hx h0 he rfl hl hv ho K
    by_cases hm : m = 0
    · subst hm
      have e : ({ s.set (fold th l 0 s.lo) with at' := ((A + 16 * (0 + 1) : Nat) : Int) } : WSt) = s := by
        rw [show A + 16 * (0 + 1) = A + 16 by omega, ← hA]; rfl
      rw [e] at hst
      rw [show K + (0 + 1) = K + 1 by omega, hst]
      rfl
    · have := ih ⟨fun j hj => hS.lies j (by omega), fun j hj => hS.good j (by omega), fun j hj => hS.ok j (by omega), fun j hj => hS.chk j (by omega)⟩ (l m) (hS.lies m (by omega)) (hS.good m (by omega)).1 (hS.ok m (by omega)) (by omega) h0' (K + 1) hm
      rw [show K + (m + 1) = K + 1 + m by omega, this, hst]
      rfl
/-- A segment that is the last: what it gives. -/
theorem run_seg {f : Nat → Int} {size : Nat} {th : Bool} {A n : Nat} {l : Nat → Dsc} {s : WSt} (hS : Seg f size A n l) (hA : s.at' = ((A + 16 : Nat) : Int)) (hn : 1 ≤ n) (he : s.en = ((A + 16 * n : Nat) : Int)) (h0 : s.left ≠ 0) (K : Nat) (hK : n ≤ K + 1) :
    runS f size th K (l 0) s = if (fold th l n s.lo).1 = 0 then .ok (fold th l n s.lo).2 else .error 162 := by
  have key : ∀ m, m < n → (fold th l m s.lo).1 ≠ 0 → ∃ K', runS f size th K (l 0) s = runS f size th K' (l m) { s.set (fold th l m s.lo) with at' := ((A + 16 * (m + 1) : Nat) : Int) } := fun m hm hx => by
    by_cases hm0 : m = 0
    · subst hm0
      refine ⟨K, ?_⟩
      have e : ({ s.set (fold th l 0 s.lo) with at' := ((A + 16 * (0 + 1) : Nat) : Int) } : WSt) = s := by
        rw [show A + 16 * (0 + 1) = A + 16 by omega, ← hA]; rfl
      rw [e]
    · refine ⟨K - m, ?_⟩
      have h := run_pre (K := K - m) (th := th) (m := m) ⟨fun j hj => hS.lies j (by omega), fun j hj => hS.good j (by omega), fun j hj => hS.ok j (by omega), fun j hj => hS.chk j (by omega)⟩ hA (l m) (hS.lies m hm) (hS.good m hm).1 (hS.ok m hm) (by omega) hx hm0
      rw [show K - m + m = K by omega] at h
      exact h
  by_cases hz : (fold th l n s.lo).1 = 0
  · rw [if_pos hz]
    obtain ⟨m, hm, h1, h2⟩ := fold_first th l s.lo h0 n hz
    obtain ⟨K', e⟩ := key m hm h1
    rw [e]
    have hx := exam_blk (th := th) (size := size) (s := { s.set (fold th l m s.lo) with at' := ((A + 16 * (m + 1) : Nat) : Int) }) (hS.good m hm) (hS.chk m hm)
    have hd := run_done (f := f) (s' := { s.set (fold th l (m + 1) s.lo) with at' := ((A + 16 * (m + 1) : Nat) : Int) }) hx h2 K'
    rw [hd, fold_zero th l s.lo (m := m + 1) (n := n) (by omega) h2]
    rfl
  · rw [if_neg hz]
    obtain ⟨m, rfl⟩ : ∃ m, n = m + 1 := ⟨n - 1, by omega⟩
    have h1 : (fold th l m s.lo).1 ≠ 0 := fun e => hz (by rw [fold_zero th l s.lo (Nat.le_succ m) e]; exact e)
    obtain ⟨K', e⟩ := key m (by omega) h1
    rw [e]
    have hx := exam_blk (th := th) (size := size) (s := { s.set (fold th l m s.lo) with at' := ((A + 16 * (m + 1) : Nat) : Int) }) (hS.good m (by omega)) (hS.chk m (by omega))
    exact run_short (f := f) (s' := { s.set (fold th l (m + 1) s.lo) with at' := ((A + 16 * (m + 1) : Nat) : Int) }) hx hz (by show ¬ ((A + 16 * (m + 1) : Nat) : Int) < s.en; omega) K'
end Go.Proofs.Ytfmabknhfehdcaa

namespace Go.Proofs.Ytfmabknhfehdcaa
open Go.RowKit

theorem chk_fit {size : Nat} {a n : Int} (ha : 0 ≤ a) (hn : 0 ≤ n) (h : a + n ≤ size) : chk size a n = 0 := by
  unfold chk
  rw [if_neg (by omega), if_pos (by omega)]
theorem exam_seg {size : Nat} {th : Bool} {k : Int} (hk : k = 3 ∨ k = 4) {A n : Nat} (hn : 1 ≤ n) (hf : A + 16 * n ≤ size) {s : WSt} (hi : s.ins = false ∨ (s.las = false ∧ s.at' = s.en)) :
    exam size th ⟨k, A, (16 * n : Nat), 0⟩ s = .ok { s with ins := true, las := decide (k = 4), at' := (A : Int), en := ((A + 16 * n : Nat) : Int) } := by
  unfold exam
  rw [if_pos hk, if_neg (fun c => c ⟨by show (0 : Int) < ((16 * n : Nat) : Int); omega, by show ((16 * n : Nat) : Int) % 16 = 0; omega, hi⟩), if_neg (fun c => c (chk_fit (by show (0 : Int) ≤ (A : Int); omega) (by show (0 : Int) ≤ ((16 * n : Nat) : Int); omega) (by show ((A : Nat) : Int) + ((16 * n : Nat) : Int) ≤ _; omega)))]
  rfl
theorem vld_seg {k : Int} (hk : k = 3 ∨ k = 4) {A n : Nat} (hn : 16 * n < 4294967296) : Vld ⟨k, A, (16 * n : Nat), 0⟩ := by
  refine ⟨⟨by show 1 ≤ k; omega, by show k ≤ 5; omega⟩, ⟨by show (0 : Int) ≤ ((16 * n : Nat) : Int); omega, ?_⟩, .inl rfl, .inr (by show k ≠ 2; omega)⟩
  show ((16 * n : Nat) : Int) < lim k
  unfold lim
  rw [if_neg (by omega)]
  omega
theorem ok_seg {k : Int} (hk : k = 3 ∨ k = 4) {A n : Nat} (hA : A ≤ 18446744073709551615) (hn : 16 * n < 4294967296) : (⟨k, A, (16 * n : Nat), 0⟩ : Dsc).Ok :=
  ⟨by show -9223372036854775808 ≤ k ∧ k ≤ 9223372036854775807; omega, by show (0 : Int) ≤ (A : Int) ∧ (A : Int) ≤ 18446744073709551615; omega, by show (-9223372036854775808 : Int) ≤ ((16 * n : Nat) : Int) ∧ ((16 * n : Nat) : Int) ≤ 9223372036854775807; omega, by show (0 : Int) ≤ 0 ∧ (0 : Int) ≤ 4294967295; omega⟩

/-- One list. -/
theorem spans_last {f : Nat → Int} {size A n : Nat} {l : Nat → Dsc} {N : Int} {th : Bool} (hS : Seg f size A n l) (hn : 1 ≤ n) (hn2 : n ≤ 1023) (hf : A + 16 * n ≤ size) (hN0 : 0 ≤ N) (hN1 : N ≤ 1048576) :
    spansM f size ⟨4, A, (16 * n : Nat), 0⟩ N th = if (fold th l n (N, [])).1 = 0 then .ok (fold th l n (N, [])).2 else .error 162 := by
  unfold spansM
  rw [if_neg (fun c => c ⟨vld_seg (k := 4) (.inr rfl) (A := A) (n := n) (by omega), hN0, hN1⟩)]
  by_cases h0 : N = 0
  · subst h0
    rw [if_pos rfl, fold_zero th l ((0 : Int), []) (m := 0) (n := n) (by omega) rfl]
    rfl
  · rw [if_neg h0]
    have hx := exam_seg (th := th) (k := 4) (.inr rfl) hn hf (s := ⟨false, false, 0, 0, N, []⟩) (.inl rfl)
    rw [run_step (K := 1022) (f := f) hx h0 (by show ((A : Nat) : Int) < ((A + 16 * n : Nat) : Int); omega) (A := A) rfl (by have := hS.lies 0 (by omega); simpa using this) (hS.good 0 (by omega)).1 (hS.ok 0 (by omega))]
    exact run_seg hS (by show ((A : Nat) : Int) + 16 = _; omega) hn rfl h0 1022 (by omega)

/-- the list of SglBounds: 1022 blocks without a byte, one of n bytes, one more -/
def bnL (n : Int) (i : Nat) : Dsc := if i < 1022 then ⟨1, ((16384 + i : Nat) : Int), 0, 0⟩ else if i = 1022 then ⟨1, 20000, n, 0⟩ else ⟨1, 0, 1, 0⟩
end Go.Proofs.Ytfmabknhfehdcaa

namespace Go.Proofs.Ytfmabknhfehdcaa
open Go.RowKit

section
variable {K : Nat} {p : Nat → Int} {o N : Int} (h : TArg K p o N) (hN : 1 ≤ N)
include h hN
theorem targ_k : 1 ≤ K ∧ K ≤ 257 ∧ 4096 * (K : Int) < o + N + 4096 ∧ o + N ≤ 4096 * K := by
  have hk := h.k
  unfold pgs at hk
  rw [if_neg (by have := h.n1; omega), Int.emod_eq_of_lt h.o0 h.o1] at hk
  have := h.n1; have := h.o0; have := h.o1
  omega
theorem bN_eq : ∀ k, k < K → bN o N k = if k = 0 then N else N + o - 4096 * k
  | 0, _ => rfl
  | k + 1, hk => by
    have ih := bN_eq k (by omega)
    obtain ⟨k1, k2, k3, k4⟩ := targ_k h hN
    have := h.o0; have := h.o1
    show bN o N k - min (bN o N k) (4096 - bO o k) = _
    rw [if_neg (by omega), ih]
    unfold bO
    by_cases e : k = 0
    · subst e
      simp only [if_true]
      omega
    · rw [if_neg e, if_neg e]
      omega
theorem bN_pos {k : Nat} (hk : k < K) : 1 ≤ bN o N k := by
  have e := bN_eq h hN k hk
  obtain ⟨k1, k2, k3, k4⟩ := targ_k h hN
  rw [e]
  split
  · exact hN
  · omega
theorem len_eq {k : Nat} (hk : k < K) : min (bN o N k) (4096 - bO o k) = lenP o N k := by
  rw [bN_eq h hN k hk]
  unfold lenP bO
  split <;> omega
theorem bD_eq {k : Nat} (hk : k < K) : bD p o N k = ⟨1, adP p o k, lenP o N k, 0⟩ := by
  unfold bD
  rw [len_eq h hN hk]
  unfold adP bO
  split
  · rename_i e; rw [e]
  · simp
theorem bN_end : bN o N K = 0 := by
  obtain ⟨k1, k2, k3, k4⟩ := targ_k h hN
  obtain ⟨k, rfl⟩ : ∃ k, K = k + 1 := ⟨K - 1, by omega⟩
  have e := bN_eq h hN k (by omega)
  have := h.o0; have := h.o1
  show bN o N k - min (bN o N k) (4096 - bO o k) = 0
  rw [e]
  unfold bO
  split <;> omega
theorem fold_out (th : Bool) : ∀ k, k ≤ K → fold th (bD p o N) k (N, []) = (bN o N k, outP p o N k)
  | 0, _ => rfl
  | k + 1, hk => by
    have ih := fold_out th k (by omega)
    show stp th (bD p o N k) (fold th (bD p o N) k (N, [])) = _
    rw [ih, bD_eq h hN (by omega : k < K)]
    have hl := len_eq h hN (by omega : k < K)
    have hp := bN_pos h hN (by omega : k < K)
    have ho : bO o k < 4096 := by have := h.o1; unfold bO; split <;> omega
    unfold stp
    rw [if_neg (show ¬ (1 : Int) = 2 by decide)]
    unfold addP
    simp only []
    have hm : min (lenP o N k) (bN o N k) = lenP o N k := by omega
    rw [hm, if_pos (by omega), outP_succ]
    have e : bN o N (k + 1) = bN o N k - lenP o N k := by rw [← hl]; rfl
    rw [e]
omit hN in
theorem bD_ok {size : Nat} (hz : size ≤ 4194304) (hp : ∀ i, i < K → 0 ≤ p i ∧ p i + 4096 ≤ size) {k : Nat} (hk : k < K) (hb : 0 ≤ bN o N k ∧ bN o N k ≤ N) : Good (bD p o N k) ∧ (bD p o N k).Ok := by
  obtain ⟨h1, h2⟩ := hp k hk
  have := h.n1
  have ho : 0 ≤ bO o k ∧ bO o k < 4096 := by have := h.o0; have := h.o1; unfold bO; split <;> omega
  have hl : lim 1 = 4294967296 := by unfold lim; rfl
  refine ⟨⟨⟨⟨by show (1 : Int) ≤ 1; omega, by show (1 : Int) ≤ 5; omega⟩, ⟨by show 0 ≤ min (bN o N k) (4096 - bO o k); omega, by show min (bN o N k) (4096 - bO o k) < lim 1; rw [hl]; omega⟩, .inl rfl, .inr (by show (1 : Int) ≠ 2; omega)⟩, by show (1 : Int) ≠ 3; omega, by show (1 : Int) ≠ 4; omega⟩, ?_⟩
  exact ⟨⟨by show (-9223372036854775808 : Int) ≤ 1; omega, by show (1 : Int) ≤ 9223372036854775807; omega⟩, ⟨by show 0 ≤ p k + bO o k; omega, by show p k + bO o k ≤ 18446744073709551615; omega⟩, ⟨by show -9223372036854775808 ≤ min (bN o N k) (4096 - bO o k); omega, by show min (bN o N k) (4096 - bO o k) ≤ 9223372036854775807; omega⟩, ⟨Int.le_refl 0, by show (0 : Int) ≤ 4294967295; omega⟩⟩
theorem bD_chk {size : Nat} (hp : ∀ i, i < K → 0 ≤ p i ∧ p i + 4096 ≤ size) {k : Nat} (hk : k < K) : chk size (bD p o N k).a (bD p o N k).n = 0 := by
  obtain ⟨h1, h2⟩ := hp k hk
  have hb := bN_pos h hN hk
  have ho : 0 ≤ bO o k ∧ bO o k < 4096 := by have := h.o0; have := h.o1; unfold bO; split <;> omega
  exact chk_fit (by show 0 ≤ p k + bO o k; omega) (by show 0 ≤ min (bN o N k) (4096 - bO o k); omega) (by show p k + bO o k + min (bN o N k) (4096 - bO o k) ≤ size; omega)
/-- many pages: a list that lies at A -/
theorem spans_sgl {size A : Nat} {f F2 : Nat → Int} (hz : size ≤ 4194304) (hp : ∀ i, i < K → 0 ≤ p i ∧ p i + 4096 ≤ size) (hA : A + 16 * K ≤ size) (hag : ∀ j, A ≤ j → F2 j = upd f A (16 * K) (lstB (bD p o N)) j) (th : Bool) :
    spansM F2 size ⟨4, A, (16 * K : Nat), 0⟩ N th = .ok (outP p o N K) := by
  obtain ⟨k1, k2, k3, k4⟩ := targ_k h hN
  have hbd := fun k => bN_bd h.n0 h.o0 h.o1 k
  have hS : Seg F2 size A K (bD p o N) := ⟨fun j hj i hi => by rw [hag _ (by omega)]; exact lies_upd hj i hi, fun j hj => (bD_ok h hz hp hj (hbd j)).1, fun j hj => (bD_ok h hz hp hj (hbd j)).2, fun j hj => .inr (bD_chk h hN hp hj)⟩
  rw [spans_last hS k1 (by omega) hA h.n0 h.n1, fold_out h hN th K (Nat.le_refl _), bN_end h hN, if_pos rfl]
/-- one page -/
theorem spans_one1 {size : Nat} {F2 : Nat → Int} (hz : size ≤ 4194304) (hp : ∀ i, i < K → 0 ≤ p i ∧ p i + 4096 ≤ size) (hK : K = 1) (th : Bool) : spansM F2 size (bD p o N 0) N th = .ok (outP p o N K) := by
  have hg := bD_ok h hz hp (by omega : 0 < K) (bN_bd h.n0 h.o0 h.o1 0)
  have hf := fold_out h hN th 1 (by omega)
  have he := bN_end h hN
  unfold spansM
  rw [if_neg (fun c => c ⟨hg.1.1, h.n0, h.n1⟩), if_neg (by omega)]
  have hx := exam_blk (size := size) (th := th) (s := ⟨false, false, 0, 0, N, []⟩) hg.1 (.inr (bD_chk h hN hp (by omega : 0 < K)))
  have e : stp th (bD p o N 0) (WSt.lo ⟨false, false, 0, 0, N, []⟩) = (bN o N 1, outP p o N 1) := hf
  rw [e] at hx
  subst hK
  rw [run_done hx (by show bN o N 1 = 0; exact he)]
  rfl
end
theorem spans_no (f : Nat → Int) (size : Nat) (th : Bool) : spansM f size ⟨1, 0, 0, 0⟩ 0 th = .ok [] := by
  unfold spansM
  rw [if_neg (fun c => c ⟨by decide, by omega, by omega⟩), if_pos rfl]
end Go.Proofs.Ytfmabknhfehdcaa
