/- sgl: the bytes of a valid descriptor are those of its words. -/
import Derived.Test.YtcljbmkdflkeeaaSF
import Derived.Test.YtcljbmkdflkeeaaSN
namespace Go.Proofs.Ytcljbmkdflkeeaa
set_option linter.unusedVariables false
set_option linter.unusedSimpArgs false
open Go.RowKit

set_option maxRecDepth 100000 in
set_option maxHeartbeats 2000000 in
theorem dB_word (d : Dsc) (hv : Vld d) (ho : d.Ok) (j : Nat) (hj : j < 16) : dB d j = fwB d.a (word1 d) j := by
  obtain ⟨⟨h1, h5⟩, ⟨n0, n1⟩, h3, h4⟩ := hv
  obtain ⟨-, -, -, y0, y1⟩ := ho
  unfold lim at n1
  by_cases h8 : j < 8
  · unfold dB fwB
    rw [if_neg (by omega), if_neg (by omega), if_pos h8, if_pos h8, Nat.mod_eq_of_lt h8]
  · unfold dB fwB byteOf word1
    by_cases k5 : d.k = 5
    · rw [if_pos k5] at n1
      rw [k5]
      obtain rfl | rfl | rfl | rfl | rfl | rfl | rfl | rfl : j = 8 ∨ j = 9 ∨ j = 10 ∨ j = 11 ∨ j = 12 ∨ j = 13 ∨ j = 14 ∨ j = 15 := by omega
      all_goals
        simp
        omega
    · rw [if_neg k5] at n1
      have hk : d.key = 0 := by omega
      rw [hk]
      obtain rfl | rfl | rfl | rfl | rfl | rfl | rfl | rfl : j = 8 ∨ j = 9 ∨ j = 10 ∨ j = 11 ∨ j = 12 ∨ j = 13 ∨ j = 14 ∨ j = 15 := by omega
      all_goals
        simp [k5]
        try omega
theorem words_lo (d : Dsc) (hv : Vld d) (ho : d.Ok) : hz (dB d) 7 8 = d.a := by
  have h := fwB_lo d.a (word1 d) ho.a.1 ho.a.2
  rw [← h]
  simp [hz, dB_word d hv ho]
theorem words_hi (d : Dsc) (hv : Vld d) (ho : d.Ok) : hz (fun i => dB d (8 + i)) 7 8 = word1 d := by
  obtain ⟨h1, h2⟩ := word1_bd hv ho
  have h := fwB_hi d.a (word1 d) h1 h2
  rw [← h]
  unfold hiW
  simp [hz, dB_word d hv ho]
end Go.Proofs.Ytcljbmkdflkeeaa

namespace Go.Proofs.Ytcljbmkdflkeeaa
open Go.RowKit

/-- Decode is the inverse of Encode. -/
theorem dec_enc (d : Dsc) (hv : Vld d) (ho : d.Ok) : decE (word1 d) = 0 ∧ decD d.a (word1 d) = d := by
  obtain ⟨⟨h1, h5⟩, ⟨n0, n1⟩, h3, h4⟩ := hv
  obtain ⟨-, -, -, y0, y1⟩ := ho
  obtain ⟨k, a, n, key⟩ := d
  simp only [] at *
  unfold lim at n1
  unfold decD decE word1
  simp only []
  by_cases k5 : k = 5
  · subst k5
    rw [if_pos rfl] at n1
    have e1 : (n + key * 16777216 + (5 - 1) * 1152921504606846976) / 1152921504606846976 = 4 := by omega
    have e2 : (n + key * 16777216 + (5 - 1) * 1152921504606846976) % 1152921504606846976 = n + key * 16777216 := by omega
    rw [e1, e2]
    have e3 : (n + key * 16777216) / 72057594037927936 = 0 := by omega
    have e4 : (n + key * 16777216) % 16777216 = n := by omega
    have e5 : (n + key * 16777216) / 16777216 = key := by omega
    rw [e3, e4, e5]
    simp
  · rw [if_neg k5] at n1
    obtain rfl : key = 0 := by omega
    have e1 : (n + 0 * 16777216 + (k - 1) * 1152921504606846976) / 1152921504606846976 = k - 1 := by omega
    have e2 : (n + 0 * 16777216 + (k - 1) * 1152921504606846976) % 1152921504606846976 = n := by omega
    rw [e1, e2]
    have e3 : n / 72057594037927936 = 0 := by omega
    have e4 : n / 4294967296 = 0 := by omega
    have e5 : ¬ k - 1 = 4 := by omega
    have e6 : ¬ (5 ≤ k - 1 ∨ n / 72057594037927936 ≠ 0) := by omega
    rw [if_neg e6, if_neg e5, if_neg (by omega), if_neg (by decide), if_neg e5]
    exact ⟨rfl, by rw [show k - 1 + 1 = k by omega]⟩

theorem hz_congr8 {F G : Nat → Int} (h : ∀ i, i < 8 → F i = G i) : hz F 7 8 = hz G 7 8 := by
  simp [hz, h 0, h 1, h 2, h 3, h 4, h 5, h 6, h 7]
/-- Sixteen bytes of a descriptor at an address. -/
def Lies (f : Nat → Int) (A : Nat) (d : Dsc) : Prop := ∀ i, i < 16 → f (A + i) = fwB d.a (word1 d) i
theorem dscAt_lies {f : Nat → Int} {A : Nat} {d : Dsc} (h : Lies f A d) (hv : Vld d) (ho : d.Ok) : errAt f (A : Int) = 0 ∧ dscAt f (A : Int) = d := by
  have e0 : (A : Int).toNat = A := rfl
  have e1 : hz (fun i => f (A + i)) 7 8 = d.a := by
    rw [← fwB_lo d.a (word1 d) ho.a.1 ho.a.2]
    exact hz_congr8 fun i hi => h i (by omega)
  have e2 : hiW (fun i => f (A + i)) = word1 d := by
    obtain ⟨w0, w1⟩ := word1_bd hv ho
    rw [← fwB_hi d.a (word1 d) w0 w1]
    exact hz_congr8 fun i hi => h (8 + i) (by omega)
  obtain ⟨d1, d2⟩ := dec_enc d hv ho
  unfold errAt dscAt
  rw [e0, e1, e2]
  exact ⟨d1, d2⟩
theorem lies_lst (l : Nat → Dsc) (j i : Nat) (hi : i < 16) : lstB l (16 * j + i) = fwB (l j).a (word1 (l j)) i := by
  unfold lstB fwB
  rw [show (16 * j + i) % 16 = i by omega, show (16 * j + i) / 16 = j by omega]
  by_cases h : i < 8
  · rw [if_pos h, if_pos h, Nat.mod_eq_of_lt h]
  · rw [if_neg h, if_neg h, show i % 8 = i - 8 by omega]
theorem lies_upd {f : Nat → Int} {a m : Nat} {l : Nat → Dsc} {j : Nat} (hj : j < m) : Lies (upd f a (16 * m) (lstB l)) (a + 16 * j) (l j) := fun i hi => by
  unfold upd
  rw [if_pos (by omega), show a + 16 * j + i - a = 16 * j + i by omega]
  exact lies_lst l j i hi

section
variable {f : Nat → Int} {size : Nat} {th : Bool} {d d' : Dsc} {s s' : WSt}
theorem run_done (he : exam size th d s = .ok s') (h0 : s'.left = 0) (K : Nat) : runS f size th K d s = .ok s'.out := by
  cases K <;> (unfold runS; rw [he]; simp only [h0, if_true])
theorem run_short (he : exam size th d s = .ok s') (h0 : s'.left ≠ 0) (h1 : ¬ s'.at' < s'.en) (K : Nat) : runS f size th K d s = .error 162 := by
  cases K <;> (unfold runS; rw [he]; simp only [h0, h1, if_false, not_false_eq_true, if_true])
theorem run_long (he : exam size th d s = .ok s') (h0 : s'.left ≠ 0) (h1 : s'.at' < s'.en) : runS f size th 0 d s = .error 5 := by
  unfold runS
  rw [he]
  simp only [h0, h1, if_false, not_true_eq_false]
theorem run_step (he : exam size th d s = .ok s') (h0 : s'.left ≠ 0) (h1 : s'.at' < s'.en) {A : Nat} (hA : s'.at' = A) (hl : Lies f A d') (hv : Vld d') (ho : d'.Ok) (K : Nat) :
    runS f size th (K + 1) d s = runS f size th K d' { s' with at' := s'.at' + 16 } := by
  obtain ⟨e1, e2⟩ := dscAt_lies hl hv ho
  rw [← hA] at e1 e2
  rw [runS, he]
  simp only [h0, h1, e1, e2, hv, if_false, not_true_eq_false, ne_eq]
end

/-- What is left, and what was found. -/
abbrev LO := Int × List Spn
def addP (x : Spn) (p : LO) : LO := if 0 < min x.n p.1 then (p.1 - min x.n p.1, p.2 ++ [{ x with n := min x.n p.1 }]) else p
def stp (th : Bool) (d : Dsc) (p : LO) : LO := if d.k = 2 then (if th then addP ⟨0, d.n, true⟩ p else p) else addP ⟨d.a, d.n, false⟩ p
def WSt.lo (s : WSt) : LO := (s.left, s.out)
def WSt.set (s : WSt) (p : LO) : WSt := { s with left := p.1, out := p.2 }
theorem addS_set (x : Spn) (s : WSt) : addS x s = s.set (addP x s.lo) := by
  unfold addS addP WSt.set WSt.lo
  simp only []
  split <;> rfl
theorem exam_blk {size : Nat} {th : Bool} {d : Dsc} {s : WSt} (hg : Good d) (hc : d.k = 2 ∨ chk size d.a d.n = 0) : exam size th d s = .ok (s.set (stp th d s.lo)) := by
  unfold exam stp
  rw [if_neg (fun c => c.elim hg.2.1 hg.2.2)]
  by_cases h2 : d.k = 2
  · rw [if_pos h2, if_pos h2]
    cases th
    · rfl
    · rw [if_pos rfl, if_pos rfl, addS_set]
  · rw [if_neg h2, if_neg h2, if_neg (fun c => c (hc.resolve_left h2)), addS_set]
/-- the first k of a list -/
def fold (th : Bool) (l : Nat → Dsc) : Nat → LO → LO
  | 0, p => p
  | k + 1, p => stp th (l k) (fold th l k p)
theorem stp_zero (th : Bool) (d : Dsc) (p : LO) (h : p.1 = 0) : stp th d p = p := by
  have ha : ∀ x : Spn, addP x p = p := fun x => by
    unfold addP
    rw [if_neg (by rw [h]; omega)]
  unfold stp
  rw [ha, ha]
  split <;> (try split) <;> rfl
theorem fold_zero (th : Bool) (l : Nat → Dsc) (p : LO) {m n : Nat} (hm : m ≤ n) (h : (fold th l m p).1 = 0) : fold th l n p = fold th l m p := by
  induction n with
  | zero => obtain rfl : m = 0 := by omega
            rfl
  | succ n ih =>
    by_cases e : m = n + 1
    · subst e; rfl
    · show stp th (l n) (fold th l n p) = _
      rw [ih (by omega), stp_zero _ _ _ h]
theorem fold_first (th : Bool) (l : Nat → Dsc) (p : LO) (hp : p.1 ≠ 0) (n : Nat) (h : (fold th l n p).1 = 0) : ∃ m, m < n ∧ (fold th l m p).1 ≠ 0 ∧ (fold th l (m + 1) p).1 = 0 := by
  induction n with
  | zero => exact absurd h hp
  | succ n ih =>
    by_cases e : (fold th l n p).1 = 0
    · obtain ⟨m, h1, h2⟩ := ih e
      exact ⟨m, by omega, h2⟩
    · exact ⟨n, by omega, e, h⟩
theorem fold_shift (th : Bool) (l : Nat → Dsc) (p : LO) (k n : Nat) : fold th (fun i => l (k + i)) n (fold th l k p) = fold th l (k + n) p := by
  induction n with
  | zero => rfl
  | succ n ih => show stp th (l (k + n)) _ = stp th (l (k + n)) _; rw [ih]; rfl

/-- Blocks at an address, each of which may be read. -/
structure Seg (f : Nat → Int) (size : Nat) (A n : Nat) (l : Nat → Dsc) : Prop where
  lies : ∀ j, j < n → Lies f (A + 16 * j) (l j)
  good : ∀ j, j < n → Good (l j)
  ok : ∀ j, j < n → (l j).Ok
  chk : ∀ j, j < n → (l j).k = 2 ∨ chk size (l j).a (l j).n = 0
/-- The first m of them are walked through; what follows is d'. -/
theorem run_pre {f : Nat → Int} {size : Nat} {th : Bool} {A m : Nat} {l : Nat → Dsc} {s : WSt} (hS : Seg f size A m l) (hA : s.at' = ((A + 16 : Nat) : Int)) (d' : Dsc) (hl : Lies f (A + 16 * m) d') (hv : Vld d') (ho : d'.Ok)
    (he : ((A + 16 * m : Nat) : Int) < s.en) (h0 : (fold th l m s.lo).1 ≠ 0) (K : Nat) : m ≠ 0 →
    runS f size th (K + m) (l 0) s = runS f size th K d' { s.set (fold th l m s.lo) with at' := ((A + 16 * (m + 1) : Nat) : Int) } := by
  induction m generalizing d' K with
  | zero => exact fun h => absurd rfl h
  | succ m ih =>
    intro _
    have h0' : (fold th l m s.lo).1 ≠ 0 := fun e => h0 (by rw [fold_zero th l s.lo (Nat.le_succ m) e]; exact e)
    have hx := exam_blk (th := th) (size := size) (s := { s.set (fold th l m s.lo) with at' := ((A + 16 * (m + 1) : Nat) : Int) }) (hS.good m (by omega)) (hS.chk m (by omega))
    have hst := run_step (f := f) (s' := { s.set (fold th l (m + 1) s.lo) with at' := ((A + 16 * (m + 1) : Nat) : Int) }) hx h0 he rfl hl hv ho K
    by_cases hm : m = 0
    · subst hm
      have e : ({ s.set (fold th l 0 s.lo) with at' := ((A + 16 * (0 + 1) : Nat) : Int) } : WSt) = s := by
        rw [show A + 16 * (0 + 1) = A + 16 by omega, ← hA]; rfl
      rw [e] at hst
      rw [show K + (0 + 1) = K + 1 by omega, hst]
      rfl
    · have := ih ⟨fun j hj => hS.lies j (by omega), fun j hj => hS.good j (by omega), fun j hj => hS.ok j (by omega), fun j hj => hS.chk j (by omega)⟩ (l m) (hS.lies m (by omega)) (hS.good m (by omega)).1 (hS.ok m (by omega)) (by omega) h0' (K + 1) hm
      rw [show K + (m + 1) = K + 1 + m by omega, this, hst]
      rfl
/-- A segment that is the last: what it gives. -/
theorem run_seg {f : Nat → Int} {size : Nat} {th : Bool} {A n : Nat} {l : Nat → Dsc} {s : WSt} (hS : Seg f size A n l) (hA : s.at' = ((A + 16 : Nat) : Int)) (hn : 1 ≤ n) (he : s.en = ((A + 16 * n : Nat) : Int)) (h0 : s.left ≠ 0) (K : Nat) (hK : n ≤ K + 1) :
    runS f size th K (l 0) s = if (fold th l n s.lo).1 = 0 then .ok (fold th l n s.lo).2 else .error 162 := by
  have key : ∀ m, m < n → (fold th l m s.lo).1 ≠ 0 → ∃ K', runS f size th K (l 0) s = runS f size th K' (l m) { s.set (fold th l m s.lo) with at' := ((A + 16 * (m + 1) : Nat) : Int) } := fun m hm hx => by
    by_cases hm0 : m = 0
    · subst hm0
      refine ⟨K, ?_⟩
      have e : ({ s.set (fold th l 0 s.lo) with at' := ((A + 16 * (0 + 1) : Nat) : Int) } : WSt) = s := by
        rw [show A + 16 * (0 + 1) = A + 16 by omega, ← hA]; rfl
      rw [e]
    · refine ⟨K - m, ?_⟩
      have h := run_pre (K := K - m) (th := th) (m := m) ⟨fun j hj => hS.lies j (by omega), fun j hj => hS.good j (by omega), fun j hj => hS.ok j (by omega), fun j hj => hS.chk j (by omega)⟩ hA (l m) (hS.lies m hm) (hS.good m hm).1 (hS.ok m hm) (by omega) hx hm0
      rw [show K - m + m = K by omega] at h
      exact h
  by_cases hz : (fold th l n s.lo).1 = 0
  · rw [if_pos hz]
    obtain ⟨m, hm, h1, h2⟩ := fold_first th l s.lo h0 n hz
    obtain ⟨K', e⟩ := key m hm h1
    rw [e]
    have hx := exam_blk (th := th) (size := size) (s := { s.set (fold th l m s.lo) with at' := ((A + 16 * (m + 1) : Nat) : Int) }) (hS.good m hm) (hS.chk m hm)
    have hd := run_done (f := f) (s' := { s.set (fold th l (m + 1) s.lo) with at' := ((A + 16 * (m + 1) : Nat) : Int) }) hx h2 K'
    rw [hd, fold_zero th l s.lo (m := m + 1) (n := n) (by omega) h2]
    rfl
  · rw [if_neg hz]
    obtain ⟨m, rfl⟩ : ∃ m, n = m + 1 := ⟨n - 1, by omega⟩
    have h1 : (fold th l m s.lo).1 ≠ 0 := fun e => hz (by rw [fold_zero th l s.lo (Nat.le_succ m) e]; exact e)
    obtain ⟨K', e⟩ := key m (by omega) h1
    rw [e]
    have hx := exam_blk (th := th) (size := size) (s := { s.set (fold th l m s.lo) with at' := ((A + 16 * (m + 1) : Nat) : Int) }) (hS.good m (by omega)) (hS.chk m (by omega))
    exact run_short (f := f) (s' := { s.set (fold th l (m + 1) s.lo) with at' := ((A + 16 * (m + 1) : Nat) : Int) }) hx hz (by show ¬ ((A + 16 * (m + 1) : Nat) : Int) < s.en; omega) K'
end Go.Proofs.Ytcljbmkdflkeeaa

namespace Go.Proofs.Ytcljbmkdflkeeaa
open Go.RowKit

theorem chk_fit {size : Nat} {a n : Int} (ha : 0 ≤ a) (hn : 0 ≤ n) (h : a + n ≤ size) : chk size a n = 0 := by
  unfold chk
  rw [if_neg (by omega), if_pos (by omega)]
theorem exam_seg {size : Nat} {th : Bool} {k : Int} (hk : k = 3 ∨ k = 4) {A n : Nat} (hn : 1 ≤ n) (hf : A + 16 * n ≤ size) {s : WSt} (hi : s.ins = false ∨ (s.las = false ∧ s.at' = s.en)) :
    exam size th ⟨k, A, (16 * n : Nat), 0⟩ s = .ok { s with ins := true, las := decide (k = 4), at' := (A : Int), en := ((A + 16 * n : Nat) : Int) } := by
  unfold exam
  rw [if_pos hk, if_neg (fun c => c ⟨by show (0 : Int) < ((16 * n : Nat) : Int); omega, by show ((16 * n : Nat) : Int) % 16 = 0; omega, hi⟩), if_neg (fun c => c (chk_fit (by show (0 : Int) ≤ (A : Int); omega) (by show (0 : Int) ≤ ((16 * n : Nat) : Int); omega) (by show ((A : Nat) : Int) + ((16 * n : Nat) : Int) ≤ _; omega)))]
  rfl
theorem vld_seg {k : Int} (hk : k = 3 ∨ k = 4) {A n : Nat} (hn : 16 * n < 4294967296) : Vld ⟨k, A, (16 * n : Nat), 0⟩ := by
  refine ⟨⟨by show 1 ≤ k; omega, by show k ≤ 5; omega⟩, ⟨by show (0 : Int) ≤ ((16 * n : Nat) : Int); omega, ?_⟩, .inl rfl, .inr (by show k ≠ 2; omega)⟩
  show ((16 * n : Nat) : Int) < lim k
  unfold lim
  rw [if_neg (by omega)]
  omega
theorem ok_seg {k : Int} (hk : k = 3 ∨ k = 4) {A n : Nat} (hA : A ≤ 18446744073709551615) (hn : 16 * n < 4294967296) : (⟨k, A, (16 * n : Nat), 0⟩ : Dsc).Ok :=
  ⟨by show -9223372036854775808 ≤ k ∧ k ≤ 9223372036854775807; omega, by show (0 : Int) ≤ (A : Int) ∧ (A : Int) ≤ 18446744073709551615; omega, by show (-9223372036854775808 : Int) ≤ ((16 * n : Nat) : Int) ∧ ((16 * n : Nat) : Int) ≤ 9223372036854775807; omega, by show (0 : Int) ≤ 0 ∧ (0 : Int) ≤ 4294967295; omega⟩

/-- One list. -/
theorem spans_last {f : Nat → Int} {size A n : Nat} {l : Nat → Dsc} {N : Int} {th : Bool} (hS : Seg f size A n l) (hn : 1 ≤ n) (hn2 : n ≤ 1023) (hf : A + 16 * n ≤ size) (hN0 : 0 ≤ N) (hN1 : N ≤ 1048576) :
    spansM f size ⟨4, A, (16 * n : Nat), 0⟩ N th = if (fold th l n (N, [])).1 = 0 then .ok (fold th l n (N, [])).2 else .error 162 := by
  unfold spansM
  rw [if_neg (fun c => c ⟨vld_seg (k := 4) (.inr rfl) (A := A) (n := n) (by omega), hN0, hN1⟩)]
  by_cases h0 : N = 0
  · subst h0
    rw [if_pos rfl, fold_zero th l ((0 : Int), []) (m := 0) (n := n) (by omega) rfl]
    rfl
  · rw [if_neg h0]
    have hx := exam_seg (th := th) (k := 4) (.inr rfl) hn hf (s := ⟨false, false, 0, 0, N, []⟩) (.inl rfl)
    rw [run_step (K := 1022) (f := f) hx h0 (by show ((A : Nat) : Int) < ((A + 16 * n : Nat) : Int); omega) (A := A) rfl (by have := hS.lies 0 (by omega); simpa using this) (hS.good 0 (by omega)).1 (hS.ok 0 (by omega))]
    exact run_seg hS (by show ((A : Nat) : Int) + 16 = _; omega) hn rfl h0 1022 (by omega)

/-- A list in two segments. -/
theorem spans_two {f : Nat → Int} {size A B k n : Nat} {l : Nat → Dsc} {N : Int} {th : Bool} (hS1 : Seg f size A k l) (hS2 : Seg f size B n (fun i => l (k + i))) (hL : Lies f (A + 16 * k) ⟨4, B, (16 * n : Nat), 0⟩) (hk : 1 ≤ k) (hn : 1 ≤ n) (hkn : k + n ≤ 1000)
    (hf1 : A + 16 * (k + 1) ≤ size) (hf2 : B + 16 * n ≤ size) (hs : size ≤ 4194304) (hN0 : 0 ≤ N) (hN1 : N ≤ 1048576) :
    spansM f size ⟨3, A, (16 * (k + 1) : Nat), 0⟩ N th = if (fold th l (k + n) (N, [])).1 = 0 then .ok (fold th l (k + n) (N, [])).2 else .error 162 := by
  unfold spansM
  rw [if_neg (fun c => c ⟨vld_seg (k := 3) (.inl rfl) (A := A) (n := k + 1) (by omega), hN0, hN1⟩)]
  by_cases h0 : N = 0
  · subst h0
    rw [if_pos rfl, fold_zero th l ((0 : Int), []) (m := 0) (n := k + n) (by omega) rfl]
    rfl
  · rw [if_neg h0]
    have hx := exam_seg (th := th) (k := 3) (.inl rfl) (n := k + 1) (by omega) hf1 (s := ⟨false, false, 0, 0, N, []⟩) (.inl rfl)
    rw [run_step (K := 1022) (f := f) hx h0 (by show ((A : Nat) : Int) < ((A + 16 * (k + 1) : Nat) : Int); omega) (A := A) rfl (by have := hS1.lies 0 (by omega); simpa using this) (hS1.good 0 (by omega)).1 (hS1.ok 0 (by omega))]
    obtain ⟨s, hs1⟩ : ∃ s : WSt, s = ⟨true, false, (A : Int) + 16, ((A + 16 * (k + 1) : Nat) : Int), N, []⟩ := ⟨_, rfl⟩
    have hA : s.at' = ((A + 16 : Nat) : Int) := by rw [hs1]; show (A : Int) + 16 = _; omega
    have he : s.en = ((A + 16 * (k + 1) : Nat) : Int) := by rw [hs1]
    have hlo : s.lo = (N, []) := by rw [hs1]; rfl
    have hl0 : s.left ≠ 0 := by rw [hs1]; exact h0
    have hin : s.ins = true ∧ s.las = false := by rw [hs1]; exact ⟨rfl, rfl⟩
    have goal : runS f size th 1022 (l 0) s = if (fold th l (k + n) (N, [])).1 = 0 then .ok (fold th l (k + n) (N, [])).2 else .error 162 := by
      rw [← hlo]
      by_cases hz : (fold th l k s.lo).1 = 0
      · rw [fold_zero th l s.lo (m := k) (n := k + n) (by omega) hz, if_pos hz]
        obtain ⟨m, hm, h1, h2⟩ := fold_first th l s.lo hl0 k hz
        have hx2 := exam_blk (th := th) (size := size) (s := { s.set (fold th l m s.lo) with at' := ((A + 16 * (m + 1) : Nat) : Int) }) (hS1.good m hm) (hS1.chk m hm)
        have hd := fun K' => run_done (f := f) (s' := { s.set (fold th l (m + 1) s.lo) with at' := ((A + 16 * (m + 1) : Nat) : Int) }) hx2 h2 K'
        rw [fold_zero th l s.lo (m := m + 1) (n := k) (by omega) h2]
        by_cases hm0 : m = 0
        · subst hm0
          have e : ({ s.set (fold th l 0 s.lo) with at' := ((A + 16 * (0 + 1) : Nat) : Int) } : WSt) = s := by
            rw [show A + 16 * (0 + 1) = A + 16 by omega, ← hA]; rfl
          have := hd 1022
          rw [e] at this
          exact this
        · have h := run_pre (K := 1022 - m) (th := th) (m := m) ⟨fun j hj => hS1.lies j (by omega), fun j hj => hS1.good j (by omega), fun j hj => hS1.ok j (by omega), fun j hj => hS1.chk j (by omega)⟩ hA (l m) (hS1.lies m hm) (hS1.good m hm).1 (hS1.ok m hm) (by rw [he]; omega) h1 hm0
          rw [show 1022 - m + m = 1022 by omega] at h
          rw [h]
          exact hd _
      · have h := run_pre (K := 1022 - k) (th := th) (m := k) hS1 hA ⟨4, B, (16 * n : Nat), 0⟩ hL (vld_seg (.inr rfl) (by omega)) (ok_seg (.inr rfl) (by omega) (by omega)) (by rw [he]; omega) hz (by omega)
        rw [show 1022 - k + k = 1022 by omega, show 1022 - k = (1021 - k) + 1 by omega] at h
        rw [h]
        have hx2 := exam_seg (th := th) (size := size) (k := 4) (.inr rfl) (A := B) hn hf2 (s := { s.set (fold th l k s.lo) with at' := ((A + 16 * (k + 1) : Nat) : Int) }) (.inr ⟨hin.2, by show ((A + 16 * (k + 1) : Nat) : Int) = s.en; rw [he]⟩)
        have hst := run_step (K := 1021 - k) (f := f) hx2 (by exact hz) (by show ((B : Nat) : Int) < ((B + 16 * n : Nat) : Int); omega) (A := B) rfl (by have := hS2.lies 0 (by omega); simpa using this) (hS2.good 0 (by omega)).1 (hS2.ok 0 (by omega))
        rw [hst]
        have hr := run_seg (th := th) (K := 1021 - k) (s := { ({ s.set (fold th l k s.lo) with ins := true, las := decide ((4 : Int) = 4), at' := (B : Int), en := ((B + 16 * n : Nat) : Int) } : WSt) with at' := (B : Int) + 16 }) hS2 (by show (B : Int) + 16 = _; omega) hn rfl (by exact hz) (by omega)
        have hlo2 : ({ ({ s.set (fold th l k s.lo) with ins := true, las := decide ((4 : Int) = 4), at' := (B : Int), en := ((B + 16 * n : Nat) : Int) } : WSt) with at' := (B : Int) + 16 } : WSt).lo = fold th l k s.lo := rfl
        rw [hlo2, fold_shift] at hr
        exact hr
    rw [hs1] at goal
    exact goal

/-- A list of one descriptor too many. -/
theorem spans_long {f : Nat → Int} {size A : Nat} {l : Nat → Dsc} {N : Int} {th : Bool} (hS : Seg f size A 1023 l) (hf : A + 16 * 1024 ≤ size) (h0 : N ≠ 0) (hN0 : 0 ≤ N) (hN1 : N ≤ 1048576) (hz : (fold th l 1023 (N, [])).1 ≠ 0) :
    spansM f size ⟨4, A, (16 * 1024 : Nat), 0⟩ N th = .error 5 := by
  unfold spansM
  rw [if_neg (fun c => c ⟨vld_seg (k := 4) (.inr rfl) (A := A) (n := 1024) (by omega), hN0, hN1⟩), if_neg h0]
  have hx := exam_seg (th := th) (k := 4) (.inr rfl) (n := 1024) (by omega) hf (s := ⟨false, false, 0, 0, N, []⟩) (.inl rfl)
  rw [run_step (K := 1022) (f := f) hx h0 (by show ((A : Nat) : Int) < ((A + 16 * 1024 : Nat) : Int); omega) (A := A) rfl (by have := hS.lies 0 (by omega); simpa using this) (hS.good 0 (by omega)).1 (hS.ok 0 (by omega))]
  obtain ⟨s, hs1⟩ : ∃ s : WSt, s = ⟨true, true, (A : Int) + 16, ((A + 16 * 1024 : Nat) : Int), N, []⟩ := ⟨_, rfl⟩
  have hA : s.at' = ((A + 16 : Nat) : Int) := by rw [hs1]; show (A : Int) + 16 = _; omega
  have he : s.en = ((A + 16 * 1024 : Nat) : Int) := by rw [hs1]
  have hlo : s.lo = (N, []) := by rw [hs1]; rfl
  have goal : runS f size th 1022 (l 0) s = .error 5 := by
    rw [← hlo] at hz
    have h1 : (fold th l 1022 s.lo).1 ≠ 0 := fun e => hz (by rw [fold_zero th l s.lo (m := 1022) (n := 1023) (by omega) e]; exact e)
    have h := run_pre (K := 0) (th := th) (m := 1022) ⟨fun j hj => hS.lies j (by omega), fun j hj => hS.good j (by omega), fun j hj => hS.ok j (by omega), fun j hj => hS.chk j (by omega)⟩ hA (l 1022) (hS.lies 1022 (by omega)) (hS.good 1022 (by omega)).1 (hS.ok 1022 (by omega)) (by rw [he]; omega) h1 (by omega)
    rw [Nat.zero_add] at h
    rw [h]
    have hx2 := exam_blk (th := th) (size := size) (s := { s.set (fold th l 1022 s.lo) with at' := ((A + 16 * (1022 + 1) : Nat) : Int) }) (hS.good 1022 (by omega)) (hS.chk 1022 (by omega))
    exact run_long (f := f) (s' := { s.set (fold th l (1022 + 1) s.lo) with at' := ((A + 16 * (1022 + 1) : Nat) : Int) }) hx2 hz (by show ((A + 16 * (1022 + 1) : Nat) : Int) < s.en; rw [he]; omega)
  rw [hs1] at goal
  exact goal

/-- the list of SglBounds: 1022 blocks without a byte, one of n bytes, one more -/
def bnL (n : Int) (i : Nat) : Dsc := if i < 1022 then ⟨1, ((16384 + i : Nat) : Int), 0, 0⟩ else if i = 1022 then ⟨1, 20000, n, 0⟩ else ⟨1, 0, 1, 0⟩
theorem bnL_good (n : Int) (h0 : 0 ≤ n) (h1 : n ≤ 100) (i : Nat) : Good (bnL n i) ∧ (i < 1024 → (bnL n i).Ok) ∧ (i < 1023 → chk 20480 (bnL n i).a (bnL n i).n = 0) := by
  unfold bnL
  by_cases a : i < 1022
  · rw [if_pos a]
    refine ⟨⟨⟨⟨by show (1:Int) ≤ 1; omega, by show (1:Int) ≤ 5; omega⟩, ⟨by show (0:Int) ≤ 0; omega, by show (0:Int) < lim 1; decide⟩, .inl rfl, .inr (by show (1:Int) ≠ 2; omega)⟩, by show (1:Int) ≠ 3; omega, by show (1:Int) ≠ 4; omega⟩, fun _ => ⟨by show (-9223372036854775808:Int) ≤ 1 ∧ (1:Int) ≤ 9223372036854775807; omega, by show (0:Int) ≤ ((16384 + i : Nat) : Int) ∧ ((16384 + i : Nat) : Int) ≤ 18446744073709551615; omega, by show (-9223372036854775808:Int) ≤ 0 ∧ (0:Int) ≤ 9223372036854775807; omega, by show (0:Int) ≤ 0 ∧ (0:Int) ≤ 4294967295; omega⟩, fun _ => chk_fit (by show (0:Int) ≤ ((16384 + i : Nat) : Int); omega) (by show (0:Int) ≤ 0; omega) (by show ((16384 + i : Nat) : Int) + 0 ≤ ((20480 : Nat) : Int); omega)⟩
  · rw [if_neg a]
    by_cases b : i = 1022
    · rw [if_pos b]
      refine ⟨⟨⟨⟨by show (1:Int) ≤ 1; omega, by show (1:Int) ≤ 5; omega⟩, ⟨h0, by show n < lim 1; rw [show lim 1 = 4294967296 by decide]; omega⟩, .inl rfl, .inr (by show (1:Int) ≠ 2; omega)⟩, by show (1:Int) ≠ 3; omega, by show (1:Int) ≠ 4; omega⟩, fun _ => ⟨by show (-9223372036854775808:Int) ≤ 1 ∧ (1:Int) ≤ 9223372036854775807; omega, by show (0:Int) ≤ 20000 ∧ (20000:Int) ≤ 18446744073709551615; omega, by show (-9223372036854775808:Int) ≤ n ∧ n ≤ 9223372036854775807; omega, by show (0:Int) ≤ 0 ∧ (0:Int) ≤ 4294967295; omega⟩, fun _ => chk_fit (by show (0:Int) ≤ 20000; omega) h0 (by show 20000 + n ≤ ((20480 : Nat) : Int); omega)⟩
    · rw [if_neg b]
      refine ⟨⟨⟨⟨by show (1:Int) ≤ 1; omega, by show (1:Int) ≤ 5; omega⟩, ⟨by show (0:Int) ≤ 1; omega, by show (1:Int) < lim 1; decide⟩, .inl rfl, .inr (by show (1:Int) ≠ 2; omega)⟩, by show (1:Int) ≠ 3; omega, by show (1:Int) ≠ 4; omega⟩, fun _ => ⟨by show (-9223372036854775808:Int) ≤ 1 ∧ (1:Int) ≤ 9223372036854775807; omega, by show (0:Int) ≤ 0 ∧ (0:Int) ≤ 18446744073709551615; omega, by show (-9223372036854775808:Int) ≤ 1 ∧ (1:Int) ≤ 9223372036854775807; omega, by show (0:Int) ≤ 0 ∧ (0:Int) ≤ 4294967295; omega⟩, fun h => by omega⟩
theorem bnL_fold (n N : Int) (th : Bool) (m : Nat) (hm : m ≤ 1022) : fold th (bnL n) m (N, []) = (N, []) := by
  induction m with
  | zero => rfl
  | succ m ih =>
    show stp th (bnL n m) (fold th (bnL n) m (N, [])) = _
    rw [ih (by omega)]
    have e : bnL n m = ⟨1, ((16384 + m : Nat) : Int), 0, 0⟩ := by unfold bnL; rw [if_pos (by omega)]
    rw [e]
    unfold stp addP
    rw [if_neg (by show ¬ (1:Int) = 2; omega), if_neg (by show ¬ 0 < min (0:Int) N; omega)]
theorem bnL_last (n N : Int) (th : Bool) : fold th (bnL n) 1023 (N, []) = addP ⟨20000, n, false⟩ (N, []) := by
  show stp th (bnL n 1022) (fold th (bnL n) 1022 (N, [])) = _
  rw [bnL_fold n N th 1022 (Nat.le_refl _)]
  rfl
end Go.Proofs.Ytcljbmkdflkeeaa
