/- prp: plain laws (no walk): the walk's steps; the spans of what was built. -/
import Derived.Test.YtfmabknhfehdcaaQN6
import Derived.Test.YtfmabknhfehdcaaQN3
import Derived.Test.YtfmabknhfehdcaaQN5
import Derived.Deep.RegionHeld3
import Derived.Outline
namespace Go.Proofs.Ytfmabknhfehdcaa
set_option linter.unusedVariables false
set_option linter.unusedSimpArgs false
open Go.RowKit

/-- Count -/
def pgs (first n : Int) : Int := if n < 1 ∨ 1048576 < n then 0 else (first % 4096 + n + 4095) / 4096
/-- the number of addresses up to the end of a page -/
def roomP (l : Int) : Int := (4096 - l % 4096 + 7) / 8
/-- Lists -/
def lstsP (second pages : Int) : Int := if pages < 3 ∨ 257 < pages then 0 else if pages - 1 ≤ roomP second then 1 else 2
/-- the address that is stored at an address -/
def wrd (f : Nat → Int) (a : Int) : Int := hz (fun i => f (a.toNat + i)) 7 8
structure PSt where
  list : Int
  fresh : Bool
  left : Int
  out : List Spn
def nxtP (f : Nat → Int) (size : Nat) (missing : Int) (s : PSt) : Except Int (Int × PSt) :=
  if s.fresh = true ∧ s.list % 8 ≠ 0 then .error 150
  else if chk size s.list 8 ≠ 0 then .error (chk size s.list 8)
  else if s.list % 4096 = 4088 ∧ 1 < missing then
    if wrd f s.list % 4096 ≠ 0 then .error 150
    else if chk size (wrd f s.list) 8 ≠ 0 then .error (chk size (wrd f s.list) 8)
    else .ok (wrd f (wrd f s.list), ⟨wrd f s.list + 8, false, s.left, s.out⟩)
  else .ok (wrd f s.list, ⟨s.list + 8, false, s.left, s.out⟩)
def addA (size : Nat) (a : Int) (s : PSt) : Except Int PSt :=
  if chk size a (min s.left (4096 - a % 4096)) ≠ 0 then .error (chk size a (min s.left (4096 - a % 4096)))
  else .ok ⟨s.list, s.fresh, s.left - min s.left (4096 - a % 4096), s.out ++ [⟨a, min s.left (4096 - a % 4096), false⟩]⟩
def adrP (f : Nat → Int) (size : Nat) (second pages : Int) (i : Int) (s : PSt) : Except Int (Int × PSt) :=
  if 2 < pages then nxtP f size (pages - i) s else .ok (second, s)
def stepP (f : Nat → Int) (size : Nat) (second pages : Int) (i : Int) (s : PSt) : Except Int PSt :=
  match adrP f size second pages i s with
  | .error e => .error e
  | .ok x => if x.1 % 4096 ≠ 0 then .error 150 else addA size x.1 x.2
def runP (f : Nat → Int) (size : Nat) (second pages : Int) : Nat → Int → PSt → Except Int (List Spn)
  | 0, _, s => .ok s.out
  | k + 1, i, s => match stepP f size second pages i s with
    | .error e => .error e
    | .ok s' => runP f size second pages k (i + 1) s'
def spansP (f : Nat → Int) (size : Nat) (first second n : Int) : Except Int (List Spn) :=
  if n < 0 ∨ 1048576 < n then .error 2 else if n = 0 then .ok [] else if first % 4 ≠ 0 then .error 150
  else match addA size first ⟨second, true, n, []⟩ with
    | .error e => .error e
    | .ok s => runP f size second (pgs first n) ((pgs first n).toNat - 1) 1 s

/-- bytes of words -/
def wB (g : Nat → Int) (j : Nat) : Int := byteOf (g (j / 8)) (j % 8)
theorem wB_bd (g : Nat → Int) : Bytes (wB g) := fun j => by unfold wB byteOf; omega
theorem wrd_congr {f h : Nat → Int} {a : Int} (e : ∀ i, i < 8 → f (a.toNat + i) = h i) : wrd f a = hz h 7 8 := by
  unfold wrd
  simp [hz, e 0, e 1, e 2, e 3, e 4, e 5, e 6, e 7]
  have := e 0 (by omega)
  rw [Nat.add_zero] at this
  rw [this]
theorem wrd_of {f : Nat → Int} {a : Int} {v : Int} (h0 : 0 ≤ v) (h1 : v ≤ 18446744073709551615) (e : ∀ i, i < 8 → f (a.toNat + i) = byteOf v i) : wrd f a = v := by
  rw [wrd_congr (h := byteOf v) e]
  exact sum8 v h0 h1

/-- the memory behind Build -/
def bltF (f : Nat → Int) (l0 l1 R K : Nat) (p : Nat → Int) : Nat → Int :=
  if K ≤ R + 1 then upd f l0 (8 * (K - 1)) (wB fun e => p (e + 1))
  else upd (upd f l0 (8 * R) (wB fun e => if e + 1 < R then p (e + 1) else l1)) l1 (8 * (K - R)) (wB fun e => p (R + e))

section
variable {f : Nat → Int} {size l0 l1 R K : Nat} {p : Nat → Int} {o N : Int}
/-- what is known of the pages and lists of a transfer -/
structure Bt (size l0 l1 R K : Nat) (p : Nat → Int) (o N : Int) : Prop where
  n0 : 1 ≤ N
  n1 : N ≤ 1048576
  o0 : 0 ≤ o
  o1 : o < 4096
  o4 : o % 4 = 0
  k : pgs o N = K
  pg : ∀ i, i < K → p i % 4096 = 0 ∧ 0 ≤ p i ∧ p i + 4096 ≤ size
  sz : size ≤ 4194304
  a0 : l0 % 8 = 0
  r : R = (4096 - l0 % 4096) / 8
  f0 : l0 / 4096 * 4096 + 4096 ≤ size
  a1 : l1 % 4096 = 0
  f1 : l1 + 4096 ≤ size
  ne : l0 / 4096 ≠ l1 / 4096
def lenP (o N : Int) (i : Nat) : Int := if i = 0 then min N (4096 - o) else min (N + o - 4096 * i) 4096
def adP (p : Nat → Int) (o : Int) (i : Nat) : Int := if i = 0 then p 0 + o else p i
def outP (p : Nat → Int) (o N : Int) (k : Nat) : List Spn := (List.range k).map fun i => ⟨adP p o i, lenP o N i, false⟩
theorem outP_succ (p : Nat → Int) (o N : Int) (k : Nat) : outP p o N (k + 1) = outP p o N k ++ [⟨adP p o k, lenP o N k, false⟩] := by
  unfold outP
  rw [List.range_succ, List.map_append]
  rfl
theorem bt_k (h : Bt size l0 l1 R K p o N) : 1 ≤ K ∧ K ≤ 257 ∧ (4096 * (K : Int) < o + N + 4096) ∧ o + N ≤ 4096 * K := by
  have hk := h.k
  unfold pgs at hk
  rw [if_neg (by have := h.n0; have := h.n1; omega), Int.emod_eq_of_lt h.o0 h.o1] at hk
  have := h.n0; have := h.n1; have := h.o0; have := h.o1
  omega
/-- where the e-th address is sought -/
def posP (l0 l1 R K e : Nat) : Int := if K ≤ R + 1 ∨ e < R then l0 + 8 * e else l1 + 8 * (e - (R - 1) : Nat)
theorem blt_lo (h : Bt size l0 l1 R K p o N) (hK : K ≤ R + 1) (e : Nat) (he : e + 1 < K) : wrd (bltF f l0 l1 R K p) (l0 + 8 * e : Nat) = p (e + 1) := by
  have hp := h.pg (e + 1) he
  have hs := h.sz
  refine wrd_of hp.2.1 (by omega) fun i hi => ?_
  unfold bltF
  rw [if_pos hK]
  unfold upd wB
  rw [show ((l0 + 8 * e : Nat) : Int).toNat = l0 + 8 * e by omega, if_pos (by omega), show (l0 + 8 * e + i - l0) / 8 = e by omega, show (l0 + 8 * e + i - l0) % 8 = i by omega]
theorem blt_a (h : Bt size l0 l1 R K p o N) (hK : ¬ K ≤ R + 1) (e : Nat) (he : e < R) : wrd (bltF f l0 l1 R K p) (l0 + 8 * e : Nat) = if e + 1 < R then p (e + 1) else l1 := by
  have hr := h.r; have ha := h.a0; have hne := h.ne; have hk := bt_k h; have hf0 := h.f0; have hf1 := h.f1; have ha1 := h.a1; have hs := h.sz
  refine wrd_of ?_ ?_ fun i hi => ?_
  · split
    · exact (h.pg (e + 1) (by omega)).2.1
    · omega
  · split
    · have := (h.pg (e + 1) (by omega)).2.2; omega
    · omega
  · unfold bltF
    rw [if_neg hK]
    unfold upd wB
    rw [show ((l0 + 8 * e : Nat) : Int).toNat = l0 + 8 * e by omega, if_neg (by omega), if_pos (by omega), show (l0 + 8 * e + i - l0) / 8 = e by omega, show (l0 + 8 * e + i - l0) % 8 = i by omega]
theorem blt_b (h : Bt size l0 l1 R K p o N) (hK : ¬ K ≤ R + 1) (e : Nat) (he : e + R < K) : wrd (bltF f l0 l1 R K p) (l1 + 8 * e : Nat) = p (R + e) := by
  have hp := h.pg (R + e) (by omega)
  have hs := h.sz
  refine wrd_of hp.2.1 (by omega) fun i hi => ?_
  unfold bltF
  rw [if_neg hK]
  unfold upd wB
  rw [show ((l1 + 8 * e : Nat) : Int).toNat = l1 + 8 * e by omega, if_pos (by omega), show (l1 + 8 * e + i - l1) / 8 = e by omega, show (l1 + 8 * e + i - l1) % 8 = i by omega]
theorem chk8 {a : Int} (h0 : 0 ≤ a) (h : a + 8 ≤ size) : chk size a 8 = 0 := by
  unfold chk
  rw [if_neg (by omega), if_pos (by omega)]
/-- the address of the i-th page -/
theorem nxt_blt (h : Bt size l0 l1 R K p o N) (h3 : 3 ≤ K) (e : Nat) (he : e + 1 < K) (fr : Bool) (left : Int) (out : List Spn) :
    nxtP (bltF f l0 l1 R K p) size ((K : Int) - ((e + 1 : Nat) : Int)) ⟨posP l0 l1 R K e, fr, left, out⟩ = .ok (p (e + 1), ⟨posP l0 l1 R K (e + 1), false, left, out⟩) := by
  have hr := h.r; have ha := h.a0; have hne := h.ne; have hk := bt_k h; have hf0 := h.f0; have hf1 := h.f1; have ha1 := h.a1
  have hR : 1 ≤ R := by omega
  by_cases hK : K ≤ R + 1
  · have hp : posP l0 l1 R K e = ((l0 + 8 * e : Nat) : Int) := by unfold posP; rw [if_pos (.inl hK)]; omega
    have hp2 : posP l0 l1 R K (e + 1) = ((l0 + 8 * e : Nat) : Int) + 8 := by unfold posP; rw [if_pos (.inl hK)]; omega
    unfold nxtP
    simp only []
    rw [hp, hp2, if_neg (by omega), chk8 (by omega) (by omega), if_neg (by omega), if_neg (by omega), blt_lo h hK e he]
  · by_cases hlo : e + 1 < R
    · have hp : posP l0 l1 R K e = ((l0 + 8 * e : Nat) : Int) := by unfold posP; rw [if_pos (.inr (by omega))]; omega
      have hp2 : posP l0 l1 R K (e + 1) = ((l0 + 8 * e : Nat) : Int) + 8 := by unfold posP; rw [if_pos (.inr (by omega))]; omega
      unfold nxtP
      simp only []
      rw [hp, hp2, if_neg (by omega), chk8 (by omega) (by omega), if_neg (by omega), if_neg (by omega), blt_a h hK e (by omega), if_pos hlo]
    · by_cases hmi : e + 1 = R
      · have hp : posP l0 l1 R K e = ((l0 + 8 * e : Nat) : Int) := by unfold posP; rw [if_pos (.inr (by omega))]; omega
        have hp2 : posP l0 l1 R K (e + 1) = (l1 : Int) + 8 := by unfold posP; rw [if_neg (by omega)]; omega
        have hb := blt_b (f := f) h hK 0 (by omega)
        rw [Nat.mul_zero, Nat.add_zero, Nat.add_zero] at hb
        unfold nxtP
        simp only []
        rw [hp, hp2, if_neg (by omega), chk8 (by omega) (by omega), if_neg (by omega), if_pos (by omega), blt_a h hK e (by omega), if_neg hlo, if_neg (by omega), chk8 (by omega) (by omega), if_neg (by omega), hb, show R = e + 1 by omega]
      · obtain ⟨d, hd⟩ : ∃ d, e = R + d := ⟨e - R, by omega⟩
        have hp : posP l0 l1 R K e = ((l1 + 8 * (d + 1) : Nat) : Int) := by unfold posP; rw [if_neg (by omega)]; omega
        have hp2 : posP l0 l1 R K (e + 1) = ((l1 + 8 * (d + 1) : Nat) : Int) + 8 := by unfold posP; rw [if_neg (by omega)]; omega
        unfold nxtP
        simp only []
        rw [hp, hp2, if_neg (by omega), chk8 (by omega) (by omega), if_neg (by omega), if_neg (by omega), blt_b h hK (d + 1) (by omega), show R + (d + 1) = e + 1 by omega]
/-- what is left ahead of the i-th page -/
theorem left_step (h : Bt size l0 l1 R K p o N) (i : Nat) (hi : i < K) (h1 : 1 ≤ i) : min (N + o - 4096 * i) (4096 - p i % 4096) = lenP o N i := by
  unfold lenP
  rw [if_neg (by omega), (h.pg i hi).1]
  omega
theorem run_blt (h : Bt size l0 l1 R K p o N) (second : Int) (hsec : (K = 2 → second = p 1)) (k i : Nat) (hi : 1 ≤ i) (hik : i + k = K) (fr : Bool) (list : Int) (hl : 3 ≤ K → list = posP l0 l1 R K (i - 1)) (left : Int) (hle : i < K → left = N + o - 4096 * i) :
    runP (bltF f l0 l1 R K p) size second K k i ⟨list, fr, left, outP p o N i⟩ = .ok (outP p o N K) := by
  induction k generalizing i fr list left with
  | zero => obtain rfl : i = K := by omega
            rfl
  | succ k ih =>
    have hp := h.pg i (by omega)
    obtain ⟨k1, k2, k3, k4⟩ := bt_k h
    have hls := left_step h i (by omega) hi
    have hle := hle (by omega)
    subst hle
    have key : ∃ l' fr', adrP (bltF f l0 l1 R K p) size second K i ⟨list, fr, N + o - 4096 * i, outP p o N i⟩ = .ok (p i, ⟨l', fr', N + o - 4096 * i, outP p o N i⟩) ∧ (3 ≤ K → l' = posP l0 l1 R K i) := by
      unfold adrP
      by_cases h3 : 3 ≤ K
      · rw [if_pos (by omega)]
        obtain ⟨e, rfl⟩ : ∃ e, i = e + 1 := ⟨i - 1, by omega⟩
        have := nxt_blt (f := f) h h3 e (by omega) fr (N + o - 4096 * ((e + 1 : Nat) : Int)) (outP p o N (e + 1))
        rw [hl h3]
        exact ⟨_, _, this, fun _ => rfl⟩
      · rw [if_neg (by omega)]
        obtain rfl : i = 1 := by omega
        rw [hsec (by omega)]
        exact ⟨_, _, rfl, fun h => absurd h h3⟩
    obtain ⟨l', fr', key, hl'⟩ := key
    have hc : chk size (p i) (lenP o N i) = 0 := by
      have hb : 0 ≤ lenP o N i ∧ lenP o N i ≤ 4096 := by unfold lenP; rw [if_neg (by omega)]; omega
      unfold chk
      rw [if_neg (by omega), if_pos (by omega)]
    unfold runP stepP
    rw [key]
    simp only []
    rw [if_neg (by omega)]
    unfold addA
    simp only []
    rw [hls, if_neg (by omega)]
    simp only []
    have e1 : outP p o N i ++ [⟨p i, lenP o N i, false⟩] = outP p o N (i + 1) := by
      rw [outP_succ]
      unfold adP
      rw [if_neg (by omega)]
    rw [e1]
    exact ih (i + 1) (by omega) (by omega) fr' l' (by rw [Nat.add_sub_cancel]; exact hl') _ (fun hlt => by
      unfold lenP
      rw [if_neg (by omega)]
      omega)
/-- The spans of what was built. -/
theorem spans_blt (h : Bt size l0 l1 R K p o N) (second : Int) (h2 : K = 2 → second = p 1) (h3 : 3 ≤ K → second = l0) :
    spansP (bltF f l0 l1 R K p) size (p 0 + o) second N = .ok (outP p o N K) := by
  obtain ⟨k1, k2, k3, k4⟩ := bt_k h
  have hp := h.pg 0 (by omega)
  have := h.n0; have := h.n1; have := h.o0; have := h.o1; have h4 := h.o4
  have hm : (p 0 + o) % 4096 = o := by omega
  have hk : pgs (p 0 + o) N = K := by
    have := h.k
    unfold pgs at this ⊢
    rw [hm]
    rw [Int.emod_eq_of_lt h.o0 h.o1] at this
    exact this
  unfold spansP
  rw [if_neg (by omega), if_neg (by omega), if_neg (by omega)]
  unfold addA
  simp only []
  rw [hm]
  have e0 : min N (4096 - o) = lenP o N 0 := by unfold lenP; rw [if_pos rfl]
  have hc : chk size (p 0 + o) (lenP o N 0) = 0 := by
    unfold chk lenP
    rw [if_pos rfl, if_neg (by omega), if_pos (by omega)]
  rw [e0, if_neg (by omega), hk]
  have e1 : ([] : List Spn) ++ [⟨p 0 + o, lenP o N 0, false⟩] = outP p o N 1 := by
    rw [outP_succ]; rfl
  simp only []
  rw [e1]
  exact run_blt h second h2 (K - 1) 1 (Nat.le_refl _) (by omega) true second (fun hh => by rw [h3 hh]; unfold posP; rw [if_pos (.inr (by have := h.r; have := h.a0; omega))]; omega) _ (fun hlt => by
    unfold lenP
    rw [if_pos rfl]
    omega)
end
end Go.Proofs.Ytfmabknhfehdcaa

namespace Go.Proofs.Ytfmabknhfehdcaa
open Go.RowKit

/-- A descriptor. -/
structure Dsc where
  k : Int
  a : Int
  n : Int
  key : Int
def Dsc.cells (d : Dsc) : Array Value := #[.int .i64 d.k, .int .u64 d.a, .int .i64 d.n, .int .u32 d.key]
structure Dsc.Ok (d : Dsc) : Prop where
  k : -9223372036854775808 ≤ d.k ∧ d.k ≤ 9223372036854775807
  a : 0 ≤ d.a ∧ d.a ≤ 18446744073709551615
  n : -9223372036854775808 ≤ d.n ∧ d.n ≤ 9223372036854775807
  key : 0 ≤ d.key ∧ d.key ≤ 4294967295
/-- the greatest length of a kind, and one -/
def lim (k : Int) : Int := if k = 5 then 16777216 else 4294967296
def Vld (d : Dsc) : Prop := (1 ≤ d.k ∧ d.k ≤ 5) ∧ (0 ≤ d.n ∧ d.n < lim d.k) ∧ (d.key = 0 ∨ d.k = 5) ∧ (d.a = 0 ∨ d.k ≠ 2)
instance (d : Dsc) : Decidable (Vld d) := by unfold Vld; infer_instance
def vldD (d : Dsc) : Bool := decide (Vld d)

/-- the kinds -/
def kinds5 : Array Value := #[.int .i64 1, .int .i64 2, .int .i64 3, .int .i64 4, .int .i64 5]
theorem size5 : (Try.prog.info? 131).map (·.size) = some kinds5.size := by kernel_rfl
def zer5 : Array Value := #[.int .i64 0, .int .i64 0, .int .i64 0, .int .i64 0, .int .i64 0]
theorem zero5 (w : World) : (zeroValue 131).run Try.prog w = .ok (.agg zer5) w := by kernel_rfl
theorem build5 (w : World) : (Instr.build 131 #[(0, .int .i64 1), (1, .int .i64 2), (2, .int .i64 3), (3, .int .i64 4), (4, .int .i64 5)]).run Try.prog w = .ok (.agg kinds5) w := by kernel_rfl
theorem kinds5_one : kinds5.all (·.oneCell') = true := by simp [kinds5, Value.oneCell']
set_option maxRecDepth 100000 in
theorem types_any (w : World) : Calls Try.prog 78 #[] w fun e w' => e = .returned (.agg kinds5) ∧ Below w.heap.size w w' := by
  go_enter Try.func78, Try.ntmps78
  go_wp2_with (first
    | ((with_reducible show wpList _ _ _ (⟨some 0, _, _, _, _, _⟩ :: _) _ _); refine wpList_alloc rfl 131 rfl zero5 ?_; rw [show (Value.agg zer5).cells = zer5 from rfl])
    | ((with_reducible show wpList _ _ _ (⟨some 1, _, _, _, _, _⟩ :: _) _ _); refine wpList_buildC rfl 131 #[(0, .const (.int .i64 1)), (1, .const (.int .i64 2)), (2, .const (.int .i64 3)), (3, .const (.int .i64 4)), (4, .const (.int .i64 5))] rfl #[(0, .int .i64 1), (1, .int .i64 2), (2, .int .i64 3), (3, .int .i64 4), (4, .int .i64 5)] (by simp [Act.eval, Act.put]) (build5 _) ?_)
    | ((with_reducible show wpList _ _ _ (⟨none, _, _, _, _, _⟩ :: _) _ _); refine wpList_storeA rfl (b := w.heap.size) (A := zer5) (A' := kinds5) (ArrAt.fresh w zer5 _ (by decide)) 131 (.tmp 0) (.tmp 1) rfl (by simp [Act.eval, Act.put]) (by simp [Act.eval, Act.put]) size5 rfl kinds5_one ?_))
  exact bodyPost_ret (results_c rfl _ _ _ ((ArrAt.fresh w zer5 _ (by decide)).store kinds5 rfl) rfl Try.underlying131 rfl size5) rfl ⟨rfl, bstore ((Below.refl _ _).alloc (Nat.le_refl _) _) _ (Nat.le_refl _) _ _⟩

set_option maxHeartbeats 400000 in
theorem index5 (b : Nat) (k : Int) (w : World) (c0 : w.cell? ⟨b, 0, none⟩ = some (.int .i64 1)) (c1 : w.cell? ⟨b, 1, none⟩ = some (.int .i64 2)) (c2 : w.cell? ⟨b, 2, none⟩ = some (.int .i64 3)) (c3 : w.cell? ⟨b, 3, none⟩ = some (.int .i64 4)) (c4 : w.cell? ⟨b, 4, none⟩ = some (.int .i64 5)) :
   Calls Try.prog 79 #[.slice (some ⟨b, 0, none⟩) 5 5, .int .i64 k] w fun e w' => e = .returned (.int .i64 (if 1 ≤ k ∧ k ≤ 5 then k - 1 else -1)) ∧ w = w' := by
  by_cases h : 1 ≤ k ∧ k ≤ 5
  · obtain rfl | rfl | rfl | rfl | rfl : k = 1 ∨ k = 2 ∨ k = 3 ∨ k = 4 ∨ k = 5 := by omega
    all_goals
      clear h
      go_enter Try.func79, Try.ntmps79
      go_wp2
      refine wp_loop_rounds 6 ?_
      rw [rounds_succ]
      go_wp2
      try (rw [rounds_succ]; go_wp2)
      try (rw [rounds_succ]; go_wp2)
      try (rw [rounds_succ]; go_wp2)
      try (rw [rounds_succ]; go_wp2)
      go_ret
      exact ⟨rfl, rfl⟩
  · have e1 : (k == 1) = false := beq_eq_false_iff_ne.2 (by omega)
    have e2 : (k == 2) = false := beq_eq_false_iff_ne.2 (by omega)
    have e3 : (k == 3) = false := beq_eq_false_iff_ne.2 (by omega)
    have e4 : (k == 4) = false := beq_eq_false_iff_ne.2 (by omega)
    have e5 : (k == 5) = false := beq_eq_false_iff_ne.2 (by omega)
    have HH := Lib.hid h
    clear h
    go_enter Try.func79, Try.ntmps79
    go_wp2
    refine wp_loop_rounds 6 ?_
    rw [rounds_succ]
    go_wp2
    rw [rounds_succ]; go_wp2
    rw [rounds_succ]; go_wp2
    rw [rounds_succ]; go_wp2
    rw [rounds_succ]; go_wp2
    rw [rounds_succ]; go_wp2
    go_ret
    exact ⟨by first | rfl | rw [if_neg HH.out], rfl⟩

theorem contains5 (b : Nat) (k : Int) (r : Bool) (hr : decide (1 ≤ k ∧ k ≤ 5) = r) (w : World) (c0 : w.cell? ⟨b, 0, none⟩ = some (.int .i64 1)) (c1 : w.cell? ⟨b, 1, none⟩ = some (.int .i64 2)) (c2 : w.cell? ⟨b, 2, none⟩ = some (.int .i64 3)) (c3 : w.cell? ⟨b, 3, none⟩ = some (.int .i64 4)) (c4 : w.cell? ⟨b, 4, none⟩ = some (.int .i64 5)) :
   Calls Try.prog 91 #[.slice (some ⟨b, 0, none⟩) 5 5, .int .i64 k] w fun e w' => e = .returned (.bool r) ∧ w = w' := by
  obtain ⟨z, hz⟩ : ∃ z, z = (if 1 ≤ k ∧ k ≤ 5 then k - 1 else -1 : Int) := ⟨_, rfl⟩
  have HI := Lib.hid (index5 b k w c0 c1 c2 c3 c4)
  rw [← hz] at HI
  have d : decide (0 ≤ z) = r := by
    rw [← hr, hz]
    split <;> simp <;> omega
  clear hz hr
  go_enter Try.func91, Try.ntmps91
  go_wp2_with (go_at_call 79; refine HI.out.mono ?_; rintro e w' ⟨rfl, rfl⟩)
  go_ret
  exact ⟨by simp [d], rfl⟩

end Go.Proofs.Ytfmabknhfehdcaa
