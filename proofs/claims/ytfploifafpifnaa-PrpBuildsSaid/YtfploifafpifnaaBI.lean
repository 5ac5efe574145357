/- prp: what Build leaves, for any number of pages, with two lists: the spans that are read back. -/
import Derived.Test.YtfploifafpifnaaLN
namespace Go.Proofs.Ytfploifafpifnaa
set_option linter.unusedVariables false
set_option linter.unusedSimpArgs false
open Go.RowKit

theorem runP_few (f g : Nat → Int) (size : Nat) (second pages : Int) (h : ¬ 2 < pages) : ∀ (k : Nat) (i : Int) (s : PSt), runP f size second pages k i s = runP g size second pages k i s
  | 0, _, _ => rfl
  | k + 1, i, s => by
    have e : stepP f size second pages i s = stepP g size second pages i s := by
      unfold stepP adrP
      rw [if_neg h, if_neg h]
    unfold runP
    rw [e]
    cases stepP g size second pages i s with
    | error e => rfl
    | ok s' => exact runP_few f g size second pages h k (i + 1) s'
theorem spansP_few (f g : Nat → Int) (size : Nat) (x y n : Int) (h : ¬ 2 < pgs x n) : spansP f size x y n = spansP g size x y n := by
  unfold spansP
  simp only [runP_few f g size y (pgs x n) h]
theorem bytes_blt {f : Nat → Int} {l0 l1 R K : Nat} {p : Nat → Int} (h : Bytes f) : Bytes (bltF f l0 l1 R K p) := by
  unfold bltF
  split
  · exact bytes_upd h (bytes_wB _)
  · exact bytes_upd (bytes_upd h (bytes_wB _)) (bytes_wB _)
/-- two lists -/
def ls2 (l0 l1 : Nat) (i : Nat) : Int := if i = 0 then l0 else l1
theorem bt_varg {size l0 l1 R K : Nat} {p : Nat → Int} {o N : Int} (h : Bt size l0 l1 R K p o N) : VArg K 2 p (ls2 l0 l1) o N := by
  have ha := h.a0
  have hb := h.a1
  refine ⟨by have := h.n0; omega, h.n1, h.o0, h.o1, h.o4, h.k.symm, fun i hi => (h.pg i hi).1, fun i hi => ?_⟩
  unfold ls2
  split
  · exact ⟨by omega, .inl ‹_›⟩
  · exact ⟨by omega, .inr (by omega)⟩
theorem bt_lists {size l0 l1 R K : Nat} {p : Nat → Int} {o N : Int} (h : Bt size l0 l1 R K p o N) : ∃ z : Int, lstsP (ls2 l0 l1 0) (K : Nat) = z ∧ z ≤ ((2 : Nat) : Int) := by
  refine ⟨_, rfl, ?_⟩
  unfold lstsP
  repeat' split
  all_goals omega
theorem outP_length (p : Nat → Int) (o N : Int) (k : Nat) : (outP p o N k).length = k := by simp [outP]
/-- What Build leaves. -/
def BuiltPost (b B size l0 K : Nat) (p : Nat → Int) (o N : Int) (W : World) (e : Ending) (w' : World) : Prop :=
  ∃ (second : Int) (F : Nat → Int) (L : List (Nat × Nat)), e = .returned (.tuple #[.int .u64 (p 0 + o), .int .u64 second, .int .i64 0]) ∧ Keeps (Two b B) W w' ∧ MemAt w' b B size F L ∧ Bytes F ∧ 0 ≤ second ∧ second ≤ 18446744073709551615 ∧ (3 ≤ K → second = l0) ∧ spansP F size (p 0 + o) second N = .ok (outP p o N K)
theorem built_any {size l0 l1 R K : Nat} {p : Nat → Int} {o N : Int} (h : Bt size l0 l1 R K p o N) (b B : Nat) (f : Nat → Int) (hf : Bytes f) (L : List (Nat × Nat)) (hL : L.length < 1000) (pa : Option Addr) (pc : Nat) (W : World) (hM : MemAt W b B size f L) (hu : UAt W pa K p) (hpc : K ≤ pc) (hpc2 : pc ≤ 9223372036854775807) :
    Calls Try.prog 10 #[.pointer (some ⟨b, 0, none⟩), .slice (some ⟨W.heap.size, 0, none⟩) 2 2, .slice pa K pc, .int .i64 o, .int .i64 N] (W.alloc (.cells #[.int .u64 l0, .int .u64 l1] 31)) (BuiltPost b B size l0 K p o N W) := by
  obtain ⟨k1, k2, k3, k4⟩ := bt_k h
  have hv := bt_varg h
  have hn0 := h.n0; have hn1 := h.n1; have ho0 := h.o0; have ho1 := h.o1; have hs := h.sz; have f0 := h.f0; have f1 := h.f1
  obtain ⟨W2, h2⟩ : ∃ z, z = W.alloc (.cells #[.int .u64 l0, .int .u64 l1] 31) := ⟨_, rfl⟩
  have u2 : UAt W2 (some ⟨W.heap.size, 0, none⟩) 2 (ls2 l0 l1) := by
    rw [h2]
    exact uAt_fresh W _ 2 _ _ (fun i hi => by match i, hi with | 0, _ => rfl | 1, _ => rfl)
  have b2 : Below W.heap.size W W2 := by rw [h2]; exact (Below.refl _ _).alloc (Nat.le_refl _) _
  rw [← h2]
  have hM2 := hM.below b2
  have hu2 := hu.below b2
  have hul : U64 2 (ls2 l0 l1) := fun i hi => by unfold ls2; split <;> omega
  have hup : U64 K p := fun i hi => by have := (h.pg i hi).2; omega
  have hsp : ∀ second, (K = 2 → second = p 1) → (3 ≤ K → second = (l0 : Int)) → spansP (bltF f l0 l1 R K p) size (p 0 + o) second N = .ok (outP p o N K) := fun second q1 q2 => spans_blt h second q1 q2
  have hp0 := (h.pg 0 (by omega)).1
  have hpg : pgs (p 0 + o) N = K := by
    have hk := h.k
    unfold pgs at hk ⊢
    rw [show (p 0 + o) % 4096 = o % 4096 by omega]
    exact hk
  rcases Nat.lt_or_ge K 3 with c | c
  · rcases (by omega : K = 1 ∨ K = 2) with rfl | rfl
    · refine (bld_1 _ pa 2 1 2 pc (ls2 l0 l1) p o N b B size f L W2 hM2 (by omega) u2 hu2 hul hup (by omega) (by omega) (by omega) (by omega) (by omega) (by omega) hv rfl).mono ?_
      rintro e w' ⟨rfl, hb⟩
      refine ⟨0, f, L, rfl, Keeps.of_below (b2.trans (hb.mono b2.size)), hM2.below hb, hf, by omega, by omega, fun e => by omega, ?_⟩
      rw [spansP_few f (bltF f l0 l1 R 1 p) _ _ _ _ (by rw [hpg]; omega)]
      exact hsp 0 (fun e => by omega) (fun e => by omega)
    · refine (bld_2 _ pa 2 2 2 pc (ls2 l0 l1) p o N b B size f L W2 hM2 (by omega) u2 hu2 hul hup (by omega) (by omega) (by omega) (by omega) (by omega) (by omega) hv rfl).mono ?_
      rintro e w' ⟨rfl, hb⟩
      refine ⟨p 1, f, L, rfl, Keeps.of_below (b2.trans (hb.mono b2.size)), hM2.below hb, hf, (hup 1 (by omega)).1, (hup 1 (by omega)).2, fun e => by omega, ?_⟩
      rw [spansP_few f (bltF f l0 l1 R 2 p) _ _ _ _ (by rw [hpg]; omega)]
      exact hsp _ (fun e => rfl) (fun e => by omega)
  · obtain ⟨D, hD1, hD2, hD3⟩ := plan_blt (f := f) h c (l := ls2 l0 l1) rfl (fun _ => rfl)
    obtain ⟨z, hz1, hz2⟩ := bt_lists h
    refine (bld_lists _ pa 2 K 2 pc (ls2 l0 l1) p o N b B size f L W2 hM2 (by omega) u2 hu2 hul hup (by omega) (by omega) (by omega) (by omega) (by omega) (by omega) hv c hpc hpc2 (by omega) (by omega) (fun a e hb => ?_) z hz1 hz2 _ hD1).mono ?_
    · cases e
      rcases hb with e | e
      · have := hM.lt; have e : W.heap.size = b := e; omega
      · have := hM.lt'; have e : W.heap.size = B := e; omega
    · rintro e w' (⟨D', hD', rfl, hk, hm⟩ | ⟨hD', -⟩)
      · cases hD'
        rw [hD2] at hm
        exact ⟨l0, _, _, rfl, (Keeps.of_below b2).trans hk, hm, bytes_blt hf, by omega, by omega, fun _ => rfl, hsp _ (fun e => by omega) (fun _ => rfl)⟩
      · cases hD'
/-- the lengths add up -/
def sumP (o N : Int) : Nat → Int
  | 0 => 0
  | k + 1 => sumP o N k + lenP o N k
theorem sumP_eq {o N : Int} (hn : 1 ≤ N) (ho : 0 ≤ o) (h1 : o < 4096) : ∀ k, sumP o N (k + 1) = min N (4096 * (k + 1 : Nat) - o) ∨ N + o < 4096 * k
  | 0 => by
    left
    show 0 + lenP o N 0 = _
    unfold lenP
    rw [if_pos rfl]
    omega
  | k + 1 => by
    rcases Int.lt_or_le (N + o) (4096 * (k + 1 : Nat)) with c | c
    · right; exact c
    · left
      rcases sumP_eq hn ho h1 k with h | h
      · show sumP o N (k + 1) + lenP o N (k + 1) = _
        rw [h]
        unfold lenP
        rw [if_neg (by omega)]
        omega
      · omega
theorem bt_sum {size l0 l1 R K : Nat} {p : Nat → Int} {o N : Int} (h : Bt size l0 l1 R K p o N) : sumP o N K = N := by
  obtain ⟨k1, k2, k3, k4⟩ := bt_k h
  obtain ⟨k, rfl⟩ : ∃ k, K = k + 1 := ⟨K - 1, by omega⟩
  rcases sumP_eq h.n0 h.o0 h.o1 k with e | e
  · rw [e]; omega
  · omega
/-- each span -/
theorem bt_span {size l0 l1 R K : Nat} {p : Nat → Int} {o N : Int} (h : Bt size l0 l1 R K p o N) (i : Nat) (hi : i < K) : 0 ≤ adP p o i ∧ 1 ≤ lenP o N i ∧ lenP o N i ≤ 4096 ∧ adP p o i + lenP o N i ≤ size ∧ adP p o i / 4096 = (adP p o i + lenP o N i - 1) / 4096 := by
  obtain ⟨k1, k2, k3, k4⟩ := bt_k h
  have hn0 := h.n0; have ho0 := h.o0; have ho1 := h.o1
  obtain ⟨p1, p2, p3⟩ := h.pg i hi
  unfold adP lenP
  split
  · subst i
    omega
  · omega
end Go.Proofs.Ytfploifafpifnaa
