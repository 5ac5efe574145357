/- memory: what the iterator over the log hands to a loop. -/
import Derived.RangeFuncNested
import Derived.RangeFuncBound
import Derived.RangeFuncCalls
import Derived.RangeFuncLeaves
import Derived.Shelf.Abstract
import Derived.Shelf.RegionOpen
import Derived.OwnWalkIn
import Derived.TacticsInMore
import Derived.LoopNIn
import Derived.LoopIn
import Derived.Test.YtobbnfdflogicaaH
namespace Go.Proofs.Ytobbnfdflogicaa
open Go.RowKit Go.Shelf
attribute [local go_sem] Oper.semAt_some

/-- how many writes are logged -/
def many (L : List (Nat × Nat)) : Nat := L.length - (L.length - 256)
/-- the number of the j-th logged write, and its span: what a loop over the log is handed -/
def encW (L : List (Nat × Nat)) (j : Nat) : Array Value := #[.int .i64 ((L.length - 256 + j : Nat) : Int), .agg #[.int .u64 (L.getD (L.length - 256 + j) (0, 0)).1, .int .i64 (L.getD (L.length - 256 + j) (0, 0)).2, .bool false]]

/-- Block g holds what it held. -/
def KeepG (g : Nat) (A B : World) : Prop := B.heap[g]? = A.heap[g]?

theorem JAt.of_keep {A B : World} {g : Nat} {L : List (Nat × Nat)} (h : JAt A g L) (k : KeepG g A B) : JAt B g L := by
  obtain ⟨G, h1, h2⟩ := h
  exact ⟨G, h1.of_block k, h2⟩

set_option maxRecDepth 100000 in
set_option maxHeartbeats 2000000 in
theorem writes1_stops (n : Nat) (hn : 2 ≤ n) (g : Nat) (L : List (Nat × Nat)) (hL : L.length < 4611686018427387904) (w : World) (hJ0 : JAt w g L) :
    SeqStopsK Fence.wide n Try.prog 30 #[.pointer (some ⟨g, 0, none⟩)] (encW L) (KeepG g) (fun xs => xs = List.range (many L)) (fun pre => ∃ k, pre = List.range k) (many L) w := fun l J Jx W hW hJ hJx hY h0 => by
  have hg : g < w.heap.size := hJ0.choose_spec.1.lt
  have hJ1 : JAt W g L := hJ0.of_keep (hW.block g hg)
  refine callsIn_of_wp Try.func30 rfl trivial ?_ rfl
  simp only [Try.ntmps30, List.size_toArray, List.length_cons, List.length_nil, Nat.reduceAdd, Nat.reduceSub, Array.replicate_succ, Array.replicate_zero, List.push_toArray, List.append_toArray, List.nil_append, List.cons_append]
  obtain ⟨G, hr, hc, hok⟩ := hJ1
  have h768 := hr.cell (i := 768) (by omega)
  rw [hc] at h768
  have HJ := Lib.hid hJ0
  have Hr := Lib.hid hr
  have Hc := Lib.hid hc
  clear hJ0 hr hc
  gi_wp2
  refine wpIn_wide.2 (wp_scope_straight ((wpIn_wide (n := n)).1 ?_))
  gi_wp2_with (first | (with_reducible refine wpIn_label ?_) | (refine ⟨trivial, fun _ => (by omega), ?_⟩; gi_at_call 31; refine (callsIn_wide.2 (first_any g L.length _ h768 hL)).mono ?_; rintro e w' ⟨rfl, rfl⟩))
  have hfr := L.length - 256
  clear hfr
  gi_loopw [3] (fun i wr => ∃ k : Nat, k ≤ many L ∧ i = .int .i64 ((L.length - 256 + k : Nat) : Int) ∧ J (List.range k) wr ∧ KeepG g W wr) (fun i _ => (L.length - (intOf i).toNat))
  case atStart => exact ⟨0, Nat.zero_le _, rfl, by simpa using h0, rfl⟩
  case round =>
    obtain ⟨k, hk, rfl, hJk, hkeep⟩ := hrel
    have hil : many L = L.length - (L.length - 256) := rfl
    have hr' := Hr.out.of_block hkeep
    by_cases hlt : L.length - 256 + k < L.length
    · obtain ⟨a1, a2, a3⟩ := hok.at' (L.length - 256 + k) hlt (by omega)
      have eg : L[L.length - 256 + k]'hlt = L.getD (L.length - 256 + k) (0, 0) := by simp [hlt]
      rw [eg] at a1 a2
      have hY1 := hY (List.range k) k wr hJk (by rw [List.length_range]; omega)
      simp only [encW] at hY1
      generalize hx : L.getD (L.length - 256 + k) (0, 0) = x at *
      generalize hm : L.length - 256 + k = m at *
      clear eg hx
      obtain ⟨r, hrr⟩ : ∃ r, r = m % 256 := ⟨_, rfl⟩
      have hr256 : r < 256 := by omega
      have hcast : ((m : Int) % 256) = r := by omega
      rw [← hrr] at a1 a2 a3
      have c0 := hr'.cell (i := r * 3) (by omega)
      have c1 := hr'.cell (i := r * 3 + 1) (by omega)
      have c2 := hr'.cell (i := r * 3 + 2) (by omega)
      rw [show r * 3 = 3 * r from Nat.mul_comm _ _] at c0 c1 c2
      rw [a1] at c0
      rw [a2] at c1
      rw [a3] at c2
      rw [show 3 * r = r * 3 from Nat.mul_comm _ _] at c0 c1 c2
      have c768 := hr'.cell (i := 768) (by omega)
      rw [Hc.out] at c768
      obtain ⟨fn, tmps, assign, body, hy, hR⟩ := hY1
      have HM := Lib.hid hm
      have HR := Lib.hid hrr
      have HL := Lib.hid hil
      have HR' := Lib.hid hr'
      clear a1 a2 a3 hm hrr hY hJ hJx hok hil hr'
      gi_wp2
      refine ⟨fun _ => by omega, hR.mono ?_⟩
      rintro e W' (⟨rfl, hJ', hk'⟩ | ⟨rfl, hJx'⟩)
      · gi_wp2
        have e1 := HM.out
        refine ⟨⟨k + 1, by rw [HL.out]; omega, by rw [← Nat.add_assoc, e1]; go_num, by rw [List.range_succ]; exact hJ', hk'.trans hkeep⟩, by simp [intOf]; omega⟩
      · gi_wp2
        rw [Exit.noGoto_normal]
        go_end0
        exact ⟨⟨_, rfl⟩, .inr ⟨_, ⟨k + 1, rfl⟩, by rw [List.range_succ]; exact hJx'⟩⟩
    · have hk2 : many L = k := by omega
      have c768 := hr'.cell (i := 768) (by omega)
      rw [Hc.out] at c768
      generalize hm : L.length - 256 + k = m at *
      have HM := Lib.hid hm
      have HK := Lib.hid hk2
      clear hm hk2 hY hJ hJx hok hil hr'
      gi_wp2
      rw [Exit.noGoto_normal]
      go_end0
      exact ⟨⟨_, rfl⟩, .inl ⟨_, rfl, by rw [HK.out]; exact hJk⟩⟩
end Go.Proofs.Ytobbnfdflogicaa
