/- prp: Each; what its iterator hands to a loop. -/
import Derived.Test.YtfploifafpifnaaSP
namespace Go.Proofs.Ytfploifafpifnaa
set_option linter.unusedVariables false
set_option linter.unusedSimpArgs false
open Go.RowKit Go.Shelf
attribute [local go_sem] Oper.semAt_some

/-- What Each leaves. -/
def EachPost (w : World) (R : Except Int (List Spn)) (e : Ending) (w' : World) : Prop :=
  ∃ c ao cap, e = .returned (.func (.func 45) #[] #[.pointer (some ⟨c, 0, none⟩)]) ∧ w.heap.size ≤ c ∧ Below w.heap.size w w' ∧ w'.cell? ⟨c, 0, none⟩ = some (.slice ao (spL R).length cap) ∧ SpAt w' ao (spL R) ∧ (spL R).length ≤ 9223372036854775807 ∧ ∀ g o, ao = some ⟨g, o, none⟩ → w.heap.size ≤ g ∧ g < w'.heap.size
set_option maxRecDepth 100000 in
set_option maxHeartbeats 2000000 in
theorem each_of (p : Option Addr) (x y m : Int) (R : Except Int (List Spn)) (w : World)
    (hsp : Calls Try.prog 16 #[.pointer p, .int .u64 x, .int .u64 y, .int .i64 m] w (SpPost w R)) :
    Calls Try.prog 19 #[.pointer p, .int .u64 x, .int .u64 y, .int .i64 m] w (EachPost w R) := by
  have hsp := Lib.hid hsp
  have hmf : ∀ (fn : Fn) (first cap : Array Value) (w : World), (Instr.makeFunc fn first cap).run Try.prog w = .ok (.func fn first cap) w := fun _ _ _ _ => rfl
  go_enter Try.func19, Try.ntmps19
  cases R with
  | error e =>
    go_wp2_with (first
      | (go_at_call 16; refine hsp.out.mono ?_; rintro e2 w1 ⟨hb1, rfl⟩; have B1 := Lib.hid hb1; clear hb1))
    go_ret
    refine ⟨w1.heap.size, none, 0, rfl, B1.out.size, B1.out.alloc B1.out.size _, ?_, SpAt.nil _ _, by show 0 ≤ _; omega, fun g o e => by cases e⟩
    go_simp
    rfl
  | ok l =>
    go_wp2_with (first
      | (go_at_call 16; refine hsp.out.mono ?_; rintro e2 w1 ⟨hb1, v, rfl, hown⟩; obtain ⟨aw, cw, rfl, hl1, hl2⟩ := ownsRow_shape hown; have HGL := Lib.hid (own_lt hown); have HGE := Lib.hid (own_ge hown); have B1 := Lib.hid hb1; have HOW := Lib.hid (spAt_owns hown); have HLL := Lib.hid (show l.length ≤ 9223372036854775807 by unfold maxLen at hl2; omega); clear hb1 hown hl1 hl2))
    go_ret
    refine ⟨w1.heap.size, aw, cw, rfl, B1.out.size, B1.out.alloc B1.out.size _, ?_, HOW.out.below ((Below.refl _ _).alloc (Nat.le_refl _) _), HLL.out, fun g o e => by have := HGL.out g o e; have := HGE.out g o e; exact ⟨by omega, by simp; omega⟩⟩
    go_simp
    rfl

set_option maxRecDepth 100000 in
set_option maxHeartbeats 2000000 in
theorem each1_stops (n : Nat) (hn : 2 ≤ n) (c cap : Nat) (l : List Spn) (ao : Option Addr) (w : World) (hc : w.cell? ⟨c, 0, none⟩ = some (.slice ao l.length cap)) (hS : SpAt w ao l) (hl : l.length ≤ 9223372036854775807) :
    SeqStopsK Fence.wide n Try.prog 45 #[.pointer (some ⟨c, 0, none⟩)] (encS l) (KeepA ao) (fun xs => xs = List.range l.length) (fun pre => ∃ k, pre = List.range k) l.length w := fun lb J Jx W hW hJ hJx hY h0 => by
  have hcW : W.cell? ⟨c, 0, none⟩ = some (.slice ao l.length cap) := (hW.cell (World.block_lt_of_cell? _ _ hc)).trans hc
  have hSW := hS.below hW
  obtain ⟨m, hm⟩ : ∃ m, m = l.length := ⟨_, rfl⟩
  rw [← hm] at hcW hY hl ⊢
  have HS := Lib.hid hSW
  have HM := Lib.hid hm
  have HJ := Lib.hid hJ
  clear hS hSW hc hm hW
  refine callsIn_of_wp Try.func45 rfl trivial ?_ rfl
  simp only [Try.ntmps45, List.size_toArray, List.length_cons, List.length_nil, Nat.reduceAdd, Nat.reduceSub, Array.replicate_succ, Array.replicate_zero, List.push_toArray, List.append_toArray, List.nil_append, List.cons_append]
  gi_wp2
  refine wpIn_wide.2 (wp_scope_straight ((wpIn_wide (n := n)).1 ?_))
  gi_wp2_with (with_reducible refine wpIn_label ?_)
  gi_loopw [7] (fun i wr => ∃ k : Nat, k ≤ m ∧ i = .int .i64 (k : Nat) ∧ J (List.range k) wr ∧ KeepA ao W wr) (fun i _ => m - (intOf i).toNat)
  case atStart => exact ⟨0, Nat.zero_le _, rfl, by simpa using h0, fun _ _ _ => rfl⟩
  case round =>
    obtain ⟨k, hk, rfl, hJk, hkeep⟩ := hrel
    have HKE := Lib.hid hkeep
    by_cases hkm : k < m
    · have q1 : decide ((k : Int) < (m : Int)) = true := decide_eq_true (by omega)
      have hSk := HS.out.keep hkeep
      obtain ⟨g, o, rfl, hr⟩ := hSk k (by rw [← HM.out]; exact hkm)
      have eg : l[k]'(by rw [← HM.out]; exact hkm) = l.getD k zSp := by simp [List.getD_eq_getElem?_getD, show k < l.length by rw [← HM.out]; exact hkm]
      rw [eg] at hr
      obtain ⟨x, hx⟩ : ∃ x, x = l.getD k zSp := ⟨_, rfl⟩
      rw [← hx] at hr
      have c0 : wr.cell? ⟨g, o + k * 3, none⟩ = some (.int .u64 x.a) := hr 0 _ rfl
      have c1 : wr.cell? ⟨g, o + k * 3 + 1, none⟩ = some (.int .i64 x.n) := hr 1 _ rfl
      have c2 : wr.cell? ⟨g, o + k * 3 + 2, none⟩ = some (.bool x.bk) := hr 2 _ rfl
      have hg : g < wr.heap.size := World.block_lt_of_cell? _ _ c0
      obtain ⟨w2, hw2⟩ : ∃ z, z = wr.alloc (.cells #[.int .u64 x.a, .int .i64 x.n, .bool x.bk] 49) := ⟨_, rfl⟩
      have hJ2 : J (List.range k) w2 := by rw [hw2]; exact HJ.out _ _ _ none hJk (World.grownBy_alloc wr _ none) (fun r e => by cases e)
      have hY1 := hY (List.range k) k w2 hJ2 (by rw [List.length_range]; exact hkm)
      simp only [encS] at hY1
      rw [← hx] at hY1
      have hk2 : KeepA (some ⟨g, o, none⟩) wr w2 := fun g' o' e => by cases e; rw [hw2]; exact Below.heap_alloc _ _ _ hg
      have hz2 : wr.heap.size ≤ w2.heap.size := by rw [hw2]; simp
      obtain ⟨fn, tmps, assign, body, hy, hR⟩ := hY1
      have HX := Lib.hid hx
      have HW2 := Lib.hid hw2
      have HJ2 := Lib.hid hJ2
      have HK2 := Lib.hid hk2
      clear hY hJ hJx hr eg hSk hkeep hx hw2 hJ2 hk2 hJk
      gi_wp2
      rw [← HW2.out]
      rw [hy]
      refine ⟨fun _ => by omega, hR.mono ?_⟩
      rintro e W' (⟨rfl, hJ', hk'⟩ | ⟨rfl, hJx'⟩)
      · gi_wp2
        refine ⟨⟨k + 1, by omega, by go_num, by rw [List.range_succ]; exact hJ', fun g' o' e => (hk' g' o' e).trans ((HK2.out g' o' e).trans (HKE.out g' o' e))⟩, by simp [intOf]; omega⟩
      · gi_wp2
        rw [Exit.noGoto_normal]
        go_end0
        exact ⟨⟨_, rfl⟩, .inr ⟨_, ⟨k + 1, rfl⟩, by rw [List.range_succ]; exact hJx'⟩⟩
    · have q1 : decide ((k : Int) < (m : Int)) = false := decide_eq_false (by omega)
      have hkm2 : k = m := by omega
      have HKM := Lib.hid hkm2
      clear hkm2 hY hJ hJx hkeep
      gi_wp2
      rw [Exit.noGoto_normal]
      go_end0
      exact ⟨⟨_, rfl⟩, .inl ⟨_, rfl, by rw [← HKM.out]; exact hJk⟩⟩
end Go.Proofs.Ytfploifafpifnaa
