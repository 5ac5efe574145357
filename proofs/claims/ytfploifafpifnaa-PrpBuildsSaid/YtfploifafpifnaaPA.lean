/- prp: aligned, Count, room, Lists; caught; got. -/
import Derived.Test.YtfploifafpifnaaMU
import Derived.Test.YtfploifafpifnaaPL
import Derived.Test.YtfploifafpifnaaGet
import Derived.Defers
import Derived.Recover
namespace Go.Proofs.Ytfploifafpifnaa
set_option linter.unusedVariables false
set_option linter.unusedSimpArgs false
open Go.RowKit

set_option maxHeartbeats 1000000 in
theorem aligned_any (a u : Int) (r : Bool) (w : World) (h0 : 0 ≤ a) (h1 : a ≤ 18446744073709551615) (hu : 0 < u) (hu2 : u ≤ 4096) (hr : (a % u == 0) = r) :
    Calls Try.prog 41 #[.int .u64 a, .int .i64 u] w fun e w' => e = .returned (.bool r) ∧ w = w' := by
  have hr' : (a.tmod u == 0) = r := by rw [Int.tmod_eq_emod_of_nonneg h0]; exact hr
  have hne : (u == 0) = false := beq_eq_false_iff_ne.2 (by omega)
  go_enter Try.func41, Try.ntmps41
  go_wp2_with fail
  go_ret
  exact ⟨rfl, rfl⟩
set_option maxHeartbeats 1000000 in
theorem count_any (a n K : Int) (w : World) (h0 : 0 ≤ a) (h1 : a ≤ 18446744073709551615) (hk : pgs a n = K) :
    Calls Try.prog 17 #[.int .u64 a, .int .i64 n] w fun e w' => e = .returned (.int .i64 K) ∧ w = w' := by
  unfold pgs at hk
  by_cases hn : n < 1
  · rw [if_pos (.inl hn)] at hk
    subst hk
    have q : decide (n < 1) = true := decide_eq_true hn
    go_enter Try.func17, Try.ntmps17
    go_wp2_with fail
    go_ret
    exact ⟨rfl, rfl⟩
  · have q : decide (n < 1) = false := decide_eq_false hn
    by_cases hn2 : 1048576 < n
    · rw [if_pos (.inr hn2)] at hk
      subst hk
      have q2 : decide (1048576 < n) = true := decide_eq_true hn2
      go_enter Try.func17, Try.ntmps17
      go_wp2_with fail
      go_ret
      exact ⟨rfl, rfl⟩
    · rw [if_neg (by omega)] at hk
      have q2 : decide (1048576 < n) = false := decide_eq_false hn2
      have HK := Lib.hid hk
      clear hk
      have b0 : 0 ≤ a % 4096 := by omega
      have b1 : a % 4096 < 4096 := by omega
      go_enter Try.func17, Try.ntmps17
      go_wp2_with fail
      go_ret
      exact ⟨by rw [← HK.out, show a % 4096 + n + 4096 - 1 = a % 4096 + n + 4095 by omega]; rfl, rfl⟩
set_option maxHeartbeats 1000000 in
theorem room_any (l R : Int) (w : World) (h0 : 0 ≤ l) (h1 : l ≤ 18446744073709551615) (hr : roomP l = R) :
    Calls Try.prog 30 #[.int .u64 l] w fun e w' => e = .returned (.int .i64 R) ∧ w = w' := by
  unfold roomP at hr
  have HR := Lib.hid hr
  clear hr
  have b0 : 0 ≤ l % 4096 := by omega
  have b1 : l % 4096 < 4096 := by omega
  go_enter Try.func30, Try.ntmps30
  go_wp2_with fail
  go_ret
  exact ⟨by rw [← HR.out, show 4096 - l % 4096 + 8 - 1 = 4096 - l % 4096 + 7 by omega]; rfl, rfl⟩
theorem roomP_bd (l : Int) : 1 ≤ roomP l ∧ roomP l ≤ 512 := by unfold roomP; omega
set_option maxRecDepth 100000 in
set_option maxHeartbeats 2000000 in
theorem lists_any (l n K : Int) (w : World) (h0 : 0 ≤ l) (h1 : l ≤ 18446744073709551615) (hn0 : -9223372036854775808 ≤ n) (hn1 : n ≤ 9223372036854775807) (hk : lstsP l n = K) :
    Calls Try.prog 24 #[.int .u64 l, .int .i64 n] w fun e w' => e = .returned (.int .i64 K) ∧ w = w' := by
  unfold lstsP at hk
  by_cases c1 : n < 3
  · rw [if_pos (.inl c1)] at hk
    subst hk
    have q : decide (n < 3) = true := decide_eq_true c1
    go_enter Try.func24, Try.ntmps24
    go_wp2_with fail
    go_ret
    exact ⟨rfl, rfl⟩
  · have q : decide (n < 3) = false := decide_eq_false c1
    by_cases c2 : 257 < n
    · rw [if_pos (.inr c2)] at hk
      subst hk
      have q2 : decide (257 < n) = true := decide_eq_true c2
      go_enter Try.func24, Try.ntmps24
      go_wp2_with fail
      go_ret
      exact ⟨rfl, rfl⟩
    · rw [if_neg (by omega)] at hk
      have q2 : decide (257 < n) = false := decide_eq_false c2
      obtain ⟨R, hR⟩ : ∃ z, z = roomP l := ⟨_, rfl⟩
      obtain ⟨r0, r1⟩ := roomP_bd l
      rw [← hR] at hk r0 r1
      have HR := Lib.hid hR.symm
      clear hR
      by_cases c3 : n - 1 ≤ R
      · rw [if_pos c3] at hk
        subst hk
        have q3 : decide (R < n - 1) = false := decide_eq_false (by omega)
        go_enter Try.func24, Try.ntmps24
        go_wp2_with (go_at_call 30; refine (room_any l R _ h0 h1 HR.out).mono ?_; rintro e w' ⟨rfl, rfl⟩)
        refine wp_loop_rounds 3 ?_
        rw [rounds_succ]
        go_wp2_with fail
        go_ret
        exact ⟨rfl, rfl⟩
      · rw [if_neg c3] at hk
        subst hk
        have q3 : decide (R < n - 1) = true := decide_eq_true (by omega)
        have q4 : decide (512 < n - 1 - (R - 1)) = false := decide_eq_false (by omega)
        go_enter Try.func24, Try.ntmps24
        go_wp2_with (go_at_call 30; refine (room_any l R _ h0 h1 HR.out).mono ?_; rintro e w' ⟨rfl, rfl⟩)
        refine wp_loop_rounds 3 ?_
        rw [rounds_succ]
        go_wp2_with fail
        rw [rounds_succ]
        go_wp2_with fail
        go_ret
        exact ⟨rfl, rfl⟩
/-- what clears the results, and what lies there then -/
structure Clears (f : Nat) (cs : Array Value) (S : Nat → Prop) (C C' : World → Prop) : Prop where
  enter : ∀ args w, (callFunc f args).run Try.prog w = .ok (.enter f args) w
  call : ∀ w, C w → Calls Try.prog f cs w fun e w' => e = .returned (.tuple #[]) ∧ Keeps S w w' ∧ C' w'

set_option maxRecDepth 100000 in
set_option maxHeartbeats 4000000 in
theorem caught_panicking (f : Nat) (cs' : Array Value) (S : Nat → Prop) (eb : Nat) (C C' : World → Prop) (x no : Int) (w : World) (hcl : Clears f cs' S C C') (hC : C w) (he : w.cell? ⟨eb, 0, none⟩ = some (.int .i64 x)) (hz : w.frozen? ⟨eb, 0, none⟩ = false) (hne : ¬ S eb)
    (hC' : ∀ a b, C' a → Keeps (One eb) a b → C' b) :
    CallsD Try.prog 25 #[.pointer (some ⟨eb, 0, none⟩), .func (.func f) #[] cs'] (.panicking [pan no]) w fun e u' w' =>
      e = .returned (.tuple #[]) ∧ u' = .panicking [{ pan no with recovered := true }] ∧ Keeps (fun j => S j ∨ j = eb) w w' ∧ C' w' ∧ w'.cell? ⟨eb, 0, none⟩ = some (.int .i64 no) := by
  have HCL := Lib.hid hcl
  have HC := Lib.hid hC
  have HC' := Lib.hid hC'
  have HE := Lib.hid he
  have HZ := Lib.hid hz
  unfold pan
  refine callsD_of_wpS Try.func25 rfl fun c₀ cs hu => ?_
  apply wpS_seq
  apply wpS_region
  simp [wpOpsS, go_sem, recoverD, hu, Try.ntmps25, Exit.thenS]
  refine wpS_of_wp ?_
  have HU := Lib.hid hu
  clear hcl hC hC' he hz hu
  generalize hq : (bodyPostS Try.prog Try.f25 c₀ cs _) = Q
  have HQ := Lib.hid hq
  clear hq
  have hfr : (#[Value.pointer (some ⟨eb, 0, none⟩), Value.func (.func f) #[] cs'] ++ ((Array.replicate 21 undef).setIfInBounds 5 (Value.iface 32 (.int .i64 no))).setIfInBounds 2 (Value.iface 32 (.int .i64 no)) : Array Value) = #[.pointer (some ⟨eb, 0, none⟩), .func (.func f) #[] cs', undef, undef, .iface 32 (.int .i64 no), undef, undef, .iface 32 (.int .i64 no), undef, undef, undef, undef, undef, undef, undef, undef, undef, undef, undef, undef, undef, undef, undef] := by kernel_rfl
  rw [hfr]
  clear hfr
  go_upto_region 2 with (fail)
  have hta : ∀ w, (Instr.typeAssert (.iface 32 (.int .i64 no)) 20 32 true).run Try.prog w = .ok (.tuple #[.int .i64 no, .bool true]) w := fun w => by kernel_rfl
  go_upto_region 3 with (fail)
  go_upto_region 5 with (fail)
  have hen := HCL.out.enter
  have hcall := Lib.hid (HCL.out.call w HC.out)
  go_upto_region 6 with ((with_reducible refine hcall.out.mono ?_); rintro e w1 ⟨rfl, hk, hc1⟩)
  have he1 := hk.cell HE.out (fun e => hne e)
  have hz1 : w1.frozen? ⟨eb, 0, none⟩ = false := (World.frozen?_of_block (w := w) (hk.block eb (World.block_lt_of_cell? _ _ HE.out) (fun e => hne e))).trans HZ.out
  have HK := Lib.hid hk
  have HC1 := Lib.hid hc1
  clear hk hc1 hen hcall
  go_wp2_with fail
  rw [← HQ.out]
  refine ⟨rfl, _, rfl, .tuple #[], ?_, rfl, rfl, (HK.out.mono fun _ _ h => .inl h).trans (((Keeps.refl (One eb) w1).set1 0 (.int .i64 no)).mono fun _ _ h => .inr h), HC'.out _ _ HC1.out ((Keeps.refl (One eb) w1).set1 0 (.int .i64 no)), World.cell?_setCell_same _ _ _ he1⟩
  simp [results, Try.results25]

theorem caught_idle (u v : Value) (w : World) :
    CallsD Try.prog 25 #[u, v] .returning w fun e u' w' => e = .returned (.tuple #[]) ∧ u' = .returning ∧ w' = w := by
  refine callsD_of_wpS Try.func25 rfl fun c₀ cs hu => ?_
  apply wpS_seq
  apply wpS_region
  simp [wpOpsS, go_sem, recoverD, hu, Try.ntmps25, Exit.thenS]
  apply wpS_seq
  apply wpS_region
  simp [wpOpsS, go_sem, recoverD, hu, Try.ntmps25, Exit.thenS]
  refine wpS_cond (t := false) (by simp [Act.eval, Array.replicate]) ?_
  simp only [Bool.false_eq_true, if_false]
  refine wpS_of_wp (wp_skip ?_)
  cases c₀
  simp_all [bodyPostS, results, Try.results25]

/-- the spans cleared -/
theorem clears_spans (cb : Nat) : Clears 40 #[.pointer (some ⟨cb, 0, none⟩)] (One cb) (fun w => (∃ v, w.cell? ⟨cb, 0, none⟩ = some v) ∧ w.frozen? ⟨cb, 0, none⟩ = false) (fun w => w.cell? ⟨cb, 0, none⟩ = some (.slice none 0 0)) := by
  refine ⟨fun args w => by simp [go_sem], fun w h => ?_⟩
  obtain ⟨⟨v, hc⟩, hf⟩ := h
  go_enter Try.func40, Try.ntmps40
  go_wp2_with fail
  go_end0
  exact ⟨rfl, (Keeps.refl _ _).set1 _ _, World.cell?_setCell_same _ _ _ hc⟩
end Go.Proofs.Ytfploifafpifnaa
