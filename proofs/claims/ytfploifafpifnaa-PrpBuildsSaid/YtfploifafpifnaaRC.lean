/- prp: the specification's bytes and Lists. -/
import Derived.Test.YtfploifafpifnaaLN
namespace Go.Proofs.Ytfploifafpifnaa
set_option linter.unusedVariables false
set_option linter.unusedSimpArgs false
open Go.RowKit

theorem bytesL_succ (v : Int) (k : Nat) : bytesL v k ++ [.int .u8 (byteOf v k)] = bytesL v (k + 1) := by
  unfold bytesL
  rw [List.range_succ, List.map_append]
  rfl
/-- Eight bytes of a number, in a new block. -/
def BytesPost (v : Int) (w : World) (e : Ending) (w' : World) : Prop := ∃ g c, e = .returned (.slice (some ⟨g, 0, none⟩) 8 c) ∧ Below w.heap.size w w' ∧ w.heap.size ≤ g ∧ ∀ j u, (bytesL v 8)[j]? = some u → w'.cell? ((⟨g, 0, none⟩ : Addr).add j) = some u
set_option maxRecDepth 100000 in
set_option maxHeartbeats 2000000 in
theorem rbytes_any (v : Int) (w : World) (h0 : 0 ≤ v) (h1 : v ≤ 18446744073709551615) : Calls Try.prog 35 #[.int .u64 v] w (BytesPost v w) := by
  obtain ⟨bs, hbs⟩ : ∃ z, z = w.heap.size := ⟨_, rfl⟩
  have HBS := Lib.hid hbs
  unfold BytesPost
  rw [← hbs]
  clear hbs
  go_enter Try.func35, Try.ntmps35
  go_wp2_with fail
  go_loopw [3, 4] (fun v3 v4 wr => ∃ k : Nat, k ≤ 8 ∧ v4 = .int .i64 (k : Nat) ∧ wr.ownsRow bs 5 1 v3 k (bytesL v k) ∧ Below bs w wr) (fun _ v4 _ => 8 - (intOf v4).toNat)
  case atStart => exact ⟨0, by omega, rfl, World.ownsRow_nil _ _ _ _, Below.refl _ _⟩
  case round =>
    obtain ⟨k, hk, rfl, hown, hb⟩ := hrel
    have HO := Lib.hid hown
    have HB := Lib.hid hb
    have hwr : bs ≤ wr.heap.size := by rw [HBS.out]; exact hb.size
    clear hown hb
    by_cases hk8 : k < 8
    · have q1 : decide ((k : Int) < 8) = true := decide_eq_true (by omega)
      have e1 : IntKind.i64.wrap (8 * (k : Int)) = 8 * (k : Int) := IntWalk.i64_in _ (by omega)
      obtain ⟨i0, hi0, hz0, hz1, hz2⟩ := info_parts infoU8
      have HS := Lib.hid (show bytesL v k ++ [.int .u8 (v / 2 ^ (8 * k) % 256)] = bytesL v (k + 1) from bytesL_succ v k)
      go_wp2_with (at_builtin; refine wpList_append_lies _ rfl _ _ 24 rfl bs 5 i0 _ 1 1 Try.underlying24 hi0 hz0 hz1 hz2 rfl (by decide) u3 k (bytesL v k) rfl (HO.out.alloc _) ⟨wr.heap.size, 0, none⟩ 1 1 [.int .u8 (v / 2 ^ (8 * k) % 256)] rfl rfl (World.news_of_block (cs := #[.int .u8 (v / 2 ^ (8 * k) % 256)]) (t := 5) (fr := (0, 0)) (heap_alloc_new wr _)) (by simp [Value.oneCell']) (by decide) (by unfold maxLen; omega) (by omega) (by simp; omega) (wr.heap.size + 1) (by simp) ?_; intro gg cap w6 hown6 hgr6 hat6 hlt6; rw [HS.out] at hown6; have O6 := Lib.hid hown6; have K6 := Lib.hid (grown_keeps ((Below.refl _ wr).alloc (Nat.le_refl _) _) HO.out hwr hgr6); clear hown6 hgr6 hat6)
      exact ⟨⟨k + 1, by omega, by go_num, O6.out, HB.out.trans (K6.out.below (B := bs) hwr (fun j hj e => by have e : bs ≤ j := e; omega))⟩, by simp [intOf]; omega⟩
    · obtain rfl : k = 8 := by omega
      obtain ⟨g, cap, rfl, hg, hc⟩ := own_form HO.out (by omega)
      go_wp2_with fail
      go_ret
      refine ⟨g, cap, rfl, HB.out, hg, fun j u hj => ?_⟩
      rw [Addr.add_mid, Nat.zero_add]
      exact hc j u (by have := (List.getElem?_eq_some_iff.1 hj).1; rw [bytesL_length] at this; exact this) hj
set_option maxRecDepth 100000 in
set_option maxHeartbeats 2000000 in
theorem rlists_any (l n K : Int) (w : World) (h0 : 0 ≤ l) (h1 : l ≤ 18446744073709551615) (hn0 : -9223372036854775808 ≤ n) (hn1 : n ≤ 9223372036854775807) (hk : lstsP l n = K) :
    Calls Try.prog 34 #[.int .u64 l, .int .i64 n] w fun e w' => e = .returned (.int .i64 K) ∧ w = w' := by
  unfold lstsP at hk
  by_cases c1 : n < 3
  · rw [if_pos (.inl c1)] at hk
    subst hk
    have q : decide (n ≤ 2) = true := decide_eq_true (by omega)
    go_enter Try.func34, Try.ntmps34
    go_wp2_with fail
    go_ret
    exact ⟨rfl, rfl⟩
  · have q : decide (n ≤ 2) = false := decide_eq_false (by omega)
    by_cases c2 : 257 < n
    · rw [if_pos (.inr c2)] at hk
      subst hk
      have q2 : decide (257 < n) = true := decide_eq_true c2
      go_enter Try.func34, Try.ntmps34
      go_wp2_with fail
      go_ret
      exact ⟨rfl, rfl⟩
    · rw [if_neg (by omega)] at hk
      have q2 : decide (257 < n) = false := decide_eq_false c2
      obtain ⟨R, hR⟩ : ∃ z, z = roomP l := ⟨_, rfl⟩
      obtain ⟨r0, r1⟩ := roomP_bd l
      rw [← hR] at hk r0 r1
      have HR := Lib.hid (show (4096 - l % 4096 + 7) / 8 = R by rw [hR]; rfl)
      clear hR
      by_cases c3 : n - 1 ≤ R
      · rw [if_pos c3] at hk
        subst hk
        have q3 : decide (R < n - 1) = false := decide_eq_false (by omega)
        go_enter Try.func34, Try.ntmps34
        go_upto_region 5 with fail
        rw [HR.out]
        refine wp_loop_rounds 3 ?_
        rw [rounds_succ]
        go_wp2_with fail
        go_ret
        exact ⟨rfl, rfl⟩
      · rw [if_neg c3] at hk
        subst hk
        have q3 : decide (R < n - 1) = true := decide_eq_true (by omega)
        have q4 : decide (512 < n - 1 - (R - 1)) = false := decide_eq_false (by omega)
        go_enter Try.func34, Try.ntmps34
        go_upto_region 5 with fail
        rw [HR.out]
        refine wp_loop_rounds 3 ?_
        rw [rounds_succ]
        go_wp2_with fail
        rw [rounds_succ]
        go_wp2_with fail
        go_ret
        exact ⟨rfl, rfl⟩
end Go.Proofs.Ytfploifafpifnaa
