/- connect: ValidName, and the reference's Name. -/
import Derived.Test.YtchkipafjnehfaaName
namespace Go.Proofs.Ytchkipafjnehfaa
set_option linter.unusedVariables false
set_option linter.unusedSimpArgs false
open Go.RowKit

set_option maxHeartbeats 1000000 in
theorem IndexFunc_any (s : ByteArray) (w : World) (hs : s.size ≤ 9223372036854775807) :
    Calls Try.prog 43 #[.string s, .func (.func 44) #[] #[]] w (IdxPost s w) := by
  go_enter Try.func43, Try.ntmps43
  go_wp2_with fail
  refine (indexFunc_any s w hs).mono ?_
  rintro e w1 ⟨r, rfl, h1, h2, h3, hb⟩
  have H1 := Lib.hid h1
  clear h1
  go_wp2_with fail
  go_ret
  exact ⟨r, rfl, H1.out, h2, h3, hb⟩

set_option maxHeartbeats 1000000 in
theorem validName_any (s : ByteArray) (w : World) (hs : s.size ≤ 9223372036854775807) :
    Calls Try.prog 28 #[.string s] w fun e w' => e = .returned (.bool (vName s)) ∧ Below w.heap.size w w' := by
  obtain ⟨c, hc⟩ : ∃ c, vName s = c := ⟨_, rfl⟩
  rw [hc]
  have HC := Lib.hid hc
  clear hc
  by_cases h1 : 1 ≤ s.size
  · have d1 : decide ((1 : Int) ≤ (s.size : Int)) = true := by simp; omega
    by_cases h2 : s.size ≤ 223
    · have d2 : decide ((s.size : Int) ≤ 223) = true := by simp; omega
      go_enter Try.func28, Try.ntmps28
      go_wp2_with fail
      refine (IndexFunc_any s w hs).mono ?_
      rintro e w1 ⟨r, rfl, h3, h4, h5, hb⟩
      have e3 : decide (r < 0) = c := by
        rw [h3, ← HC.out]; unfold vName; simp [h1, h2]
      have HE := Lib.hid e3
      clear h3 e3
      go_wp2_with fail
      go_ret
      exact ⟨congrArg (fun b => Ending.returned (.bool b)) HE.out, hb⟩
    · have d2 : decide ((s.size : Int) ≤ 223) = false := by simp; omega
      have e3 : c = false := by rw [← HC.out]; unfold vName; simp; omega
      subst e3
      go_enter Try.func28, Try.ntmps28
      go_wp2_with fail
      go_ret
      exact ⟨rfl, Below.refl _ _⟩
  · have d1 : decide ((1 : Int) ≤ (s.size : Int)) = false := by simp; omega
    have e3 : c = false := by rw [← HC.out]; unfold vName; simp; omega
    subst e3
    go_enter Try.func28, Try.ntmps28
    go_wp2_with fail
    go_ret
    exact ⟨rfl, Below.refl _ _⟩

set_option maxHeartbeats 1000000 in
theorem refName_any (s : ByteArray) (w : World) (hs : s.size ≤ 9223372036854775807) :
    Calls Try.prog 29 #[.string s] w fun e w' => e = .returned (.bool (vName s)) ∧ w = w' := by
  obtain ⟨c, hc⟩ : ∃ c, vName s = c := ⟨_, rfl⟩
  rw [hc]
  have HC := Lib.hid hc
  clear hc
  go_enter Try.func29, Try.ntmps29
  go_wp2
  go_loop [3] (fun i => ∃ k : Nat, k ≤ s.size ∧ i = .int .i64 k ∧ ∀ i (h : i < s.size), i < k → okb (s[i]'h) = true) (fun i => s.size - (intOf i).toNat)
  case atStart => exact ⟨0, Nat.zero_le _, rfl, fun i h h0 => by omega⟩
  case round =>
    obtain ⟨k, hk, rfl, hall⟩ := hrel
    have HALL := Lib.hid hall
    clear hall
    by_cases hlt : k < s.size
    · cases ho : okb (s[k]'hlt) with
      | true =>
        have ho' : 33 ≤ (s[k]'hlt).toNat ∧ (s[k]'hlt).toNat ≤ 126 := by simpa [okb] using ho
        have HO := Lib.hid ho
        have d1 : decide (((s[k]'hlt).toNat : Int) < 33) = false := by simp; omega
        have d2 : decide (126 < ((s[k]'hlt).toNat : Int)) = false := by simp; omega
        clear ho ho'
        go_wp2
        go_round
        case rel =>
          refine ⟨k + 1, by omega, by go_num, fun i h h0 => ?_⟩
          by_cases e : i = k
          · subst e; exact HO.out
          · exact HALL.out i h (by omega)
        case measure => simp [intOf]; omega
      | false =>
        have hno : okName s = false := by
          cases h : okName s
          · rfl
          · rw [(okName_iff s).1 h k hlt] at ho; cases ho
        have e3 : c = false := by rw [← HC.out]; unfold vName; rw [hno]; simp
        subst e3
        by_cases h33 : (s[k]'hlt).toNat < 33
        · have d1 : decide (((s[k]'hlt).toNat : Int) < 33) = true := by simp; omega
          clear ho h33
          go_wp2
          go_ret
          exact ⟨rfl, rfl⟩
        · have d1 : decide (((s[k]'hlt).toNat : Int) < 33) = false := by simp; omega
          have d2 : decide (126 < ((s[k]'hlt).toNat : Int)) = true := by
            simp [okb] at ho; simp; omega
          clear ho h33
          go_wp2
          go_ret
          exact ⟨rfl, rfl⟩
    · have hyes : okName s = true := (okName_iff s).2 fun i h => HALL.out i h (by omega)
      have e3 : c = (decide (1 ≤ s.size) && decide (s.size ≤ 223)) := by rw [← HC.out]; unfold vName; rw [hyes]; simp
      have HE := Lib.hid e3
      clear hyes e3
      by_cases h1 : 1 ≤ s.size
      · have d1 : decide ((1 : Int) ≤ (s.size : Int)) = true := by simp; omega
        by_cases h2 : s.size ≤ 223
        · have d2 : decide ((s.size : Int) ≤ 223) = true := by simp; omega
          have e4 : c = true := by rw [HE.out]; simp; omega
          subst e4
          go_wp2
          go_ret
          exact ⟨rfl, rfl⟩
        · have d2 : decide ((s.size : Int) ≤ 223) = false := by simp; omega
          have e4 : c = false := by rw [HE.out]; simp; omega
          subst e4
          go_wp2
          go_ret
          exact ⟨rfl, rfl⟩
      · have d1 : decide ((1 : Int) ≤ (s.size : Int)) = false := by simp; omega
        have e4 : c = false := by rw [HE.out]; simp; omega
        subst e4
        go_wp2
        go_ret
        exact ⟨rfl, rfl⟩
end Go.Proofs.Ytchkipafjnehfaa
