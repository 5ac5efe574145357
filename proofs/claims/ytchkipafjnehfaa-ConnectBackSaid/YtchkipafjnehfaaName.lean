/- connect: names. -/
import Derived.Test.YtchkipafjnehfaaA
import Derived.Lib.OthersKept
import Derived.Lib.DecodeN
import Derived.Deep.LoopGhost
namespace Go.Proofs.Ytchkipafjnehfaa
set_option linter.unusedVariables false
set_option linter.unusedSimpArgs false
open Go.RowKit

/-- a byte that a name may have -/
def okb (c : UInt8) : Bool := decide (33 ≤ c.toNat) && decide (c.toNat ≤ 126)
def okName (s : ByteArray) : Bool := s.data.toList.all okb
/-- a valid name -/
def vName (s : ByteArray) : Bool := decide (1 ≤ s.size) && decide (s.size ≤ 223) && okName s

theorem okName_iff (s : ByteArray) : okName s = true ↔ ∀ i (h : i < s.size), okb (s[i]'h) = true := by
  unfold okName
  rw [List.all_eq_true]
  constructor
  · intro h i hi
    exact h _ (Array.mem_toList_iff.2 (Array.getElem_mem hi))
  · intro h x hx
    obtain ⟨i, hi, rfl⟩ := List.mem_iff_getElem.1 hx
    exact h i (by simpa using hi)

set_option maxHeartbeats 400000 in
theorem pred_any (r : Int) (w : World) : Calls Try.prog 44 #[.int .i32 r] w fun e w' => e = .returned (.bool (decide (r < 33) || decide (126 < r))) ∧ w = w' := by
  cases h : decide (r < 33)
  · go_enter Try.func44, Try.ntmps44
    go_wp2
    go_ret
    exact ⟨by simp, rfl⟩
  · go_enter Try.func44, Try.ntmps44
    go_wp2
    go_ret
    exact ⟨by simp, rfl⟩

theorem pred_is (r : Int) (c : Bool) (w : World) (hc : (decide (r < 33) || decide (126 < r)) = c) : Calls Try.prog 44 #[.int .i32 r] w fun e w' => e = .returned (.bool c) ∧ w = w' := by
  subst hc; exact pred_any r w

/-- A byte beyond ASCII begins a rune beyond ASCII. -/
theorem decode_high (s : ByteArray) (i : Nat) (h : i < s.size) (hb : 128 ≤ (s[i]'h).toNat) : 128 ≤ (Utf8.decode s i).1 := by
  have e : s.get! i = s[i]'h := by
    simp [ByteArray.get!, getElem!_pos, h]
    rfl
  rw [Lib.decode_at, e]
  generalize (s[i]'h).toNat = b0 at *
  unfold Lib.decodeN
  repeat' split
  all_goals first | omega | (simp only []; omega)

/-- What strings.IndexFunc says of a name: less than 0 if every byte is fine. -/
def IdxPost (s : ByteArray) (w : World) (e : Ending) (w' : World) : Prop := ∃ r : Int, e = .returned (.int .i64 r) ∧ decide (r < 0) = okName s ∧ -1 ≤ r ∧ r ≤ 9223372036854775807 ∧ Below w.heap.size w w'

set_option maxRecDepth 100000 in
set_option maxHeartbeats 2000000 in
theorem indexFunc_any (s : ByteArray) (w : World) (hs : s.size ≤ 9223372036854775807) :
    Calls Try.prog 63 #[.string s, .func (.func 44) #[] #[], .bool true] w (IdxPost s w) := by
  have e44 : ∀ args w, (callFunc 44 args).run Try.prog w = .ok (.enter 44 args) w := fun args w => by simp [go_sem]
  go_enter Try.func63, Try.ntmps63
  go_wp2
  go_loopg [] s.size (fun g wx => ∃ pos : Nat, wx.heap[w.heap.size]? = some (.stringIter s pos) ∧ Below w.heap.size w wx ∧ pos ≤ s.size ∧ s.size = pos + g ∧ ∀ i (h : i < s.size), i < pos → okb (s[i]'h) = true)
  case atStart => exact ⟨0, World.iter_heap w s 0, (Below.refl _ w).alloc (Nat.le_refl _) _, by omega, by omega, fun i h h0 => by omega⟩
  case round =>
    obtain ⟨pos, hit, hbw, hp, hfu, hall⟩ := hrel
    have hsz : w.heap.size < wr.heap.size := (Array.getElem?_eq_some_iff.1 hit).1
    have HALL := Lib.hid hall
    have HFU := Lib.hid hfu
    clear hall hfu
    by_cases hlt : pos < s.size
    · obtain ⟨g, rfl⟩ : ∃ g, gk = g + 1 := ⟨gk - 1, by have := HFU.out; omega⟩
      have hnx : ∀ ty, (Instr.next (.pointer (some ⟨w.heap.size, 0, none⟩)) true ty).run Try.prog wr = _ := fun ty => Lib.run_next_any_at wr w.heap.size s pos ty hit hlt
      obtain ⟨R, hR⟩ : ∃ R, (Utf8.decode s pos).1 = R := ⟨_, rfl⟩
      obtain ⟨K, hK⟩ : ∃ K, (Utf8.decode s pos).2 = K := ⟨_, rfl⟩
      have hit2 := Lib.iterAt_heap wr w.heap.size s pos (pos + K) hit
      have hbw2 := Lib.below_iterAt hbw (k := w.heap.size) (Nat.le_refl _) s (pos + K)
      rw [hR, hK] at hnx
      obtain ⟨W, hWd⟩ : ∃ W, wr.iterAt w.heap.size s (pos + K) = W := ⟨_, rfl⟩
      rw [hWd] at hnx hit2 hbw2
      have HIT := Lib.hid hit2
      have HBW := Lib.hid hbw2
      cases hc : okb (s[pos]'hlt) with
      | true =>
        have hc' : 33 ≤ (s[pos]'hlt).toNat ∧ (s[pos]'hlt).toNat ≤ 126 := by simpa [okb] using hc
        rw [decode_ascii s pos hlt (by omega)] at hR hK
        simp only at hR hK
        have hr1 : 33 ≤ R := by omega
        have hr2 : R ≤ 126 := by omega
        have HK1 : Hid (K = 1) := Lib.hid hK.symm
        have HC := Lib.hid hc
        clear hR hK hc hc' hit2 hbw2 hWd
        go_wp2_with fail
        refine (pred_is R false W (by simp; omega)).mono ?_
        rintro e w' ⟨rfl, rfl⟩
        go_wp2_with fail
        go_roundg g
        case measure => omega
        case rel =>
          have hk1 := HK1.out
          subst hk1
          refine ⟨pos + 1, HIT.out, HBW.out, by omega, by have := HFU.out; omega, fun i h h0 => ?_⟩
          by_cases e : i = pos
          · subst e; exact HC.out
          · exact HALL.out i h (by omega)
      | false =>
        have hbad : R < 33 ∨ 126 < R := by
          by_cases hb : (s[pos]'hlt).toNat < 128
          · rw [decode_ascii s pos hlt hb] at hR
            simp only at hR
            simp [okb] at hc
            omega
          · have := decode_high s pos hlt (by omega)
            omega
        have hno : okName s = false := by
          cases h : okName s
          · rfl
          · rw [(okName_iff s).1 h pos hlt] at hc; cases hc
        have HNO := Lib.hid hno
        clear hR hK hc hit2 hbw2 hWd hno
        have hbb : (decide ((R : Int) < 33) || decide (126 < (R : Int))) = true := by simp; omega
        clear hbad
        go_wp2_with fail
        refine (pred_is R true W hbb).mono ?_
        rintro e w' ⟨rfl, rfl⟩
        clear hbb
        go_wp2_with fail
        go_ret
        exact ⟨_, rfl, by rw [HNO.out]; simp, by omega, by omega, HBW.out⟩
    · have hnx : ∀ ty, (Instr.next (.pointer (some ⟨w.heap.size, 0, none⟩)) true ty).run Try.prog wr = _ := fun ty => Lib.run_next_end_at wr w.heap.size s pos ty hit hlt
      have hyes : okName s = true := (okName_iff s).2 fun i h => HALL.out i h (by omega)
      have HY := Lib.hid hyes
      clear hyes
      go_wp2_with fail
      go_ret
      exact ⟨_, rfl, by rw [HY.out]; simp, by omega, by omega, hbw⟩
end Go.Proofs.Ytchkipafjnehfaa
