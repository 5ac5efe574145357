/- prp: must: Contains of any number of conditions; a panic. -/
import Derived.Test.YtfploifafpifnaaBA
namespace Go.Proofs.Ytfploifafpifnaa
set_option linter.unusedVariables false
set_option linter.unusedSimpArgs false
open Go.RowKit

/-- n conditions lie in a row -/
def Conds (w : World) (b n : Nat) (F : Nat → Bool) : Prop := ∀ i, i < n → w.cell? ⟨b, i, none⟩ = some (.bool (F i))
/-- where the first false condition is found -/
def IdxPost (n : Nat) (F : Nat → Bool) (w : World) (e : Ending) (w' : World) : Prop := ∃ r : Int, e = .returned (.int .i64 r) ∧ (((∀ i, i < n → F i = true) ∧ r = -1) ∨ ((∃ i, i < n ∧ F i = false) ∧ 0 ≤ r)) ∧ w = w'

set_option maxRecDepth 100000 in
set_option maxHeartbeats 1000000 in
theorem index_conds (b n c : Nat) (F : Nat → Bool) (w : World) (h : Conds w b n F) (hn : n ≤ 1000) :
   Calls Try.prog 58 #[.slice (some ⟨b, 0, none⟩) n c, .bool false] w (IdxPost n F w) := by
  have H := Lib.hid h
  clear h
  go_enter Try.func58, Try.ntmps58
  go_wp2_with fail
  go_loop [8] (fun i => ∃ k : Nat, k ≤ n ∧ i = .int .i64 (k : Nat) ∧ ∀ j, j < k → F j = true) (fun i => n - (intOf i).toNat)
  case atStart => exact ⟨0, Nat.zero_le _, rfl, fun j h => by omega⟩
  case round =>
    obtain ⟨k, hk, rfl, hF⟩ := hrel
    have HF := Lib.hid hF
    clear hF
    by_cases hkn : k < n
    · have q : decide ((k : Int) < (n : Int)) = true := decide_eq_true (by omega)
      have c0 : w.cell? ⟨b, k, none⟩ = some (.bool (F k)) := H.out k hkn
      cases hf : F k with
      | true =>
        rw [hf] at c0
        have HFK := Lib.hid hf
        clear hf
        go_wp2_with fail
        go_round
        case rel =>
          refine ⟨k + 1, by omega, by go_num, fun j hj => ?_⟩
          rcases Nat.lt_or_ge j k with h | h
          · exact HF.out j h
          · obtain rfl : j = k := by omega
            exact HFK.out
        case measure => simp [intOf]; omega
      | false =>
        rw [hf] at c0
        have HFK := Lib.hid hf
        clear hf
        go_wp2_with fail
        go_ret
        exact ⟨k, rfl, .inr ⟨⟨k, hkn, HFK.out⟩, by omega⟩, rfl⟩
    · have q : decide ((k : Int) < (n : Int)) = false := decide_eq_false (by omega)
      go_wp2_with fail
      go_ret
      exact ⟨-1, rfl, .inl ⟨fun i hi => HF.out i (by omega), rfl⟩, rfl⟩
set_option maxRecDepth 100000 in
set_option maxHeartbeats 1000000 in
theorem contains_conds (b n c : Nat) (F : Nat → Bool) (r : Bool) (hr : (r = false ∧ ∀ i, i < n → F i = true) ∨ (r = true ∧ ∃ i, i < n ∧ F i = false)) (w : World) (h : Conds w b n F) (hn : n ≤ 1000) :
   Calls Try.prog 52 #[.slice (some ⟨b, 0, none⟩) n c, .bool false] w fun e w' => e = .returned (.bool r) ∧ w = w' := by
  have H := Lib.hid h
  have HR := Lib.hid hr
  clear h hr
  go_enter Try.func52, Try.ntmps52
  go_upto_region 1 with fail
  have hd : ∀ z : Int, ((∀ i, i < n → F i = true) ∧ z = -1) ∨ ((∃ i, i < n ∧ F i = false) ∧ 0 ≤ z) → decide (0 ≤ z) = r := fun z hz => by
    rcases HR.out with ⟨rfl, ha⟩ | ⟨rfl, i, hi, hf⟩
    · rcases hz with ⟨-, rfl⟩ | ⟨⟨i, hi, hf⟩, -⟩
      · rfl
      · rw [ha i hi] at hf; cases hf
    · rcases hz with ⟨ha, -⟩ | ⟨-, h0⟩
      · rw [ha i hi] at hf; cases hf
      · exact decide_eq_true h0
  have HD := Lib.hid hd
  clear hd
  go_wp2_with (go_at_call 58; refine (index_conds b n c F _ H.out hn).mono ?_; rintro e w' ⟨z, rfl, hz, rfl⟩; have q := HD.out z hz; clear hz)
  go_ret
  exact ⟨rfl, rfl⟩
section
variable (no : Int) (b n c : Nat) (F : Nat → Bool) (w : World) (h : Conds w b n F) (hn : n ≤ 1000) (hc : n ≤ c)
include h hn hc
set_option maxRecDepth 100000 in
set_option maxHeartbeats 1000000 in
theorem must_row_ok (hr : ∀ i, i < n → F i = true) :
   Calls Try.prog 27 #[.int .i64 no, .slice (some ⟨b, 0, none⟩) n c] w fun e w' => e = .returned (.tuple #[]) ∧ w = w' := by
  have H := Lib.hid h
  have HR := Lib.hid hr
  clear h hr
  go_enter Try.func27, Try.ntmps27
  go_wp2_with (go_at_call 52; refine (contains_conds b n _ F false (.inl ⟨rfl, HR.out⟩) _ H.out hn).mono ?_; rintro e w' ⟨rfl, rfl⟩)
  go_end0
  exact ⟨rfl, rfl⟩
set_option maxRecDepth 100000 in
set_option maxHeartbeats 1000000 in
theorem must_row_bad (hr : ∃ i, i < n ∧ F i = false) :
   Calls Try.prog 27 #[.int .i64 no, .slice (some ⟨b, 0, none⟩) n c] w fun e w' => e = .panicked [pan no] ∧ w = w' := by
  have H := Lib.hid h
  have HR := Lib.hid hr
  clear h hr
  go_enter Try.func27, Try.ntmps27
  go_wp2_with (go_at_call 52; refine (contains_conds b n _ F true (.inr ⟨rfl, HR.out⟩) _ H.out hn).mono ?_; rintro e w' ⟨rfl, rfl⟩)
  exact ⟨rfl, rfl, rfl⟩
end
theorem conds_alloc (w : World) (l : List Bool) : Conds (w.alloc (.cells (l.map Value.bool).toArray 4)) w.heap.size l.length fun i => l.getD i false := fun i hi => by
  rw [World.cell?_alloc_new]
  simp [hi]
theorem must1_ok (no : Int) (w : World) : Calls Try.prog 27 #[.int .i64 no, .slice (some ⟨w.heap.size, 0, none⟩) 1 1] (w.alloc (.cells #[.bool true] 4)) fun e w' => e = .returned (.tuple #[]) ∧ w.alloc (.cells #[.bool true] 4) = w' :=
  must_row_ok no w.heap.size 1 1 _ _ (conds_alloc w [true]) (by omega) (by omega) (fun i hi => by
    match i, hi with
    | 0, _ => rfl)
theorem must1_bad (no : Int) (w : World) : Calls Try.prog 27 #[.int .i64 no, .slice (some ⟨w.heap.size, 0, none⟩) 1 1] (w.alloc (.cells #[.bool false] 4)) fun e w' => e = .panicked [pan no] ∧ w.alloc (.cells #[.bool false] 4) = w' :=
  must_row_bad no w.heap.size 1 1 _ _ (conds_alloc w [false]) (by omega) (by omega) ⟨0, by omega, rfl⟩
theorem must2_ok (no : Int) (w : World) : Calls Try.prog 27 #[.int .i64 no, .slice (some ⟨w.heap.size, 0, none⟩) 2 2] (w.alloc (.cells #[.bool true, .bool true] 4)) fun e w' => e = .returned (.tuple #[]) ∧ w.alloc (.cells #[.bool true, .bool true] 4) = w' :=
  must_row_ok no w.heap.size 2 2 _ _ (conds_alloc w [true, true]) (by omega) (by omega) (fun i hi => by
    match i, hi with
    | 0, _ => rfl
    | 1, _ => rfl)
theorem must2_bad (no : Int) (x y : Bool) (h : x = false ∨ y = false) (w : World) : Calls Try.prog 27 #[.int .i64 no, .slice (some ⟨w.heap.size, 0, none⟩) 2 2] (w.alloc (.cells #[.bool x, .bool y] 4)) fun e w' => e = .panicked [pan no] ∧ w.alloc (.cells #[.bool x, .bool y] 4) = w' :=
  must_row_bad no w.heap.size 2 2 _ _ (conds_alloc w [x, y]) (by omega) (by omega) (h.elim (fun e => ⟨0, by simp, e⟩) (fun e => ⟨1, by simp, e⟩))
theorem must5_ok (no : Int) (w : World) : Calls Try.prog 27 #[.int .i64 no, .slice (some ⟨w.heap.size, 0, none⟩) 5 5] (w.alloc (.cells #[.bool true, .bool true, .bool true, .bool true, .bool true] 4)) fun e w' => e = .returned (.tuple #[]) ∧ w.alloc (.cells #[.bool true, .bool true, .bool true, .bool true, .bool true] 4) = w' :=
  must_row_ok no w.heap.size 5 5 _ _ (conds_alloc w [true, true, true, true, true]) (by omega) (by omega) (fun i hi => by
    match i, hi with
    | 0, _ => rfl
    | 1, _ => rfl
    | 2, _ => rfl
    | 3, _ => rfl
    | 4, _ => rfl)
theorem must5_bad (no : Int) (a b c d f : Bool) (h : a = false ∨ b = false ∨ c = false ∨ d = false ∨ f = false) (w : World) : Calls Try.prog 27 #[.int .i64 no, .slice (some ⟨w.heap.size, 0, none⟩) 5 5] (w.alloc (.cells #[.bool a, .bool b, .bool c, .bool d, .bool f] 4)) fun e w' => e = .panicked [pan no] ∧ w.alloc (.cells #[.bool a, .bool b, .bool c, .bool d, .bool f] 4) = w' :=
  must_row_bad no w.heap.size 5 5 _ _ (conds_alloc w [a, b, c, d, f]) (by omega) (by omega) (by
    rcases h with e | e | e | e | e
    · exact ⟨0, by simp, e⟩
    · exact ⟨1, by simp, e⟩
    · exact ⟨2, by simp, e⟩
    · exact ⟨3, by simp, e⟩
    · exact ⟨4, by simp, e⟩)
end Go.Proofs.Ytfploifafpifnaa
