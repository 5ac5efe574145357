/- connect: Encode of any command; IsFabric. -/
import Derived.Test.YtchkipafjnehfaaREn
import Derived.Test.YtchkipafjnehfaaEq
namespace Go.Proofs.Ytchkipafjnehfaa
set_option linter.unusedVariables false
set_option linter.unusedSimpArgs false
open Go.RowKit

theorem vld_alg {f : Fab} (h : vld f = true) (hk : f.kind = 0 ∨ f.kind = 4) : alg f = true := by
  rw [← rvld_eq] at h
  unfold rvld at h
  rcases hk with hk | hk <;> rw [hk] at h <;> simp at h
  · exact h.2.2.1
  · exact h.2.2.2

theorem encF_one (f : Fab) : ∀ j, (encF f j).oneCell' = true := by
  intro j
  unfold encF
  (repeat' split) <;> first | exact putF_one (putF_one (putF_one (hd_one _ _))) j | exact putF_one (putF_one (hd_one _ _)) j | exact putF_one (hd_one _ _) j | exact hd_one _ _ j
theorem encF_bytes (f : Fab) : Bytes8 (encF f) := by
  unfold encF
  (repeat' split) <;> first | exact (((Bytes8.ofHd _ _).put _ _ _).put _ _ _).put _ _ _ | exact ((Bytes8.ofHd _ _).put _ _ _).put _ _ _ | exact (Bytes8.ofHd _ _).put _ _ _ | exact Bytes8.ofHd _ _

theorem encode_any (f : Fab) (w : World) (hok : f.Ok) (hv : vld f = true) :
    Calls Try.prog 19 #[f.v] w fun e w' => e = .returned (.tuple #[.agg (arr 64 (encF f)), .int .i64 0]) ∧ Below w.heap.size w w' := by
  have hva : ∀ w, Calls Try.prog 21 #[f.v] w fun e w' => e = .returned (.bool true) ∧ Below w.heap.size w w' := fun w => by
    have := valid_any f w hok
    rwa [hv] at this
  have ha := vld_alg hv
  have hone := encF_one f
  unfold encF at hone ⊢
  rcases vld_kind hv with h | h | h | h | h | h
  · rw [if_pos h] at hone ⊢
    exact encode_ok f w 0 55 57 (fun F => putF (putF (putF F 40 1 (wv f)) 44 4 f.offset) 48 8 f.value) hok hone (by rw [h]; rfl) (fun args w => by simp [go_sem]) hva
      (fun cb ab ty fb F w hw => set_w cb ab ty fb F f w hw hok (ha (.inl h)))
  · rw [if_neg (by omega), if_pos h] at hone ⊢
    exact encode_ok f w 1 59 60 (fun F => putF (putF (putF F 42 2 f.queue) 44 2 f.size) 48 4 f.keep) hok hone (by rw [h]; rfl) (fun args w => by simp [go_sem]) hva
      (fun cb ab ty fb F w hw => conn_w cb ab ty fb F f w hw hok)
  · rw [if_neg (by omega), if_neg (by omega), if_pos h] at hone ⊢
    exact encode_ok f w 2 56 58 (fun F => putF (putF F 40 1 (wv f)) 44 4 f.offset) hok hone (by rw [h]; rfl) (fun args w => by simp [go_sem]) hva
      (fun cb ab ty fb F w hw => prop_w cb ab ty fb F f w hw hok (ha (.inr h)))
  · rw [if_neg (by omega), if_neg (by omega), if_neg (by omega), if_pos h] at hone ⊢
    exact encode_ok f w 3 53 54 (fun F => putF F 44 4 f.length) hok hone (by rw [h]; rfl) (fun args w => by simp [go_sem]) hva
      (fun cb ab ty fb F w hw => auth_w cb ab ty fb F f w hw hok)
  · rw [if_neg (by omega), if_neg (by omega), if_neg (by omega), if_neg (by omega), if_pos h] at hone ⊢
    exact encode_ok f w 4 53 54 (fun F => putF F 44 4 f.length) hok hone (by rw [h]; rfl) (fun args w => by simp [go_sem]) hva
      (fun cb ab ty fb F w hw => auth_w cb ab ty fb F f w hw hok)
  · rw [if_neg (by omega), if_neg (by omega), if_neg (by omega), if_neg (by omega), if_neg (by omega)] at hone ⊢
    exact encode_ok f w 5 61 62 (fun F => F) hok hone (by rw [h]; rfl) (fun args w => by simp [go_sem]) hva
      (fun cb ab ty fb F w hw => disc_w cb ab ty fb F f w hw)

theorem encF_0 (f : Fab) : encF f 0 = .int .u8 127 := by
  have e : hd f 5 0 = .int .u8 127 := rfl
  unfold encF
  (repeat' split) <;> (repeat rw [putF_off (by omega)]) <;> exact e

set_option maxHeartbeats 1000000 in
theorem isfabric_any (F : Nat → Value) (n : Int) (h0 : F 0 = .int .u8 n) (w : World) (hone : (arr 64 F).all (·.oneCell') = true) :
    Calls Try.prog 23 #[.agg (arr 64 F)] w fun e w' => e = .returned (.bool (n == 127)) ∧ Below w.heap.size w w' := by
  have hr := rowIs_arr w 43 64 F
  have c0 := hr.cell (i := 0) (by omega)
  rw [h0] at c0
  have HB := Lib.hid ((Below.refl w.heap.size w).alloc (Nat.le_refl _) (.cells (arr 64 F) 43))
  clear hr
  go_enter Try.func23, Try.ntmps23
  go_wp2_with fail
  go_ret
  exact ⟨rfl, HB.out⟩
end Go.Proofs.Ytchkipafjnehfaa
