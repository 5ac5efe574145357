/- connect: Valid, whatever the kind. -/
import Derived.Test.YtchkipafjnehfaaH
namespace Go.Proofs.Ytchkipafjnehfaa
set_option linter.unusedVariables false
set_option linter.unusedSimpArgs false
open Go.RowKit

theorem zeroLay (w : World) : (zeroValue 90).run Try.prog w = .ok (.agg #[.nilFunc, .nilFunc]) w := by kernel_rfl
theorem find_miss (k : Int) (h0 : k ≠ 0) (h1 : k ≠ 1) (h4 : k ≠ 4) (h5 : k ≠ 5) (h6 : k ≠ 6) (h8 : k ≠ 8) : Instr.findNow (.int .u8) (.int .u8 k) layEs.toList 0 = some none := by
  simp [layEs, Instr.findNow, Instr.sameNow, beq_eq_false_iff_ne.2 h0, beq_eq_false_iff_ne.2 h1, beq_eq_false_iff_ne.2 h4, beq_eq_false_iff_ne.2 h5, beq_eq_false_iff_ne.2 h6, beq_eq_false_iff_ne.2 h8]
theorem miss_both (w : World) (mb : Nat) (h : w.heap[mb]? = some (.map layEs 6)) (k : Int) (hf : Instr.findNow (.int .u8) (.int .u8 k) layEs.toList 0 = some none) :
    (Instr.lookup 91 (.map (some mb)) (.int .u8 k) true).run Try.prog w = .ok (.tuple #[.agg #[.nilFunc, .nilFunc], .bool false]) w ∧
    ∀ o, (Instr.lookup 91 (.map (some mb)) (.int .u8 k) true).run Try.prog (w.alloc o) = .ok (.tuple #[.agg #[.nilFunc, .nilFunc], .bool false]) (w.alloc o) :=
  ⟨run_lookup_miss Try.underlying91 Try.underlying39 h k _ (zeroLay w) true hf,
   fun o => run_lookup_miss Try.underlying91 Try.underlying39 ((Below.heap_alloc w o mb (Array.getElem?_eq_some_iff.1 h).1).trans h) k _ (zeroLay _) true hf⟩

set_option maxRecDepth 100000 in
set_option maxHeartbeats 2000000 in
theorem valid_miss (f : Fab) (w : World) (hfind : Instr.findNow (.int .u8) (.int .u8 f.kind) layEs.toList 0 = some none) :
    Calls Try.prog 21 #[f.v] w fun e w' => e = .returned (.bool false) ∧ Below w.heap.size w w' := by
  obtain ⟨kind, id, queue, size, keep, wide, offset, value, length⟩ := f
  simp only at hfind
  have HF := Lib.hid hfind
  clear hfind
  unfold Fab.v at *
  simp only [] at *
  go_enter Try.func21, Try.ntmps21
  go_upto_region 1 with (fail)
  obtain ⟨W, hW⟩ : ∃ W, W = w.alloc (.cells #[.int .u8 kind, .int .u16 id, .int .u16 queue, .int .u16 size, .int .u32 keep, .bool wide, .int .u32 offset, .int .u64 value, .int .u32 length] 42) := ⟨_, rfl⟩
  rw [← hW]
  have hsz : W.heap.size = w.heap.size + 1 := by rw [hW]; simp
  have hlt : w.heap.size < W.heap.size := by omega
  have hWb : Below w.heap.size w W := by rw [hW]; exact (Below.refl _ w).alloc (Nat.le_refl _) _
  have c0 : W.cell? ⟨w.heap.size, 0, none⟩ = some (.int .u8 kind) := by rw [hW]; go_simp
  have c1 : W.cell? ⟨w.heap.size, 1, none⟩ = some (.int .u16 id) := by rw [hW]; go_simp
  have c2 : W.cell? ⟨w.heap.size, 2, none⟩ = some (.int .u16 queue) := by rw [hW]; go_simp
  have c3 : W.cell? ⟨w.heap.size, 3, none⟩ = some (.int .u16 size) := by rw [hW]; go_simp
  have c4 : W.cell? ⟨w.heap.size, 4, none⟩ = some (.int .u32 keep) := by rw [hW]; go_simp
  have c5 : W.cell? ⟨w.heap.size, 5, none⟩ = some (.bool wide) := by rw [hW]; go_simp
  have c6 : W.cell? ⟨w.heap.size, 6, none⟩ = some (.int .u32 offset) := by rw [hW]; go_simp
  have c7 : W.cell? ⟨w.heap.size, 7, none⟩ = some (.int .u64 value) := by rw [hW]; go_simp
  have c8 : W.cell? ⟨w.heap.size, 8, none⟩ = some (.int .u32 length) := by rw [hW]; go_simp
  have HW := Lib.hid hW
  have HSZ := Lib.hid hsz
  clear hW hsz
  go_cut [3, 4] from 5 to 12 (fun p b wc => ∃ lb, p = .pointer (some ⟨lb, 0, none⟩) ∧ b = .bool false ∧ Below W.heap.size W wc)
  case first =>
    go_region_with (go_at_call 39; refine (layouts_any _).mono ?_; rintro e w1 ⟨mb, rfl, hm, hmb, hb⟩; obtain ⟨hc, hf⟩ := bcell hb; obtain ⟨l1, l2⟩ := miss_both w1 mb hm kind HF.out; have hz := hb.size; simp at hz; have hz1 : W.heap.size ≤ w1.heap.size := (by omega); have hz2 : w.heap.size < w1.heap.size := (by omega); have hB : Below W.heap.size W w1 := (by first | exact ((Below.refl _ W).drew).trans (hb.mono (by simp)) | exact (((Below.refl _ W).alloc (Nat.le_refl _) _).drew).trans (hb.mono (by simp))); obtain ⟨hc2, hf2⟩ := bcell hB; clear hm hmb hb)
    all_goals
      go_wp2_with fail
      go_meet
      refine ⟨_, rfl, rfl, ?_⟩
      first | exact hB.alloc hB.size _ | exact (hB.setCell (p := ⟨W.heap.size, 0, none⟩) (by simp) _).setCell (p := ⟨W.heap.size, 1, none⟩) (by simp) _
  case rest =>
    obtain ⟨lb, rfl, rfl, hb⟩ := hcut
    go_wp2_with fail
    go_ret
    exact ⟨rfl, hWb.trans (hb.mono hWb.size)⟩

/-- Is the command valid? -/
def vld (f : Fab) : Bool :=
  if f.kind = 0 then feq f.unused ⟨0, 0, 0, 0, 0, false, 0, 0, 0⟩ && vSet f
  else if f.kind = 1 then feq f.unused ⟨0, 0, 0, 0, 0, false, 0, 0, 0⟩ && vConn f
  else if f.kind = 4 then feq f.unused ⟨0, 0, 0, 0, 0, false, 0, 0, 0⟩ && alg f
  else if f.kind = 5 then feq f.unused ⟨0, 0, 0, 0, 0, false, 0, 0, 0⟩ && vAuth f
  else if f.kind = 6 then feq f.unused ⟨0, 0, 0, 0, 0, false, 0, 0, 0⟩ && vAuth f
  else if f.kind = 8 then feq f.unused ⟨0, 0, 0, 0, 0, false, 0, 0, 0⟩ && true
  else false

theorem valid_any (f : Fab) (w : World) (hok : f.Ok) : Calls Try.prog 21 #[f.v] w fun e w' => e = .returned (.bool (vld f)) ∧ Below w.heap.size w w' := by
  unfold vld
  by_cases h0 : f.kind = 0
  · rw [if_pos h0]
    exact valid_hit f w 0 55 57 _ (by rw [h0]; rfl) (fun args w => by simp [go_sem]) (fun w => set_any f w hok.offset)
  rw [if_neg h0]
  by_cases h1 : f.kind = 1
  · rw [if_pos h1]
    exact valid_hit f w 1 59 60 _ (by rw [h1]; rfl) (fun args w => by simp [go_sem]) (fun w => conn_any f w)
  rw [if_neg h1]
  by_cases h4 : f.kind = 4
  · rw [if_pos h4]
    exact valid_hit f w 2 56 58 _ (by rw [h4]; rfl) (fun args w => by simp [go_sem]) (fun w => aligned_any f w hok.offset)
  rw [if_neg h4]
  by_cases h5 : f.kind = 5
  · rw [if_pos h5]
    exact valid_hit f w 3 53 54 _ (by rw [h5]; rfl) (fun args w => by simp [go_sem]) (fun w => auth_any f w)
  rw [if_neg h5]
  by_cases h6 : f.kind = 6
  · rw [if_pos h6]
    exact valid_hit f w 4 53 54 _ (by rw [h6]; rfl) (fun args w => by simp [go_sem]) (fun w => auth_any f w)
  rw [if_neg h6]
  by_cases h8 : f.kind = 8
  · rw [if_pos h8]
    exact valid_hit f w 5 61 62 _ (by rw [h8]; rfl) (fun args w => by simp [go_sem]) (fun w => always_any f w)
  rw [if_neg h8]
  exact valid_miss f w (find_miss f.kind h0 h1 h4 h5 h6 h8)
end Go.Proofs.Ytchkipafjnehfaa
