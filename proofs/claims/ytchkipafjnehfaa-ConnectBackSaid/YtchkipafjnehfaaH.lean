/- connect: Valid. -/
import Derived.Test.YtchkipafjnehfaaG
import Derived.Deep.RegionHeld3
import Derived.Deep.CutRange
import Derived.Deep.RegionWith
namespace Go.Proofs.Ytchkipafjnehfaa
set_option linter.unusedVariables false
set_option linter.unusedSimpArgs false
open Go.RowKit

theorem lay_at (w : World) (mb : Nat) (h : w.heap[mb]? = some (.map layEs 6)) (k : Int) (i : Nat) (v : Value) (ok : Bool) (hf : Instr.findNow (.int .u8) (.int .u8 k) layEs.toList 0 = some (some (i, v))) :
    (Instr.lookup 91 (.map (some mb)) (.int .u8 k) ok).run Try.prog w = .ok (if ok then .tuple #[v, .bool true] else v) w :=
  run_lookup_hit Try.underlying91 Try.underlying39 h k i v ok hf

theorem bcell {W w1 : World} (hb : Below W.heap.size W w1) : (∀ b o, b < W.heap.size → w1.cell? ⟨b, o, none⟩ = W.cell? ⟨b, o, none⟩) ∧ (∀ b o, b < W.heap.size → w1.frozen? ⟨b, o, none⟩ = W.frozen? ⟨b, o, none⟩) :=
  ⟨fun b o h => hb.cell (p := ⟨b, o, none⟩) h, fun b o h => hb.frozen (p := ⟨b, o, none⟩) h⟩

theorem lay_both (w : World) (mb : Nat) (h : w.heap[mb]? = some (.map layEs 6)) (k : Int) (i : Nat) (v : Value) (ok : Bool) (hf : Instr.findNow (.int .u8) (.int .u8 k) layEs.toList 0 = some (some (i, v))) :
    (Instr.lookup 91 (.map (some mb)) (.int .u8 k) ok).run Try.prog w = .ok (if ok then .tuple #[v, .bool true] else v) w ∧
    ∀ o, (Instr.lookup 91 (.map (some mb)) (.int .u8 k) ok).run Try.prog (w.alloc o) = .ok (if ok then .tuple #[v, .bool true] else v) (w.alloc o) :=
  ⟨lay_at w mb h k i v ok hf, fun o => lay_at (w.alloc o) mb ((Below.heap_alloc w o mb (Array.getElem?_eq_some_iff.1 h).1).trans h) k i v ok hf⟩

set_option maxRecDepth 100000 in
set_option maxHeartbeats 2000000 in
theorem valid_hit (f : Fab) (w : World) (i fa fb : Nat) (c : Bool) (hfind : Instr.findNow (.int .u8) (.int .u8 f.kind) layEs.toList 0 = some (some (i, lay fa fb)))
    (efb : ∀ args w, (callFunc fb args).run Try.prog w = .ok (.enter fb args) w) (hv : ∀ w, Calls Try.prog fb #[f.v] w fun e w' => e = .returned (.bool c) ∧ Below w.heap.size w w') :
    Calls Try.prog 21 #[f.v] w fun e w' => e = .returned (.bool (feq f.unused ⟨0, 0, 0, 0, 0, false, 0, 0, 0⟩ && c)) ∧ Below w.heap.size w w' := by
  obtain ⟨kind, id, queue, size, keep, wide, offset, value, length⟩ := f
  simp only at hfind
  have HF := Lib.hid hfind
  have HV := Lib.hid hv
  clear hfind hv
  have HU := Lib.hid (unused_any ⟨kind, id, queue, size, keep, wide, offset, value, length⟩)
  have he := fun w => eql_fab (Fab.unused ⟨kind, id, queue, size, keep, wide, offset, value, length⟩) ⟨0, 0, 0, 0, 0, false, 0, 0, 0⟩ w
  generalize Fab.unused ⟨kind, id, queue, size, keep, wide, offset, value, length⟩ = u at *
  generalize feq u ⟨0, 0, 0, 0, 0, false, 0, 0, 0⟩ = q at *
  unfold Fab.v at he
  have HE := Lib.hid he
  clear he
  unfold Fab.v at *
  simp only [] at *
  go_enter Try.func21, Try.ntmps21
  go_upto_region 1 with (fail)
  obtain ⟨W, hW⟩ : ∃ W, W = w.alloc (.cells #[.int .u8 kind, .int .u16 id, .int .u16 queue, .int .u16 size, .int .u32 keep, .bool wide, .int .u32 offset, .int .u64 value, .int .u32 length] 42) := ⟨_, rfl⟩
  rw [← hW]
  have hsz : W.heap.size = w.heap.size + 1 := by rw [hW]; simp
  have hlt : w.heap.size < W.heap.size := by omega
  have hWb : Below w.heap.size w W := by rw [hW]; exact (Below.refl _ w).alloc (Nat.le_refl _) _
  have c0 : W.cell? ⟨w.heap.size, 0, none⟩ = some (.int .u8 kind) := by rw [hW]; go_simp
  have c1 : W.cell? ⟨w.heap.size, 1, none⟩ = some (.int .u16 id) := by rw [hW]; go_simp
  have c2 : W.cell? ⟨w.heap.size, 2, none⟩ = some (.int .u16 queue) := by rw [hW]; go_simp
  have c3 : W.cell? ⟨w.heap.size, 3, none⟩ = some (.int .u16 size) := by rw [hW]; go_simp
  have c4 : W.cell? ⟨w.heap.size, 4, none⟩ = some (.int .u32 keep) := by rw [hW]; go_simp
  have c5 : W.cell? ⟨w.heap.size, 5, none⟩ = some (.bool wide) := by rw [hW]; go_simp
  have c6 : W.cell? ⟨w.heap.size, 6, none⟩ = some (.int .u32 offset) := by rw [hW]; go_simp
  have c7 : W.cell? ⟨w.heap.size, 7, none⟩ = some (.int .u64 value) := by rw [hW]; go_simp
  have c8 : W.cell? ⟨w.heap.size, 8, none⟩ = some (.int .u32 length) := by rw [hW]; go_simp
  have HW := Lib.hid hW
  have HSZ := Lib.hid hsz
  clear hW hsz
  go_cut [3, 4] from 5 to 12 (fun p b wc => ∃ lb, p = .pointer (some ⟨lb, 0, none⟩) ∧ b = .bool true ∧ wc.cell? ⟨lb, 1, none⟩ = some (.func (.func fb) #[] #[]) ∧ W.heap.size ≤ lb ∧ Below W.heap.size W wc)
  case first =>
    go_region_with (go_at_call 39; refine (layouts_any _).mono ?_; rintro e w1 ⟨mb, rfl, hm, hmb, hb⟩; obtain ⟨hc, hf⟩ := bcell hb; obtain ⟨l1, l2⟩ := lay_both w1 mb hm kind i _ true HF.out; unfold lay at l1 l2; have hz := hb.size; simp at hz; have hz1 : W.heap.size ≤ w1.heap.size := (by omega); have hz2 : w.heap.size < w1.heap.size := (by omega); have hB : Below W.heap.size W w1 := (by first | exact ((Below.refl _ W).drew).trans (hb.mono (by simp)) | exact (((Below.refl _ W).alloc (Nat.le_refl _) _).drew).trans (hb.mono (by simp))); obtain ⟨hc2, hf2⟩ := bcell hB; clear hm hmb hb)
    all_goals
      go_wp2_with fail
      go_meet
      refine ⟨_, rfl, rfl, ?_, ?_, ?_⟩
      · go_simp
      · omega
      · first | exact hB.alloc hB.size _ | exact (hB.setCell (p := ⟨W.heap.size, 0, none⟩) (by simp) _).setCell (p := ⟨W.heap.size, 1, none⟩) (by simp) _
  case rest =>
    obtain ⟨lb, rfl, rfl, hcl, hlb, hb⟩ := hcut
    obtain ⟨hc, hf⟩ := bcell hb
    have hwc := hb.size
    have hlt2 : w.heap.size < wc.heap.size := by omega
    have he := HE.out
    go_wp2_with fail
    refine (HU.out wc).mono ?_
    rintro e w2 ⟨rfl, hb2⟩
    obtain ⟨hc2, hf2⟩ := bcell hb2
    have hw2 := hb2.size
    have hlw : lb < wc.heap.size := World.block_lt_of_cell? _ _ hcl
    cases q
    · go_wp2_with fail
      go_ret
      exact ⟨rfl, (hWb.trans (hb.mono hWb.size)).trans (hb2.mono (by omega))⟩
    · go_wp2_with fail
      refine (HV.out w2).mono ?_
      rintro e w3 ⟨rfl, hb3⟩
      go_wp2_with fail
      go_ret
      exact ⟨by simp, ((hWb.trans (hb.mono hWb.size)).trans (hb2.mono (by omega))).trans (hb3.mono (by omega))⟩
end Go.Proofs.Ytchkipafjnehfaa
