/- connect: the law ConnectDecodes returns true and writes to nothing that was there. -/
import Derived.Test.YtchkipafjnehfaaDR
import Derived.Test.YtchkipafjnehfaaKnown
namespace Go.Proofs.Ytchkipafjnehfaa
set_option linter.unusedVariables false
set_option linter.unusedSimpArgs false
open Go.RowKit

set_option maxRecDepth 100000 in
set_option maxHeartbeats 4000000 in
theorem dec_yes (f : Fab) (B : Nat → Int) (w : World)
    (hD : ∀ w, Calls Try.prog 30 #[.agg (arr 64 (bB B))] w fun e w' => e = .returned (.tuple #[f.v, .int .i64 0]) ∧ Below w.heap.size w w')
    (hR : ∀ w, Calls Try.prog 31 #[.agg (arr 64 (bB B))] w fun e w' => e = .returned (.tuple #[f.v, .bool true]) ∧ Below w.heap.size w w') :
    Calls Try.prog 9 #[.agg (arr 64 (bB B))] w fun e w' => e = .returned (.bool true) ∧ Below w.heap.size w w' := by
  have HD := Lib.hid hD
  have HR := Lib.hid hR
  clear hD hR
  have HIS := Lib.hid fun w => isfabric_any (bB B) (B 0) rfl w (arr_one (n := 64) (fun _ _ => rfl))
  have hu := Try.underlying43
  have hi : (Try.prog.info? 43).map (·.size) = some (arr 64 (bB B)).toList.length := by rw [arr64]; simp [arr]
  have he := fun w => eql_fab f f w
  rw [show feq f f = true by unfold feq; simp] at he
  obtain ⟨kind, id, queue, size, keep, wide, offset, value, length⟩ := f
  unfold Fab.v at *
  simp only [] at *
  go_enter Try.func9, Try.ntmps9
  have R0 := Lib.hid (rowIs_arr w 43 64 (bB B))
  have B0 := Lib.hid ((Below.refl w.heap.size w).alloc (Nat.le_refl _) (.cells (arr 64 (bB B)) 43))
  obtain ⟨W0, hW0⟩ : ∃ W0, W0 = w.alloc (.cells (arr 64 (bB B)) 43) := ⟨_, rfl⟩
  rw [← hW0] at R0 B0
  have HW0 := Lib.hid hW0
  clear hW0
  go_upto_region 1 with (fail)
  rw [← HW0.out]
  go_upto_region 3 with (first
    | ((with_reducible show wpList _ _ _ (⟨some 8, _, _, _, _, _⟩ :: _) _ _); refine wpList_load_mid rfl 43 (.tmp 1) rfl w.heap.size 0 rfl (arr 64 (bB B)).toList _ (rowIs_range0 R0.out) hu rfl hi ?_)
    | ((with_reducible show wpList _ _ _ (⟨some 13, _, _, _, _, _⟩ :: _) _ _); refine wpList_load_mid rfl 43 (.tmp 1) rfl w.heap.size 0 rfl (arr 64 (bB B)).toList _ (rowIs_range0 (World.rowIs.alloc R1.out _)) hu rfl hi ?_)
    | (go_at_call 30; refine (HD.out _).mono ?_; rintro e w1 ⟨rfl, hb⟩; have R1 := Lib.hid (R0.out.of_block (hb.block _ R0.out.lt)); have B1 := Lib.hid (B0.out.trans (hb.mono B0.out.size)); have hl1 := R1.out.lt; clear hb)
    | (go_at_call 31; refine (HR.out _).mono ?_; rintro e w2 ⟨rfl, hb⟩; have hs2 := hb.size; simp at hs2; have R2 := Lib.hid ((World.rowIs.alloc R1.out _).of_block (hb.block _ (by simp; omega))); have F2 := Lib.hid (World.rowIs.of_block (FabAt.fresh w1 ⟨kind, id, queue, size, keep, wide, offset, value, length⟩) (hb.block _ (by simp))); have B2 := Lib.hid ((B1.out.alloc B1.out.size _).trans (hb.mono (by simp; have := B1.out.size; omega))); clear hb))
  obtain ⟨W3, hW3⟩ : ∃ W3, W3 = w2.alloc (.cells #[.int .u8 kind, .int .u16 id, .int .u16 queue, .int .u16 size, .int .u32 keep, .bool wide, .int .u32 offset, .int .u64 value, .int .u32 length] 42) := ⟨_, rfl⟩
  rw [← hW3]
  have R3 := Lib.hid (show W3.rowIs w.heap.size 43 64 (bB B) by rw [hW3]; exact World.rowIs.alloc R2.out _)
  have F3 := Lib.hid (show FabAt W3 w1.heap.size ⟨kind, id, queue, size, keep, wide, offset, value, length⟩ by rw [hW3]; exact World.rowIs.alloc F2.out _)
  have G3 := Lib.hid (show FabAt W3 w2.heap.size ⟨kind, id, queue, size, keep, wide, offset, value, length⟩ by rw [hW3]; exact FabAt.fresh w2 ⟨kind, id, queue, size, keep, wide, offset, value, length⟩)
  have B3 := Lib.hid (show Below w.heap.size w W3 by rw [hW3]; exact B2.out.alloc B2.out.size _)
  clear hW3
  obtain ⟨x, hx⟩ : ∃ x, (B 0 == 127) = x := ⟨_, rfl⟩
  rw [hx] at HIS
  go_region_held3 (fun w' => w'.rangeAt w.heap.size 0 (arr 64 (bB B)).toList ∧ w'.cell? ⟨w.heap.size, 0, none⟩ = some (.int .u8 (B 0)))
    (with_reducible (first | exact held_of 0 (by omega) R4.out | exact held_of 0 (by omega) (row_drew R3.out)))
    (first | (go_at_call 23; refine (HIS.out _).mono ?_; rintro e w4 ⟨rfl, hb⟩; have R4 := Lib.hid (R3.out.of_block (hb.block _ R3.out.lt)); have FA := Lib.hid (World.rowIs.of_block F3.out (hb.block _ (World.rowIs.lt F3.out))); have FB := Lib.hid (World.rowIs.of_block G3.out (hb.block _ (World.rowIs.lt G3.out))); have B4 := Lib.hid (B3.out.trans (((Below.refl _ W3).drew).trans hb |>.mono B3.out.size)); clear hb))
  have p0 : w4.cell? ⟨w1.heap.size, 0, none⟩ = some (.int .u8 kind) := World.rowIs.cell FA.out (by omega)
  have q0 : w4.cell? ⟨w2.heap.size, 0, none⟩ = some (.int .u8 kind) := World.rowIs.cell FB.out (by omega)
  have p1 : w4.cell? ⟨w1.heap.size, 1, none⟩ = some (.int .u16 id) := World.rowIs.cell FA.out (by omega)
  have q1 : w4.cell? ⟨w2.heap.size, 1, none⟩ = some (.int .u16 id) := World.rowIs.cell FB.out (by omega)
  have p2 : w4.cell? ⟨w1.heap.size, 2, none⟩ = some (.int .u16 queue) := World.rowIs.cell FA.out (by omega)
  have q2 : w4.cell? ⟨w2.heap.size, 2, none⟩ = some (.int .u16 queue) := World.rowIs.cell FB.out (by omega)
  have p3 : w4.cell? ⟨w1.heap.size, 3, none⟩ = some (.int .u16 size) := World.rowIs.cell FA.out (by omega)
  have q3 : w4.cell? ⟨w2.heap.size, 3, none⟩ = some (.int .u16 size) := World.rowIs.cell FB.out (by omega)
  have p4 : w4.cell? ⟨w1.heap.size, 4, none⟩ = some (.int .u32 keep) := World.rowIs.cell FA.out (by omega)
  have q4 : w4.cell? ⟨w2.heap.size, 4, none⟩ = some (.int .u32 keep) := World.rowIs.cell FB.out (by omega)
  have p5 : w4.cell? ⟨w1.heap.size, 5, none⟩ = some (.bool wide) := World.rowIs.cell FA.out (by omega)
  have q5 : w4.cell? ⟨w2.heap.size, 5, none⟩ = some (.bool wide) := World.rowIs.cell FB.out (by omega)
  have p6 : w4.cell? ⟨w1.heap.size, 6, none⟩ = some (.int .u32 offset) := World.rowIs.cell FA.out (by omega)
  have q6 : w4.cell? ⟨w2.heap.size, 6, none⟩ = some (.int .u32 offset) := World.rowIs.cell FB.out (by omega)
  have p7 : w4.cell? ⟨w1.heap.size, 7, none⟩ = some (.int .u64 value) := World.rowIs.cell FA.out (by omega)
  have q7 : w4.cell? ⟨w2.heap.size, 7, none⟩ = some (.int .u64 value) := World.rowIs.cell FB.out (by omega)
  have p8 : w4.cell? ⟨w1.heap.size, 8, none⟩ = some (.int .u32 length) := World.rowIs.cell FA.out (by omega)
  have q8 : w4.cell? ⟨w2.heap.size, 8, none⟩ = some (.int .u32 length) := World.rowIs.cell FB.out (by omega)
  go_wp2_with (go_at_call 14; refine (known_any _).mono ?_; rintro e w5 ⟨rfl, hb⟩; have B5 := Lib.hid (B4.out.trans (hb.mono B4.out.size)); clear hb)
  go_ret
  exact ⟨rfl, B5.out⟩

set_option maxRecDepth 100000 in
set_option maxHeartbeats 4000000 in
theorem dec_no (B : Nat → Int) (w : World)
    (hD : ∀ w, Calls Try.prog 30 #[.agg (arr 64 (bB B))] w fun e w' => e = .returned (.tuple #[F0.v, .int .i64 6]) ∧ Below w.heap.size w w')
    (hR : ∀ w, Calls Try.prog 31 #[.agg (arr 64 (bB B))] w fun e w' => e = .returned (.tuple #[F0.v, .bool false]) ∧ Below w.heap.size w w') :
    Calls Try.prog 9 #[.agg (arr 64 (bB B))] w fun e w' => e = .returned (.bool true) ∧ Below w.heap.size w w' := by
  have HD := Lib.hid hD
  have HR := Lib.hid hR
  clear hD hR
  have HIS := Lib.hid fun w => isfabric_any (bB B) (B 0) rfl w (arr_one (n := 64) (fun _ _ => rfl))
  have hu := Try.underlying43
  have hi : (Try.prog.info? 43).map (·.size) = some (arr 64 (bB B)).toList.length := by rw [arr64]; simp [arr]
  unfold F0 Fab.v at *
  simp only [] at *
  go_enter Try.func9, Try.ntmps9
  have R0 := Lib.hid (rowIs_arr w 43 64 (bB B))
  have B0 := Lib.hid ((Below.refl w.heap.size w).alloc (Nat.le_refl _) (.cells (arr 64 (bB B)) 43))
  obtain ⟨W0, hW0⟩ : ∃ W0, W0 = w.alloc (.cells (arr 64 (bB B)) 43) := ⟨_, rfl⟩
  rw [← hW0] at R0 B0
  have HW0 := Lib.hid hW0
  clear hW0
  go_upto_region 1 with (fail)
  rw [← HW0.out]
  go_upto_region 3 with (first
    | ((with_reducible show wpList _ _ _ (⟨some 8, _, _, _, _, _⟩ :: _) _ _); refine wpList_load_mid rfl 43 (.tmp 1) rfl w.heap.size 0 rfl (arr 64 (bB B)).toList _ (rowIs_range0 R0.out) hu rfl hi ?_)
    | ((with_reducible show wpList _ _ _ (⟨some 13, _, _, _, _, _⟩ :: _) _ _); refine wpList_load_mid rfl 43 (.tmp 1) rfl w.heap.size 0 rfl (arr 64 (bB B)).toList _ (rowIs_range0 (World.rowIs.alloc R1.out _)) hu rfl hi ?_)
    | (go_at_call 30; refine (HD.out _).mono ?_; rintro e w1 ⟨rfl, hb⟩; have R1 := Lib.hid (R0.out.of_block (hb.block _ R0.out.lt)); have B1 := Lib.hid (B0.out.trans (hb.mono B0.out.size)); have hl1 := R1.out.lt; clear hb)
    | (go_at_call 31; refine (HR.out _).mono ?_; rintro e w2 ⟨rfl, hb⟩; have hs2 := hb.size; simp at hs2; have R2 := Lib.hid ((World.rowIs.alloc R1.out _).of_block (hb.block _ (by simp; omega))); have F2 := Lib.hid (World.rowIs.of_block (FabAt.fresh w1 ⟨0, 0, 0, 0, 0, false, 0, 0, 0⟩) (hb.block _ (by simp))); have B2 := Lib.hid ((B1.out.alloc B1.out.size _).trans (hb.mono (by simp; have := B1.out.size; omega))); clear hb))
  obtain ⟨W3, hW3⟩ : ∃ W3, W3 = w2.alloc (.cells #[.int .u8 0, .int .u16 0, .int .u16 0, .int .u16 0, .int .u32 0, .bool false, .int .u32 0, .int .u64 0, .int .u32 0] 42) := ⟨_, rfl⟩
  rw [← hW3]
  have R3 := Lib.hid (show W3.rowIs w.heap.size 43 64 (bB B) by rw [hW3]; exact World.rowIs.alloc R2.out _)
  have F3 := Lib.hid (show FabAt W3 w1.heap.size ⟨0, 0, 0, 0, 0, false, 0, 0, 0⟩ by rw [hW3]; exact World.rowIs.alloc F2.out _)
  have G3 := Lib.hid (show FabAt W3 w2.heap.size ⟨0, 0, 0, 0, 0, false, 0, 0, 0⟩ by rw [hW3]; exact FabAt.fresh w2 ⟨0, 0, 0, 0, 0, false, 0, 0, 0⟩)
  have B3 := Lib.hid (show Below w.heap.size w W3 by rw [hW3]; exact B2.out.alloc B2.out.size _)
  clear hW3
  obtain ⟨x, hx⟩ : ∃ x, (B 0 == 127) = x := ⟨_, rfl⟩
  rw [hx] at HIS
  go_region_held3 (fun w' => w'.rangeAt w.heap.size 0 (arr 64 (bB B)).toList ∧ w'.cell? ⟨w.heap.size, 0, none⟩ = some (.int .u8 (B 0)))
    (with_reducible (first | exact held_of 0 (by omega) R4.out | exact held_of 0 (by omega) (row_drew R3.out)))
    (first | (go_at_call 23; refine (HIS.out _).mono ?_; rintro e w4 ⟨rfl, hb⟩; have R4 := Lib.hid (R3.out.of_block (hb.block _ R3.out.lt)); have FA := Lib.hid (World.rowIs.of_block F3.out (hb.block _ (World.rowIs.lt F3.out))); have FB := Lib.hid (World.rowIs.of_block G3.out (hb.block _ (World.rowIs.lt G3.out))); have B4 := Lib.hid (B3.out.trans (((Below.refl _ W3).drew).trans hb |>.mono B3.out.size)); clear hb))
  have p0 : w4.cell? ⟨w1.heap.size, 0, none⟩ = some (.int .u8 0) := World.rowIs.cell FA.out (by omega)
  have p1 : w4.cell? ⟨w1.heap.size, 1, none⟩ = some (.int .u16 0) := World.rowIs.cell FA.out (by omega)
  have p2 : w4.cell? ⟨w1.heap.size, 2, none⟩ = some (.int .u16 0) := World.rowIs.cell FA.out (by omega)
  have p3 : w4.cell? ⟨w1.heap.size, 3, none⟩ = some (.int .u16 0) := World.rowIs.cell FA.out (by omega)
  have p4 : w4.cell? ⟨w1.heap.size, 4, none⟩ = some (.int .u32 0) := World.rowIs.cell FA.out (by omega)
  have p5 : w4.cell? ⟨w1.heap.size, 5, none⟩ = some (.bool false) := World.rowIs.cell FA.out (by omega)
  have p6 : w4.cell? ⟨w1.heap.size, 6, none⟩ = some (.int .u32 0) := World.rowIs.cell FA.out (by omega)
  have p7 : w4.cell? ⟨w1.heap.size, 7, none⟩ = some (.int .u64 0) := World.rowIs.cell FA.out (by omega)
  have p8 : w4.cell? ⟨w1.heap.size, 8, none⟩ = some (.int .u32 0) := World.rowIs.cell FA.out (by omega)
  go_wp2_with (go_at_call 14; refine (known_any _).mono ?_; rintro e w5 ⟨rfl, hb⟩; have B5 := Lib.hid (B4.out.trans (hb.mono B4.out.size)); clear hb)
  go_ret
  exact ⟨rfl, B5.out⟩

theorem dec_law (B : Nat → Int) (w : World) (hB : ∀ j, 0 ≤ B j ∧ B j ≤ 255) :
    Calls Try.prog 9 #[.agg (arr 64 (bB B))] w fun e w' => e = .returned (.bool true) ∧ Below w.heap.size w w' := by
  by_cases h : vld (dF B) = true ∧ Same (dF B) B
  · refine dec_yes (dF B) B w (fun w => (decode_any B w hB).mono fun e w' k => ⟨?_, k.2⟩) (fun w => (refdecode_any B w hB).mono fun e w' k => ⟨?_, k.2⟩)
    · rcases k.1 with ⟨-, k⟩ | ⟨k, -⟩
      · exact k
      · exact absurd h k
    · rcases k.1 with ⟨-, k⟩ | ⟨k, -⟩
      · exact k
      · exact absurd h k
  · refine dec_no B w (fun w => (decode_any B w hB).mono fun e w' k => ⟨?_, k.2⟩) (fun w => (refdecode_any B w hB).mono fun e w' k => ⟨?_, k.2⟩)
    · rcases k.1 with ⟨k, -⟩ | ⟨-, k⟩
      · exact absurd k h
      · exact k
    · rcases k.1 with ⟨k, -⟩ | ⟨-, k⟩
      · exact absurd k h
      · exact k
end Go.Proofs.Ytchkipafjnehfaa
