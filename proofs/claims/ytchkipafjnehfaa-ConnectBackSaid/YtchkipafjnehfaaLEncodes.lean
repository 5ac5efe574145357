/- connect: the law ConnectEncodes returns true and writes to nothing that was there. -/
import Derived.Test.YtchkipafjnehfaaKnown
import Derived.Test.YtchkipafjnehfaaEn
import Derived.Test.YtchkipafjnehfaaR2
import Derived.Deep.CutRange
namespace Go.Proofs.Ytchkipafjnehfaa
set_option linter.unusedVariables false
set_option linter.unusedSimpArgs false
open Go.RowKit

section
variable {P : Program} {ops : Array Oper} {Q : Exit → Act → World → Prop} {a : Act} {w : World} {rest : List Oper} {o : Oper}
/-- The zero value of a struct or an array, under a guard that holds. -/
theorem wpList_build0G (hw : Region.wanted o (yielded ops a.tmps) = true) (t : Nat) (ho : o.op = .build t #[])
    {v : Value} (hb : (Instr.build t #[]).run P w = .ok v w) (h : wpList P ops Q rest (a.put o.dst v) w) : wpList P ops Q (o :: rest) a w :=
  wpList_step fun K hK => by
    rw [if_pos hw]
    unfold Oper.wp execOp
    simp only [ho, List.map_toArray, List.map_nil]
    simp only [Sem.run_bind, hb, Result.andThen_ok, Sem.run_pure]
    exact hK _ _ h
end
theorem build64 (w : World) : (Instr.build 43 #[]).run Try.prog w = .ok (.agg (arr 64 z8)) w := by kernel_rfl

theorem FabAt.new (w : World) (f : Fab) : FabAt (w.alloc (.cells #[.int .u8 f.kind, .int .u16 f.id, .int .u16 f.queue, .int .u16 f.size, .int .u32 f.keep, .bool f.wide, .int .u32 f.offset, .int .u64 f.value, .int .u32 f.length] 42)) w.heap.size f :=
  World.rowIs_alloc w _ _ _ (fun i hi => by match i, hi with | 0, _ => rfl | 1, _ => rfl | 2, _ => rfl | 3, _ => rfl | 4, _ => rfl | 5, _ => rfl | 6, _ => rfl | 7, _ => rfl | 8, _ => rfl)

set_option maxRecDepth 100000 in
set_option maxHeartbeats 4000000 in
theorem enc_good (f : Fab) (w : World) (hok : f.Ok) (hv : vld f = true) :
    Calls Try.prog 5 #[f.v] w fun e w' => e = .returned (.bool true) ∧ Below w.heap.size w w' := by
  have HE := Lib.hid fun w => encode_any f w hok hv
  have HRE := Lib.hid fun w => refencode_any f w hok hv
  have HV := Lib.hid (show ∀ w, Calls Try.prog 21 #[f.v] w fun e w' => e = .returned (.bool true) ∧ Below w.heap.size w w' from fun w => by have := valid_any f w hok; rwa [hv] at this)
  have HRV := Lib.hid (show ∀ w, Calls Try.prog 20 #[f.v] w fun e w' => e = .returned (.bool true) ∧ Below w.heap.size w w' from fun w => by have := refvalid_any f w hok; rwa [hv] at this)
  have hg1 := arr_one (n := 64) (fun j _ => encF_one f j)
  have HIS := Lib.hid (show ∀ w, Calls Try.prog 23 #[.agg (arr 64 (encF f))] w fun e w' => e = .returned (.bool true) ∧ Below w.heap.size w w' from fun w => isfabric_any (encF f) 127 (encF_0 f) w hg1)
  have hEQ := fun w => equal64_same (encF_bytes f) w
  obtain ⟨G, hG⟩ : ∃ G, G = encF f := ⟨_, rfl⟩
  rw [← hG] at HE HRE HIS hEQ hg1
  have HG1 := Lib.hid hg1
  have HEQ := Lib.hid hEQ
  clear hG hg1 hEQ hv hok
  obtain ⟨kind, id, queue, size, keep, wide, offset, value, length⟩ := f
  unfold Fab.v at *
  simp only [] at *
  go_enter Try.func5, Try.ntmps5
  go_wp2_with fail
  refine (HE.out _).mono ?_
  rintro e w1 ⟨rfl, hb1⟩
  have hl0 : w.heap.size < w1.heap.size := by have := hb1.size; simp at this; omega
  have HF1 := Lib.hid (show FabAt w1 w.heap.size ⟨kind, id, queue, size, keep, wide, offset, value, length⟩ from (FabAt.new w ⟨kind, id, queue, size, keep, wide, offset, value, length⟩).of_block (hb1.block _ (by simp)))
  have HB1 := Lib.hid (((Below.refl w.heap.size w).alloc (Nat.le_refl _) _).trans (hb1.mono (by simp)))
  have HA1 := Lib.hid (rowIs_arr w1 43 64 z8)
  clear hb1
  go_upto_region 2 with (first
    | ((with_reducible show wpList _ _ _ (⟨some 3, .alloc _, _, _, _, _⟩ :: _) _ _); refine wpList_alloc rfl 43 rfl zero64 ?_; rw [show (Value.agg (arr 64 z8)).cells = arr 64 z8 from rfl])
    | ((with_reducible show wpList _ _ _ (⟨none, .store _ (.tmp 3) (.tmp 8), _, _, _, _⟩ :: _) _ _); refine wpList_store_mid rfl 43 (.tmp 3) (.tmp 8) rfl w1.heap.size 0 (arr 64 G) (by simp [Act.eval, Act.put]) (by simp [Act.eval, Act.put]) (by rw [arr_size]; exact rowIs_there HA1.out 0 64 (by omega)) (by rw [arr64, arr_size]) HG1.out ?_))
  obtain ⟨W2, hW2⟩ : ∃ W2, W2 = (w1.alloc (.cells (arr 64 z8) 43)).setCells w1.heap.size 0 (arr 64 G).toList := ⟨_, rfl⟩
  rw [← hW2]
  have hk2 : Keeps (One w1.heap.size) (w1.alloc (.cells (arr 64 z8) 43)) W2 := by rw [hW2]; exact Keeps.setCells _ (Keeps.refl _ _) 0
  have R2 := Lib.hid (show W2.rowIs w1.heap.size 43 64 G by rw [hW2]; exact rowIs_store HA1.out)
  have HF2 := Lib.hid (show FabAt W2 w.heap.size ⟨kind, id, queue, size, keep, wide, offset, value, length⟩ from hk2.rowIs (World.rowIs.alloc HF1.out _) (fun e => by have e : w.heap.size = w1.heap.size := e; omega))
  have HB2 := Lib.hid ((HB1.out.alloc HB1.out.size (.cells (arr 64 z8) 43)).trans (hk2.below (B := w.heap.size) (by simp; omega) (fun k hk e => by have e : k = w1.heap.size := e; omega)))
  clear hk2 hW2 HB1 HA1 HF1
  have c0 : W2.cell? ⟨w.heap.size, 0, none⟩ = some (.int .u8 kind) := World.rowIs.cell HF2.out (by omega)
  have c1 : W2.cell? ⟨w.heap.size, 1, none⟩ = some (.int .u16 id) := World.rowIs.cell HF2.out (by omega)
  have c2 : W2.cell? ⟨w.heap.size, 2, none⟩ = some (.int .u16 queue) := World.rowIs.cell HF2.out (by omega)
  have c3 : W2.cell? ⟨w.heap.size, 3, none⟩ = some (.int .u16 size) := World.rowIs.cell HF2.out (by omega)
  have c4 : W2.cell? ⟨w.heap.size, 4, none⟩ = some (.int .u32 keep) := World.rowIs.cell HF2.out (by omega)
  have c5 : W2.cell? ⟨w.heap.size, 5, none⟩ = some (.bool wide) := World.rowIs.cell HF2.out (by omega)
  have c6 : W2.cell? ⟨w.heap.size, 6, none⟩ = some (.int .u32 offset) := World.rowIs.cell HF2.out (by omega)
  have c7 : W2.cell? ⟨w.heap.size, 7, none⟩ = some (.int .u64 value) := World.rowIs.cell HF2.out (by omega)
  have c8 : W2.cell? ⟨w.heap.size, 8, none⟩ = some (.int .u32 length) := World.rowIs.cell HF2.out (by omega)
  go_wp2_with fail
  refine (HRV.out _).mono ?_
  rintro e w3 ⟨rfl, hb3⟩
  have R3 := Lib.hid (R2.out.of_block (hb3.block _ R2.out.lt))
  have HF3 := Lib.hid (show FabAt w3 w.heap.size ⟨kind, id, queue, size, keep, wide, offset, value, length⟩ from World.rowIs.of_block HF2.out (hb3.block _ (World.rowIs.lt HF2.out)))
  have HB3 := Lib.hid (HB2.out.trans (hb3.mono HB2.out.size))
  clear c0 c1 c2 c3 c4 c5 c6 c7 c8 hb3 R2 HF2 HB2
  have hlw3 : w.heap.size < w3.heap.size := by have := R3.out.lt; omega
  go_upto_region 4 with (fail)
  have hq0 : ∀ p : InC (Below w3.heap.size w3), p.w.cell? ⟨w.heap.size, 0, none⟩ = some (.int .u8 kind) := fun p => (p.ok.cell hlw3).trans (World.rowIs.cell HF3.out (by omega))
  have hq1 : ∀ p : InC (Below w3.heap.size w3), p.w.cell? ⟨w.heap.size, 1, none⟩ = some (.int .u16 id) := fun p => (p.ok.cell hlw3).trans (World.rowIs.cell HF3.out (by omega))
  have hq2 : ∀ p : InC (Below w3.heap.size w3), p.w.cell? ⟨w.heap.size, 2, none⟩ = some (.int .u16 queue) := fun p => (p.ok.cell hlw3).trans (World.rowIs.cell HF3.out (by omega))
  have hq3 : ∀ p : InC (Below w3.heap.size w3), p.w.cell? ⟨w.heap.size, 3, none⟩ = some (.int .u16 size) := fun p => (p.ok.cell hlw3).trans (World.rowIs.cell HF3.out (by omega))
  have hq4 : ∀ p : InC (Below w3.heap.size w3), p.w.cell? ⟨w.heap.size, 4, none⟩ = some (.int .u32 keep) := fun p => (p.ok.cell hlw3).trans (World.rowIs.cell HF3.out (by omega))
  have hq5 : ∀ p : InC (Below w3.heap.size w3), p.w.cell? ⟨w.heap.size, 5, none⟩ = some (.bool wide) := fun p => (p.ok.cell hlw3).trans (World.rowIs.cell HF3.out (by omega))
  have hq6 : ∀ p : InC (Below w3.heap.size w3), p.w.cell? ⟨w.heap.size, 6, none⟩ = some (.int .u32 offset) := fun p => (p.ok.cell hlw3).trans (World.rowIs.cell HF3.out (by omega))
  have hq7 : ∀ p : InC (Below w3.heap.size w3), p.w.cell? ⟨w.heap.size, 7, none⟩ = some (.int .u64 value) := fun p => (p.ok.cell hlw3).trans (World.rowIs.cell HF3.out (by omega))
  have hq8 : ∀ p : InC (Below w3.heap.size w3), p.w.cell? ⟨w.heap.size, 8, none⟩ = some (.int .u32 length) := fun p => (p.ok.cell hlw3).trans (World.rowIs.cell HF3.out (by omega))
  have hL : ∀ p : InC (Below w3.heap.size w3), (Instr.loadAt 43 (.pointer (some ⟨w1.heap.size, 0, none⟩))).run Try.prog p.w = .ok (.agg (arr 64 G)) p.w := fun p => by
    have h := run_loadAt_mid (P := Try.prog) p.w w1.heap.size 0 43 (arr 64 G).toList _ (rowIs_range0 (R3.out.of_block (p.ok.block _ R3.out.lt))) Try.underlying43 rfl (by rw [arr64]; simp [arr])
    rwa [Array.toArray_toList] at h
  have HL := Lib.hid hL
  clear hL
  have hEQ : ∀ p : InC (Below w3.heap.size w3), (Op.equalIn 10000 43 (.agg (arr 64 G)) (.agg (arr 64 G))).run Try.prog p.w = .ok true p.w := fun p => HEQ.out p.w
  have HC1 := Lib.hid fun p : InC (Below w3.heap.size w3) => (HV.out p.w).mono fun e w' h => (⟨h.1, p.ok.trans (h.2.mono p.ok.size)⟩ : e = _ ∧ Below w3.heap.size w3 w')
  have HC2 := Lib.hid fun p : InC (Below w3.heap.size w3) => (HRE.out p.w).mono fun e w' h => (⟨h.1, p.ok.trans (h.2.mono p.ok.size)⟩ : e = _ ∧ Below w3.heap.size w3 w')
  have HC3 := Lib.hid fun p : InC (Below w3.heap.size w3) => (HIS.out p.w).mono fun e w' h => (⟨h.1, p.ok.trans (h.2.mono p.ok.size)⟩ : e = _ ∧ Below w3.heap.size w3 w')
  have HC4 := Lib.hid fun p : InC (Below w3.heap.size w3) => (known_any p.w).mono fun e w' h => (⟨h.1, p.ok.trans (h.2.mono p.ok.size)⟩ : e = _ ∧ Below w3.heap.size w3 w')
  have hNE : Nonempty (InC (Below w3.heap.size w3)) := ⟨⟨w3, Below.refl _ _⟩⟩
  refine wp_quiet_in (Below w3.heap.size w3) (Below.refl _ _).drew (by kernel_rfl) (by kernel_rfl) ?_
  repeat (first
    | ((with_reducible show wpQuiet _ _ _ _ (⟨some 35, .load _ _, _, _, _, _⟩ :: _) _); refine wpQuiet_load rfl 43 (.tmp 3) rfl (.pointer (some ⟨w1.heap.size, 0, none⟩)) rfl (fun w' hp => by { obtain ⟨p, rfl⟩ := hp; exact HL.out p }) ?_; simp only [Act.put, List.setIfInBounds_toArray, List.set_cons_succ, List.set_cons_zero])
    | ((with_reducible show wpQuiet _ _ _ _ (⟨some 41, .load _ _, _, _, _, _⟩ :: _) _); refine wpQuiet_load rfl 43 (.tmp 3) rfl (.pointer (some ⟨w1.heap.size, 0, none⟩)) rfl (fun w' hp => by { obtain ⟨p, rfl⟩ := hp; exact HL.out p }) ?_; simp only [Act.put, List.setIfInBounds_toArray, List.set_cons_succ, List.set_cons_zero])
    | go_big_quiet_step (first | (with_reducible exact calls_in (HC1.out _)) | (with_reducible exact calls_in (HC2.out _)) | (with_reducible exact calls_in (HC3.out _)) | (with_reducible exact calls_in (HC4.out _))))
  refine wpQuiet_nil ?_
  intro _ hw'
  obtain ⟨p, hw''⟩ := hw'
  subst hw''
  have HB4 := Lib.hid (HB3.out.trans (p.ok.mono HB3.out.size))
  generalize p.w = W4 at *
  clear hq0 hq1 hq2 hq3 hq4 hq5 hq6 hq7 hq8 HL hEQ HC1 HC2 HC3 HC4 hNE
  go_wp2_with fail
  go_ret
  exact ⟨rfl, HB4.out⟩

theorem encode_none (f : Fab) (w : World) (hok : f.Ok) (hv : vld f = false) :
    Calls Try.prog 19 #[f.v] w fun e w' => e = .returned (.tuple #[.agg (arr 64 z8), .int .i64 2]) ∧ Below w.heap.size w w' :=
  encode_bad f w fun w => by have := valid_any f w hok; rwa [hv] at this

set_option maxRecDepth 100000 in
set_option maxHeartbeats 4000000 in
theorem enc_poor (f : Fab) (w : World) (hok : f.Ok) (hv : vld f = false) :
    Calls Try.prog 5 #[f.v] w fun e w' => e = .returned (.bool true) ∧ Below w.heap.size w w' := by
  have HE := Lib.hid fun w => encode_none f w hok hv
  have HV := Lib.hid (show ∀ w, Calls Try.prog 21 #[f.v] w fun e w' => e = .returned (.bool false) ∧ Below w.heap.size w w' from fun w => by have := valid_any f w hok; rwa [hv] at this)
  have HRV := Lib.hid (show ∀ w, Calls Try.prog 20 #[f.v] w fun e w' => e = .returned (.bool false) ∧ Below w.heap.size w w' from fun w => by have := refvalid_any f w hok; rwa [hv] at this)
  have hEQ := fun w => eql64_same Bytes8.z8 w
  have HBU := Lib.hid build64
  obtain ⟨G, hG⟩ : ∃ G, G = z8 := ⟨_, rfl⟩
  have HG1 := Lib.hid (show (arr 64 G).all (·.oneCell') = true by rw [hG]; exact z8_one)
  have HGZ := Lib.hid hG
  rw [← hG] at HE hEQ HBU
  have HEQ := Lib.hid hEQ
  clear hG hEQ hv hok
  obtain ⟨kind, id, queue, size, keep, wide, offset, value, length⟩ := f
  unfold Fab.v at *
  simp only [] at *
  go_enter Try.func5, Try.ntmps5
  go_wp2_with fail
  refine (HE.out _).mono ?_
  rintro e w1 ⟨rfl, hb1⟩
  have hl0 : w.heap.size < w1.heap.size := by have := hb1.size; simp at this; omega
  have HF1 := Lib.hid (show FabAt w1 w.heap.size ⟨kind, id, queue, size, keep, wide, offset, value, length⟩ from (FabAt.new w ⟨kind, id, queue, size, keep, wide, offset, value, length⟩).of_block (hb1.block _ (by simp)))
  have HB1 := Lib.hid (((Below.refl w.heap.size w).alloc (Nat.le_refl _) _).trans (hb1.mono (by simp)))
  have HA1 := Lib.hid (rowIs_arr w1 43 64 z8)
  clear hb1
  go_upto_region 2 with (first
    | ((with_reducible show wpList _ _ _ (⟨some 3, .alloc _, _, _, _, _⟩ :: _) _ _); refine wpList_alloc rfl 43 rfl zero64 ?_; rw [show (Value.agg (arr 64 z8)).cells = arr 64 z8 from rfl])
    | ((with_reducible show wpList _ _ _ (⟨none, .store _ (.tmp 3) (.tmp 8), _, _, _, _⟩ :: _) _ _); refine wpList_store_mid rfl 43 (.tmp 3) (.tmp 8) rfl w1.heap.size 0 (arr 64 G) (by simp [Act.eval, Act.put]) (by simp [Act.eval, Act.put]) (by rw [arr_size]; exact rowIs_there HA1.out 0 64 (by omega)) (by rw [arr64, arr_size]) HG1.out ?_))
  obtain ⟨W2, hW2⟩ : ∃ W2, W2 = (w1.alloc (.cells (arr 64 z8) 43)).setCells w1.heap.size 0 (arr 64 G).toList := ⟨_, rfl⟩
  rw [← hW2]
  have hk2 : Keeps (One w1.heap.size) (w1.alloc (.cells (arr 64 z8) 43)) W2 := by rw [hW2]; exact Keeps.setCells _ (Keeps.refl _ _) 0
  have R2 := Lib.hid (show W2.rowIs w1.heap.size 43 64 G by rw [hW2]; exact rowIs_store HA1.out)
  have HF2 := Lib.hid (show FabAt W2 w.heap.size ⟨kind, id, queue, size, keep, wide, offset, value, length⟩ from hk2.rowIs (World.rowIs.alloc HF1.out _) (fun e => by have e : w.heap.size = w1.heap.size := e; omega))
  have HB2 := Lib.hid ((HB1.out.alloc HB1.out.size (.cells (arr 64 z8) 43)).trans (hk2.below (B := w.heap.size) (by simp; omega) (fun k hk e => by have e : k = w1.heap.size := e; omega)))
  clear hk2 hW2 HB1 HA1 HF1
  have c0 : W2.cell? ⟨w.heap.size, 0, none⟩ = some (.int .u8 kind) := World.rowIs.cell HF2.out (by omega)
  have c1 : W2.cell? ⟨w.heap.size, 1, none⟩ = some (.int .u16 id) := World.rowIs.cell HF2.out (by omega)
  have c2 : W2.cell? ⟨w.heap.size, 2, none⟩ = some (.int .u16 queue) := World.rowIs.cell HF2.out (by omega)
  have c3 : W2.cell? ⟨w.heap.size, 3, none⟩ = some (.int .u16 size) := World.rowIs.cell HF2.out (by omega)
  have c4 : W2.cell? ⟨w.heap.size, 4, none⟩ = some (.int .u32 keep) := World.rowIs.cell HF2.out (by omega)
  have c5 : W2.cell? ⟨w.heap.size, 5, none⟩ = some (.bool wide) := World.rowIs.cell HF2.out (by omega)
  have c6 : W2.cell? ⟨w.heap.size, 6, none⟩ = some (.int .u32 offset) := World.rowIs.cell HF2.out (by omega)
  have c7 : W2.cell? ⟨w.heap.size, 7, none⟩ = some (.int .u64 value) := World.rowIs.cell HF2.out (by omega)
  have c8 : W2.cell? ⟨w.heap.size, 8, none⟩ = some (.int .u32 length) := World.rowIs.cell HF2.out (by omega)
  go_wp2_with fail
  refine (HRV.out _).mono ?_
  rintro e w3 ⟨rfl, hb3⟩
  have R3 := Lib.hid (R2.out.of_block (hb3.block _ R2.out.lt))
  have HF3 := Lib.hid (show FabAt w3 w.heap.size ⟨kind, id, queue, size, keep, wide, offset, value, length⟩ from World.rowIs.of_block HF2.out (hb3.block _ (World.rowIs.lt HF2.out)))
  have HB3 := Lib.hid (HB2.out.trans (hb3.mono HB2.out.size))
  clear c0 c1 c2 c3 c4 c5 c6 c7 c8 hb3 R2 HF2 HB2
  have c0 : w3.cell? ⟨w.heap.size, 0, none⟩ = some (.int .u8 kind) := World.rowIs.cell HF3.out (by omega)
  have c1 : w3.cell? ⟨w.heap.size, 1, none⟩ = some (.int .u16 id) := World.rowIs.cell HF3.out (by omega)
  have c2 : w3.cell? ⟨w.heap.size, 2, none⟩ = some (.int .u16 queue) := World.rowIs.cell HF3.out (by omega)
  have c3 : w3.cell? ⟨w.heap.size, 3, none⟩ = some (.int .u16 size) := World.rowIs.cell HF3.out (by omega)
  have c4 : w3.cell? ⟨w.heap.size, 4, none⟩ = some (.int .u32 keep) := World.rowIs.cell HF3.out (by omega)
  have c5 : w3.cell? ⟨w.heap.size, 5, none⟩ = some (.bool wide) := World.rowIs.cell HF3.out (by omega)
  have c6 : w3.cell? ⟨w.heap.size, 6, none⟩ = some (.int .u32 offset) := World.rowIs.cell HF3.out (by omega)
  have c7 : w3.cell? ⟨w.heap.size, 7, none⟩ = some (.int .u64 value) := World.rowIs.cell HF3.out (by omega)
  have c8 : w3.cell? ⟨w.heap.size, 8, none⟩ = some (.int .u32 length) := World.rowIs.cell HF3.out (by omega)
  go_wp2_with fail
  refine (HV.out _).mono ?_
  rintro e w4 ⟨rfl, hb4⟩
  have R4 := Lib.hid (rowIs_range0 (R3.out.of_block (hb4.block _ R3.out.lt)))
  have HB4 := Lib.hid (HB3.out.trans (hb4.mono HB3.out.size))
  clear c0 c1 c2 c3 c4 c5 c6 c7 c8 hb4 R3 HF3 HB3
  have hEQ := HEQ.out
  go_wp2_with (first
    | ((with_reducible show wpList _ _ _ (⟨some 21, .load _ _, _, _, _, _⟩ :: _) _ _); refine wpList_load_midG rfl 43 (.tmp 3) rfl w1.heap.size 0 rfl (arr 64 G).toList _ R4.out Try.underlying43 rfl (by rw [arr64]; simp [arr]) ?_)
    | ((with_reducible show wpList _ _ _ (⟨some 22, .build _ _, _, _, _, _⟩ :: _) _ _); refine wpList_build0G rfl 43 rfl (HBU.out _) ?_))
  refine (known_any _).mono ?_
  rintro e w5 ⟨rfl, hb5⟩
  go_wp2_with fail
  go_ret
  exact ⟨rfl, HB4.out.trans (hb5.mono HB4.out.size)⟩

theorem enc_law (f : Fab) (w : World) (hok : f.Ok) :
    Calls Try.prog 5 #[f.v] w fun e w' => e = .returned (.bool true) ∧ Below w.heap.size w w' := by
  cases hv : vld f
  · exact enc_poor f w hok hv
  · exact enc_good f w hok hv
end Go.Proofs.Ytchkipafjnehfaa
