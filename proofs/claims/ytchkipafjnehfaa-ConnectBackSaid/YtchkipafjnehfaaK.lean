/- connect: Encode. -/
import Derived.Test.YtchkipafjnehfaaH
import Derived.Test.YtchkipafjnehfaaJ
import Derived.Test.YtchkipafjnehfaaRow
import Derived.Laws.BitsAllLaws
namespace Go.Proofs.Ytchkipafjnehfaa
set_option linter.unusedVariables false
set_option linter.unusedSimpArgs false
open Go.RowKit

def z8 : Nat → Value := fun _ => .int .u8 0
theorem arr64 : (Try.prog.info? 43).map (·.size) = some 64 := by kernel_rfl
theorem zero64 (w : World) : (zeroValue 43).run Try.prog w = .ok (.agg (arr 64 z8)) w := by kernel_rfl
theorem z8_one : (arr 64 z8).all (·.oneCell') = true := arr_one fun _ _ => rfl

theorem encode_results (tmps : Array Value) (w : World) (ab ty : Nat) (G : Nat → Value) (e : Value) (h : w.rowIs ab ty 64 G) (h2 : tmps.getD 2 undef = .pointer (some ⟨ab, 0, none⟩)) (h3 : tmps.getD 3 undef = e) :
    (results Try.f19 tmps).run Try.prog w = .ok (.tuple #[.agg (arr 64 G), e]) w := by
  rw [results_cell_tmp (p := 2) (u := 3) (ty := 43) rfl, h2, h3]
  have hl := run_loadVar_mid (P := Try.prog) w ab 0 43 (arr 64 G).toList _ (rowIs_range0 h) Try.underlying43 rfl (by rw [arr64]; simp [arr])
  simp only [asAddr, Sem.run_pure, Result.andThen_ok, hl, Array.toArray_toList]

/-- The two blocks that Encode makes first. -/
theorem encode_start (f : Fab) (w W : World) (hW : W = (w.alloc (.cells #[.int .u8 f.kind, .int .u16 f.id, .int .u16 f.queue, .int .u16 f.size, .int .u32 f.keep, .bool f.wide, .int .u32 f.offset, .int .u64 f.value, .int .u32 f.length] 42)).alloc (.cells (arr 64 z8) 43)) :
    FabAt W w.heap.size f ∧ W.rowIs (w.heap.size + 1) 43 64 z8 ∧ Below w.heap.size w W ∧ W.heap.size = w.heap.size + 2 := by
  subst hW
  have e1 : (w.alloc (.cells #[.int .u8 f.kind, .int .u16 f.id, .int .u16 f.queue, .int .u16 f.size, .int .u32 f.keep, .bool f.wide, .int .u32 f.offset, .int .u64 f.value, .int .u32 f.length] 42)).heap.size = w.heap.size + 1 := by simp
  refine ⟨?_, ?_, ((Below.refl _ _).alloc (Nat.le_refl _) _).alloc (by simp) _, by simp⟩
  · refine World.rowIs.alloc ?_ _
    exact World.rowIs_alloc w _ _ _ (fun i hi => by match i, hi with | 0, _ => rfl | 1, _ => rfl | 2, _ => rfl | 3, _ => rfl | 4, _ => rfl | 5, _ => rfl | 6, _ => rfl | 7, _ => rfl | 8, _ => rfl)
  · have := rowIs_arr (w.alloc (.cells #[.int .u8 f.kind, .int .u16 f.id, .int .u16 f.queue, .int .u16 f.size, .int .u32 f.keep, .bool f.wide, .int .u32 f.offset, .int .u64 f.value, .int .u32 f.length] 42)) 43 64 z8
    rw [e1] at this
    exact this

set_option maxRecDepth 100000 in
set_option maxHeartbeats 2000000 in
theorem encode_bad (f : Fab) (w : World) (hv : ∀ w, Calls Try.prog 21 #[f.v] w fun e w' => e = .returned (.bool false) ∧ Below w.heap.size w w') :
    Calls Try.prog 19 #[f.v] w fun e w' => e = .returned (.tuple #[.agg (arr 64 z8), .int .i64 2]) ∧ Below w.heap.size w w' := by
  have HV := Lib.hid hv
  have HS := Lib.hid (encode_start f w)
  clear hv
  unfold Fab.v at *
  go_enter Try.func19, Try.ntmps19
  go_wp2_with ((with_reducible show wpList _ _ _ (⟨some 2, _, _, _, _, _⟩ :: _) _ _); refine wpList_alloc rfl 43 rfl zero64 ?_; rw [show (Value.agg (arr 64 z8)).cells = arr 64 z8 from rfl])
  obtain ⟨h1, h2, h3, h4⟩ := HS.out _ rfl
  refine (HV.out _).mono ?_
  rintro e w1 ⟨rfl, hb⟩
  have H2 := Lib.hid (h2.of_block (hb.block _ h2.lt))
  have HB := Lib.hid (h3.trans (hb.mono h3.size))
  clear h1 h2 h3 h4 hb
  have hrange := rowIs_range0 H2.out
  have hthere := rowIs_there H2.out 0 64 (by omega)
  have HRA := Lib.hid hrange
  have HTH := Lib.hid hthere
  clear hrange hthere
  go_wp2_with (first | ((with_reducible show wpList _ _ _ (⟨some 10, _, _, _, _, _⟩ :: _) _ _); refine wpList_load_mid rfl 43 (.tmp 2) rfl (w.heap.size + 1) 0 rfl (arr 64 z8).toList _ HRA.out Try.underlying43 rfl (by rw [arr64]; simp [arr]) ?_) |
    ((with_reducible show wpList _ _ _ (⟨none, _, _, _, _, _⟩ :: _) _ _); refine wpList_store_mid rfl 43 (.tmp 2) (.tmp 10) rfl (w.heap.size + 1) 0 (arr 64 z8) rfl (by simp [Act.eval, Act.put]) (by rw [arr_size]; exact HTH.out) (by rw [arr64, arr_size]) z8_one ?_))
  refine bodyPost_ret (encode_results _ _ _ _ z8 _ (rowIs_store H2.out) rfl rfl) rfl ⟨rfl, ?_⟩
  exact HB.out.trans ((Keeps.setCells _ (Keeps.refl (One (w.heap.size + 1)) w1) 0).below (B := w.heap.size) HB.out.size (fun k hk e => by have e : k = w.heap.size + 1 := e; omega))
end Go.Proofs.Ytchkipafjnehfaa
