/- memory: New, Clear, first, Writes (the copy of the log), Clone, Read. -/
import Derived.Test.YtfploifafpifnaaME
import Derived.Test.YtfploifafpifnaaWire
import Derived.Deep.MidRow
namespace Go.Proofs.Ytfploifafpifnaa
set_option linter.unusedVariables false
set_option linter.unusedSimpArgs false
open Go.RowKit

/-- the cells of a log that is empty -/
def zj (i : Nat) : Value := if i = 768 then .int .i64 0 else if i % 3 = 0 then .int .u64 0 else if i % 3 = 1 then .int .i64 0 else .bool false
def zjl : List Value := (List.range 769).map zj
theorem zjl_length : zjl.length = 769 := by simp [zjl]
theorem zjl_get (i : Nat) (h : i < 769) : zjl[i]? = some (zj i) := by simp [zjl, h]
theorem zj_one (i : Nat) : (zj i).oneCell' = true := by
  unfold zj
  split
  · rfl
  · split
    · rfl
    · split <;> rfl
theorem build_mem (w : World) (a : Option Addr) (n c : Nat) : (Instr.build 57 #[(1, .slice a n c)]).run Try.prog w = .ok (.agg (zjl ++ [Value.slice a n c]).toArray) w := by kernel_rfl
theorem build_journal (w : World) : (Instr.build 55 #[]).run Try.prog w = .ok (.agg zjl.toArray) w := by kernel_rfl
theorem zero_journal (w : World) : (zeroValue 55).run Try.prog w = .ok (.agg zjl.toArray) w := by kernel_rfl
theorem sizeJ : (Try.prog.info? 55).map (·.size) = some 769 := by kernel_rfl

set_option maxRecDepth 100000 in
set_option maxHeartbeats 1000000 in
theorem new_ok (pages : Nat) (w : World) (h1 : 1 ≤ pages) (h2 : pages ≤ 1024) :
   Calls Try.prog 15 #[.int .i64 pages] w fun e w' => ∃ b B, e = .returned (.tuple #[.pointer (some ⟨b, 0, none⟩), .int .i64 0]) ∧ w.heap.size ≤ b ∧ w.heap.size ≤ B ∧ Below w.heap.size w w' ∧
     MemAt w' b B (pages * 4096) (fun _ => 0) [] := by
  have hmk := run_make_row' (P := Try.prog) 24 5 (.int .u8 0) 1 Try.underlying24 infoU8 rfl .i64 .i64 (pages * 4096) (by omega) (by omega)
  have e1 : ((pages * 4096 : Nat) : Int) = (pages : Int) * 4096 := by omega
  rw [e1] at hmk
  have d1 : decide ((pages : Int) < 1) = false := by simp; omega
  have d2 : decide ((1024 : Int) < (pages : Int)) = false := by simp; omega
  go_enter Try.func15, Try.ntmps15
  go_wp2_with ((with_reducible show wpList _ _ _ (⟨some 13, _, _, _, _, _⟩ :: _) _ _); refine wpList_build1 rfl 57 1 (.tmp 12) rfl (.slice (some ⟨w.heap.size, 0, none⟩) (pages * 4096) (pages * 4096)) ?hx (build_mem _ _ _ _) ?_; exact rfl)
  go_ret2
  refine ⟨_, w.heap.size, rfl, by omega, Nat.le_refl _, ((Below.refl _ _).alloc (Nat.le_refl _) _).alloc (by simp) _, ?_⟩
  have hrow := (World.rowIs_made w (.int .u8 0) (pages * 4096) 5).alloc (.cells (zjl ++ [Value.slice (some ⟨w.heap.size, 0, none⟩) (pages * 4096) (pages * 4096)]).toArray 57)
  have hobj := World.rowIs_alloc (w.alloc (.cells (madeCells #[.int .u8 0] (pages * 4096)) 5)) (zjl ++ [Value.slice (some ⟨w.heap.size, 0, none⟩) (pages * 4096) (pages * 4096)]).toArray 57
    (fun i => if i = 769 then Value.slice (some ⟨w.heap.size, 0, none⟩) (pages * 4096) (pages * 4096) else zj i) (fun i hi => by
      simp only [List.size_toArray, List.length_append, zjl_length, List.length_cons, List.length_nil] at hi
      rw [List.getElem?_toArray]
      by_cases h : i = 769
      · subst h; rw [List.getElem?_append_right (by rw [zjl_length]; omega), zjl_length]; simp
      · rw [List.getElem?_append_left (by rw [zjl_length]; omega), zjl_get i (by omega), if_neg h])
  have hsz : (zjl ++ [Value.slice (some ⟨w.heap.size, 0, none⟩) (pages * 4096) (pages * 4096)]).toArray.size = 770 := by simp [zjl_length]
  rw [hsz, World.size_alloc] at hobj
  refine ⟨by omega, by omega, _, _, _, hobj, ?_, ?_, ?_, hrow, Nat.le_refl _, by omega, fun _ _ => rfl⟩
  · rfl
  · rfl
  · exact ⟨fun i hi => by rw [if_neg (by omega)]; exact zj_one i, fun i hi => by simp at hi⟩

set_option maxRecDepth 100000 in
set_option maxHeartbeats 1000000 in
theorem new_err (pages : Int) (w : World) (h : pages < 1 ∨ 1024 < pages) :
   Calls Try.prog 15 #[.int .i64 pages] w fun e w' => e = .returned (.tuple #[.pointer none, .int .i64 2]) ∧ w = w' := by
  rcases h with h | h
  · go_enter Try.func15, Try.ntmps15
    go_wp2
    go_ret2
    exact ⟨rfl, rfl⟩
  · have h' : ¬ pages < 1 := by omega
    go_enter Try.func15, Try.ntmps15
    go_wp2
    go_ret2
    exact ⟨rfl, rfl⟩

end Go.Proofs.Ytfploifafpifnaa
