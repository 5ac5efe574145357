/- sgl: Spans: the ways that end ahead of the list. -/
import Derived.Test.YtcljbmkdflkeeaaSS
namespace Go.Proofs.Ytcljbmkdflkeeaa
set_option linter.unusedVariables false
set_option linter.unusedSimpArgs false
open Go.RowKit

/-- What Spans leaves. -/
def SpPost (w : World) (r : Except Int (List Spn)) (e : Ending) (w' : World) : Prop :=
  Below w.heap.size w w' ∧ match r with
  | .error no => e = .returned (.tuple #[.slice none 0 0, .int .i64 no])
  | .ok l => ∃ v, e = .returned (.tuple #[v, .int .i64 0]) ∧ w'.ownsRow w.heap.size 62 3 v l.length (spC l)

/-- What lies in memory while Spans runs: its variables. -/
structure SSt (w W : World) : Prop where
  below : Below w.heap.size w W
  out : W.cell? ⟨w.heap.size + 1, 0, none⟩ = some (.slice none 0 0)
  ofz : W.frozen? ⟨w.heap.size + 1, 0, none⟩ = false
  err : W.cell? ⟨w.heap.size + 2, 0, none⟩ = some (.int .i64 0)
  efz : W.frozen? ⟨w.heap.size + 2, 0, none⟩ = false
namespace SSt
variable {w W W' : World}
theorem lt (h : SSt w W) : w.heap.size + 2 < W.heap.size := World.block_lt_of_cell? _ _ h.err
theorem kept {S : Nat → Prop} (h : SSt w W) (k : Keeps S W W') (hS : ∀ j, j ≤ w.heap.size + 2 → ¬ S j) : SSt w W' := by
  have hl := h.lt
  refine ⟨h.below.trans (k.below h.below.size (fun j hj => hS j (by omega))), k.cell h.out (hS _ (by simp)), ?_, k.cell h.err (hS _ (by simp)), ?_⟩
  · rw [World.frozen?_of_block (a := ⟨w.heap.size + 1, 0, none⟩) (k.block (w.heap.size + 1) (by omega) (hS _ (by omega)))]; exact h.ofz
  · rw [World.frozen?_of_block (a := ⟨w.heap.size + 2, 0, none⟩) (k.block (w.heap.size + 2) (by omega) (hS _ (by omega)))]; exact h.efz
theorem beyond (h : SSt w W) (hb : Below W.heap.size W W') : SSt w W' := h.kept (Keeps.of_below (S := fun _ => False) hb) (fun _ _ e => e)
end SSt

theorem sst_start (w : World) (D : Array Value) (hD : 0 < D.size) : SSt w (((w.alloc (.cells D 26)).alloc (.cells #[.slice none 0 0] 43)).alloc (.cells #[.int .i64 0] 28)) := by
  refine ⟨(((Below.refl _ w).alloc (Nat.le_refl _) _).alloc (by simp) _).alloc (by simp; omega) _, ?_, ?_, ?_, ?_⟩
  all_goals go_simp

theorem sp_bad {w W : World} {no : Int} {tmps : Array Value} (S : SSt w W) (h8 : tmps.getD 8 undef = .pointer (some ⟨w.heap.size + 1, 0, none⟩)) (h9 : tmps.getD 9 undef = .pointer (some ⟨w.heap.size + 2, 0, none⟩)) :
    bodyPostD Try.prog Try.f32 (SpPost w (.error no)) (Exit.panic [pan no]) { tmps := tmps, defers := [dfrS (w.heap.size + 1) (w.heap.size + 2)] } W :=
  spans_bad tmps W _ _ _ 0 no _ h8 h9 S.out S.ofz S.err S.efz (by omega) fun w' k => ⟨S.below.trans (k.below (B := w.heap.size) S.below.size (fun j hj e => by rcases e with e | e <;> omega)), rfl⟩

set_option maxRecDepth 100000 in
set_option maxHeartbeats 4000000 in
theorem spans_none (d : Dsc) (n : Int) (th : Bool) (p : Option Addr) (w : World) (hp : NoMem w p) :
    Calls Try.prog 32 #[.pointer p, .agg d.cells, .int .i64 n, .bool th] w (SpPost w (.error 1)) := by
  have HP := Lib.hid hp
  obtain ⟨A, hA⟩ : ∃ A, A = d.cells := ⟨_, rfl⟩
  have HA4 := Lib.hid (show 0 < A.size by rw [hA]; exact Nat.succ_pos 3)
  rw [← hA]
  clear hp hA
  have hmf : ∀ (fn : Fn) (first cap : Array Value) (w : World), (Instr.makeFunc fn first cap).run Try.prog w = .ok (.func fn first cap) w := fun _ _ _ _ => rfl
  go_enter_defers Try.func32, Try.ntmps32
  go_upto_region 2 with (fail)
  obtain ⟨W0, hW0⟩ : ∃ W0, W0 = (((w.alloc (.cells A 26)).alloc (.cells #[.slice none 0 0] 43)).alloc (.cells #[.int .i64 0] 28)) := ⟨_, rfl⟩
  rw [← hW0]
  have S0 := Lib.hid (show SSt w W0 by rw [hW0]; exact sst_start w A HA4.out)
  clear hW0
  go_wp2_with (go_at_call 22; refine (size_no _ _ (HP.out.below S0.out.below)).mono ?_; rintro e w' ⟨rfl, rfl⟩)
  refine (must_bad _ _).mono ?_
  rintro e w' ⟨rfl, rfl⟩
  exact sp_bad S0.out rfl rfl

section
variable (d : Dsc) (n : Int) (th : Bool) (b B size : Nat) (f : Nat → Int) (L : List (Nat × Nat)) (w : World) (hM : MemAt w b B size f L) (hs : 0 < size) (hd : d.Ok)
include hM hs hd
set_option maxRecDepth 100000 in
set_option maxHeartbeats 4000000 in
theorem spans_inv (hv : vldD d = false) :
    Calls Try.prog 32 #[.pointer (some ⟨b, 0, none⟩), .agg d.cells, .int .i64 n, .bool th] w (SpPost w (.error 2)) := by
  have HM := Lib.hid hM
  have HV := Lib.hid fun w => valid_any d false hv w hd
  obtain ⟨A, hA⟩ : ∃ A, A = d.cells := ⟨_, rfl⟩
  have HA4 := Lib.hid (show 0 < A.size by rw [hA]; exact Nat.succ_pos 3)
  have HSZ := Lib.hid (show (Try.prog.info? 26).map (·.size) = some A.size by rw [hA]; exact sizeD)
  have HFR := Lib.hid (fun w => show ArrAt (w.alloc (.cells A 26)) w.heap.size A from ArrAt.fresh w A _ HA4.out)
  rw [← hA] at HV ⊢
  obtain ⟨sz, hsz⟩ : ∃ z : Int, z = size := ⟨_, rfl⟩
  have dz : decide (0 < sz) = true := decide_eq_true (by omega)
  have HZ := Lib.hid hsz
  clear hM hA hs hsz hv hd
  have hmf : ∀ (fn : Fn) (first cap : Array Value) (w : World), (Instr.makeFunc fn first cap).run Try.prog w = .ok (.func fn first cap) w := fun _ _ _ _ => rfl
  go_enter_defers Try.func32, Try.ntmps32
  go_upto_region 2 with (fail)
  obtain ⟨W0, hW0⟩ : ∃ W0, W0 = (((w.alloc (.cells A 26)).alloc (.cells #[.slice none 0 0] 43)).alloc (.cells #[.int .i64 0] 28)) := ⟨_, rfl⟩
  rw [← hW0]
  have S0 := Lib.hid (show SSt w W0 by rw [hW0]; exact sst_start w A HA4.out)
  have AD := Lib.hid (show ArrAt W0 w.heap.size A by rw [hW0]; exact ((HFR.out w).alloc _).alloc _)
  clear hW0
  go_wp2_with (first
    | (go_at_call 22; refine (size_is b B size f L sz _ (HM.out.below S0.out.below) HZ.out).mono ?_; rintro e w' ⟨rfl, rfl⟩)
    | ((with_reducible show wpList _ _ _ (⟨some 18, _, _, _, _, _⟩ :: _) _ _); refine wpList_loadA rfl AD.out 26 (.tmp 5) rfl (by first | rfl | simp [Act.eval, Act.put]) Try.underlying26 rfl HSZ.out ?_)
    | (go_at_call 14; refine (HV.out _).mono ?_; rintro e w1 ⟨rfl, hb⟩; have S1 := Lib.hid (S0.out.beyond hb); clear hb)
    | (go_at_call_of 42 (Value.bool true); refine (must_ok _ _).mono ?_; rintro e w' ⟨rfl, rfl⟩))
  refine (must_bad _ _).mono ?_
  rintro e w' ⟨rfl, rfl⟩
  exact sp_bad S1.out rfl rfl
end
end Go.Proofs.Ytcljbmkdflkeeaa
