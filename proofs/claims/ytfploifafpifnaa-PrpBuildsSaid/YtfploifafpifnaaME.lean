/- memory: the other ways of Write and Fill; Size, New, first, Clear. -/
import Derived.Test.YtfploifafpifnaaMD
namespace Go.Proofs.Ytfploifafpifnaa
set_option linter.unusedVariables false
set_option linter.unusedSimpArgs false
open Go.RowKit

set_option maxHeartbeats 1000000 in
theorem write_err (b B size : Nat) (f : Nat → Int) (L : List (Nat × Nat)) (addr n c : Nat) (ao : Option Addr) (w : World) (h : MemAt w b B size f L)
    (ha' : addr ≤ 18446744073709551615) (hn : n ≤ 4611686018427387904) (hf : size < addr + n) :
   Calls Try.prog 23 #[.pointer (some ⟨b, 0, none⟩), .int .u64 addr, .slice ao n c] w fun e w' =>
     e = .returned (.int .i64 3) ∧ Below w.heap.size w w' := by
  have hM := Lib.hid h
  have hlt := h.lt
  have hlt' := h.lt'
  have hc : chk size addr n = 3 := by unfold chk; rw [if_neg (by omega), if_neg (by omega)]
  have HC := Lib.hid hc
  clear h hc
  go_enter Try.func23, Try.ntmps23
  go_wp2_with fail
  refine (put_err b B size f L addr n _ _ (hM.out.kept (((Keeps.refl (fun _ => False) w).alloc _)) (fun h => h) (fun h => h)) (by omega) (by omega) (by omega) (by omega) (by rw [HC.out]; rfl)).mono ?_
  rw [HC.out]
  rintro e w1 ⟨rfl, hk⟩
  go_wp2_with fail
  go_ret
  exact ⟨rfl, ((Below.refl _ w).alloc (Nat.le_refl _) _).trans (hk.mono (by simp))⟩

set_option maxHeartbeats 1000000 in
theorem write_nil (addr n c : Nat) (ao : Option Addr) (w : World) (_hn : n ≤ 4611686018427387904) :
   Calls Try.prog 23 #[.pointer none, .int .u64 addr, .slice ao n c] w fun e w' =>
     e = .returned (.int .i64 1) ∧ Below w.heap.size w w' := by
  go_enter Try.func23, Try.ntmps23
  go_wp2_with fail
  refine (put_nil _ _ _ _).mono ?_
  rintro e w1 ⟨rfl, rfl⟩
  go_wp2_with fail
  go_ret
  exact ⟨rfl, ((Below.refl _ w).alloc (Nat.le_refl _) _)⟩

set_option maxHeartbeats 1000000 in
theorem write_zero (b k m : Nat) (addr n c : Nat) (ao : Option Addr) (w : World) (_hn : n ≤ 4611686018427387904) (h : w.cell? ⟨b, 769, none⟩ = some (.slice none m k)) :
   Calls Try.prog 23 #[.pointer (some ⟨b, 0, none⟩), .int .u64 addr, .slice ao n c] w fun e w' =>
     e = .returned (.int .i64 1) ∧ Below w.heap.size w w' := by
  have hlt := World.block_lt_of_cell? _ _ h
  simp only [] at hlt
  have H := Lib.hid h
  clear h
  go_enter Try.func23, Try.ntmps23
  go_wp2_with fail
  refine (put_zero b k m _ _ _ _ ((Keeps.cell ((Keeps.refl (fun _ => False) w).alloc _) H.out (fun h => h)))).mono ?_
  rintro e w1 ⟨rfl, rfl⟩
  go_wp2_with fail
  go_ret
  exact ⟨rfl, ((Below.refl _ w).alloc (Nat.le_refl _) _)⟩

set_option maxHeartbeats 1000000 in
theorem fill1_any (x : Nat) (i v : Int) (w : World) (hx : w.cell? ⟨x, 0, none⟩ = some (.int .u8 v)) :
   Calls Try.prog 50 (#[.int .i64 i] ++ #[.pointer (some ⟨x, 0, none⟩)]) w fun e w' => e = .returned (.int .u8 v) ∧ w = w' := by
  show Calls Try.prog 50 #[.int .i64 i, .pointer (some ⟨x, 0, none⟩)] w _
  go_enter Try.func50, Try.ntmps50
  go_wp2
  go_ret
  exact ⟨rfl, rfl⟩

theorem fill1_enter (args : Array Value) (w : World) : (callFunc 50 args).run Try.prog w = .ok (.enter 50 args) w := by
  simp [go_sem]

set_option maxHeartbeats 1000000 in
theorem fill_ok (b B size : Nat) (f : Nat → Int) (L : List (Nat × Nat)) (addr n : Nat) (v : Int) (w : World) (h : MemAt w b B size f L)
    (hL : L.length < 4611686018427387904) (hf : addr + n ≤ size) :
   Calls Try.prog 22 #[.pointer (some ⟨b, 0, none⟩), .int .u64 addr, .int .i64 n, .int .u8 v] w fun e w' =>
     e = .returned (.int .i64 0) ∧ Keeps (Two b B) w w' ∧ MemAt w' b B size (upd f addr n (fun _ => v)) (logged L addr n) := by
  have hM := Lib.hid h
  have hlt := h.lt
  have hlt' := h.lt'
  clear h
  go_enter Try.func22, Try.ntmps22
  go_wp2_with fail
  have hk0 : Keeps (Two b B) w (w.alloc (.cells #[.int .u8 v] 5)) := (Keeps.refl _ w).alloc _
  refine (put_ok b B size f L addr n 50 _ (fun _ => v) _ (hM.out.kept (((Keeps.refl (fun _ => False) w).alloc _)) (fun h => h) (fun h => h)) hL hf fill1_enter ?_).mono ?_
  · intro i hi w1 h1
    exact fill1_any w.heap.size i v w1 (h1.cell (World.cell?_alloc_new _ _ _ _) (by rintro (e | e) <;> simp at e <;> omega))
  · rintro e w1 ⟨rfl, hk, hm⟩
    go_wp2_with fail
    go_ret
    exact ⟨rfl, hk0.trans hk, hm⟩

set_option maxHeartbeats 1000000 in
theorem fill_err (b B size : Nat) (f : Nat → Int) (L : List (Nat × Nat)) (addr n v : Int) (w : World) (h : MemAt w b B size f L)
    (ha : 0 ≤ addr) (ha' : addr ≤ 18446744073709551615) (hn : -9223372036854775808 ≤ n) (hn' : n ≤ 9223372036854775807) (hc : (chk size addr n != 0) = true) :
   Calls Try.prog 22 #[.pointer (some ⟨b, 0, none⟩), .int .u64 addr, .int .i64 n, .int .u8 v] w fun e w' =>
     e = .returned (.int .i64 (chk size addr n)) ∧ Below w.heap.size w w' := by
  have hM := Lib.hid h
  have hlt := h.lt
  have hlt' := h.lt'
  have HC := Lib.hid hc
  generalize hk : chk size addr n = k at *
  have HK := Lib.hid hk
  clear h hc hk
  go_enter Try.func22, Try.ntmps22
  go_wp2_with fail
  refine (put_err b B size f L addr n _ _ (hM.out.kept (((Keeps.refl (fun _ => False) w).alloc _)) (fun h => h) (fun h => h)) ha ha' hn hn' (by rw [HK.out]; exact HC.out)).mono ?_
  rw [HK.out]
  rintro e w1 ⟨rfl, hk⟩
  go_wp2_with fail
  go_ret
  exact ⟨rfl, ((Below.refl _ w).alloc (Nat.le_refl _) _).trans (hk.mono (by simp))⟩

set_option maxHeartbeats 1000000 in
theorem fill_nil (addr n v : Int) (w : World) :
   Calls Try.prog 22 #[.pointer none, .int .u64 addr, .int .i64 n, .int .u8 v] w fun e w' =>
     e = .returned (.int .i64 1) ∧ Below w.heap.size w w' := by
  go_enter Try.func22, Try.ntmps22
  go_wp2_with fail
  refine (put_nil _ _ _ _).mono ?_
  rintro e w1 ⟨rfl, rfl⟩
  go_wp2_with fail
  go_ret
  exact ⟨rfl, ((Below.refl _ w).alloc (Nat.le_refl _) _)⟩

set_option maxHeartbeats 1000000 in
theorem fill_zero (b k m : Nat) (addr n v : Int) (w : World) (h : w.cell? ⟨b, 769, none⟩ = some (.slice none m k)) :
   Calls Try.prog 22 #[.pointer (some ⟨b, 0, none⟩), .int .u64 addr, .int .i64 n, .int .u8 v] w fun e w' =>
     e = .returned (.int .i64 1) ∧ Below w.heap.size w w' := by
  have hlt := World.block_lt_of_cell? _ _ h
  simp only [] at hlt
  have H := Lib.hid h
  clear h
  go_enter Try.func22, Try.ntmps22
  go_wp2_with fail
  refine (put_zero b k m _ _ _ _ ((Keeps.cell ((Keeps.refl (fun _ => False) w).alloc _) H.out (fun h => h)))).mono ?_
  rintro e w1 ⟨rfl, rfl⟩
  go_wp2_with fail
  go_ret
  exact ⟨rfl, ((Below.refl _ w).alloc (Nat.le_refl _) _)⟩

set_option maxHeartbeats 1000000 in
theorem size_made (b B size cap : Nat) (w : World) (h : w.cell? ⟨b, 769, none⟩ = some (.slice (some ⟨B, 0, none⟩) size cap)) :
   Calls Try.prog 13 #[.pointer (some ⟨b, 0, none⟩)] w fun e w' => e = .returned (.int .i64 size) ∧ w = w' := by
  go_enter Try.func13, Try.ntmps13
  go_wp2_with (first | (go_at_call 39; refine (none_some _ _ _ _ _ h).mono ?_; rintro e w' ⟨rfl, rfl⟩))
  go_ret
  exact ⟨rfl, rfl⟩

set_option maxHeartbeats 1000000 in
theorem size_nil (w : World) :
   Calls Try.prog 13 #[.pointer none] w fun e w' => e = .returned (.int .i64 0) ∧ w = w' := by
  go_enter Try.func13, Try.ntmps13
  go_wp2_with (first | (go_at_call 39; refine (none_nil _).mono ?_; rintro e w' ⟨rfl, rfl⟩))
  go_ret
  exact ⟨rfl, rfl⟩

set_option maxHeartbeats 1000000 in
theorem size_zero (b m k : Nat) (w : World) (h : w.cell? ⟨b, 769, none⟩ = some (.slice none m k)) :
   Calls Try.prog 13 #[.pointer (some ⟨b, 0, none⟩)] w fun e w' => e = .returned (.int .i64 0) ∧ w = w' := by
  go_enter Try.func13, Try.ntmps13
  go_wp2_with (first | (go_at_call 39; refine (none_some _ _ _ _ _ h).mono ?_; rintro e w' ⟨rfl, rfl⟩))
  go_ret
  exact ⟨rfl, rfl⟩

end Go.Proofs.Ytfploifafpifnaa
