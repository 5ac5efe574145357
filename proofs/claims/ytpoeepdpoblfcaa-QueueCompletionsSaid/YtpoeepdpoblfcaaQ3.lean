/- queue: New, state, Size, and the other methods that only read; Copy; Head and Ring that take a head over. -/
import Derived.Test.YtpoeepdpoblfcaaQ2
namespace Go.Proofs.Ytpoeepdpoblfcaa
open Go.RowKit

theorem qat_fresh3 (w : World) (T n h t : Nat) (ph : Bool) (hn : 2 ≤ n) (hn' : n ≤ 4096) (hh : h < n) (ht : t < n) : QAt T 3 (w.alloc (.cells #[.int .i64 n, .int .i64 h, .int .i64 t] T)) w.heap.size n h t ph :=
  ⟨World.rowIs_alloc w _ _ _ (fun i hi => by match i, hi with | 0, _ => rfl | 1, _ => rfl | 2, _ => rfl), by omega, by omega, hn, hn', hh, ht⟩
theorem qat_fresh4 (w : World) (T n h t : Nat) (ph : Bool) (hn : 2 ≤ n) (hn' : n ≤ 4096) (hh : h < n) (ht : t < n) : QAt T 4 (w.alloc (.cells #[.int .i64 n, .int .i64 h, .int .i64 t, .bool ph] T)) w.heap.size n h t ph :=
  ⟨World.rowIs_alloc w _ _ _ (fun i hi => by match i, hi with | 0, _ => rfl | 1, _ => rfl | 2, _ => rfl | 3, _ => rfl), by omega, by omega, hn, hn', hh, ht⟩
@[go_sem] theorem fld0 (x y z : Int) (w : World) : (Instr.field 89 (.agg #[.int .i64 x, .int .i64 y, .int .i64 z]) 0).run Try.prog w = .ok (.int .i64 x) w := by kernel_rfl
@[go_sem] theorem fld1 (x y z : Int) (w : World) : (Instr.field 89 (.agg #[.int .i64 x, .int .i64 y, .int .i64 z]) 1).run Try.prog w = .ok (.int .i64 y) w := by kernel_rfl
@[go_sem] theorem fld2 (x y z : Int) (w : World) : (Instr.field 89 (.agg #[.int .i64 x, .int .i64 y, .int .i64 z]) 2).run Try.prog w = .ok (.int .i64 z) w := by kernel_rfl
theorem bset {B : Nat} {a b : World} (h : Below B a b) (g i : Nat) (hg : B ≤ g) (u : Value) : Below B a (b.setCell ⟨g, i, none⟩ u) := h.setCell (p := ⟨g, i, none⟩) hg u
/-- A new end. -/
def NewQ (T m n h t : Nat) (ph : Bool) (w : World) (v : Value) (w' : World) : Prop := ∃ g, v = .pointer (some ⟨g, 0, none⟩) ∧ w.heap.size ≤ g ∧ Below w.heap.size w w' ∧ QAt T m w' g n h t ph

set_option maxRecDepth 100000 in
set_option maxHeartbeats 1000000 in
theorem sstate_any (g : Nat) (x y z : Int) (w : World) (c0 : w.cell? ⟨g, 0, none⟩ = some (.int .i64 x)) (c1 : w.cell? ⟨g, 1, none⟩ = some (.int .i64 y)) (c2 : w.cell? ⟨g, 2, none⟩ = some (.int .i64 z)) :
    Calls Try.prog 62 #[.pointer (some ⟨g, 0, none⟩)] w fun e w' => e = .returned (.agg #[.int .i64 x, .int .i64 y, .int .i64 z]) ∧ Below w.heap.size w w' := by
  have l0 := World.block_lt_of_cell? _ _ c0
  go_enter Try.func62, Try.ntmps62
  go_wp2_with fail
  exact bodyPost_ret (v := .agg #[.int .i64 x, .int .i64 y, .int .i64 z]) (by simp [results, Try.results62, go_sem]) rfl ⟨rfl, (Below.refl _ _).alloc (Nat.le_refl _) _⟩

set_option maxRecDepth 100000 in
set_option maxHeartbeats 1000000 in
theorem sstate_nil (w : World) : Calls Try.prog 62 #[.pointer none] w fun e w' => e = .returned (.agg #[.int .i64 0, .int .i64 0, .int .i64 0]) ∧ Below w.heap.size w w' := by
  go_enter Try.func62, Try.ntmps62
  go_wp2_with fail
  exact bodyPost_ret (v := .agg #[.int .i64 0, .int .i64 0, .int .i64 0]) (by simp [results, Try.results62, go_sem]) rfl ⟨rfl, (Below.refl _ _).alloc (Nat.le_refl _) _⟩

set_option maxRecDepth 100000 in
set_option maxHeartbeats 1000000 in
theorem sSize_any (g : Nat) (x y z : Int) (w : World) (c0 : w.cell? ⟨g, 0, none⟩ = some (.int .i64 x)) (c1 : w.cell? ⟨g, 1, none⟩ = some (.int .i64 y)) (c2 : w.cell? ⟨g, 2, none⟩ = some (.int .i64 z)) :
    Calls Try.prog 36 #[.pointer (some ⟨g, 0, none⟩)] w fun e w' => e = .returned (.int .i64 x) ∧ Below w.heap.size w w' := by
  have HC := Lib.hid (sstate_any g x y z w c0 c1 c2)
  clear c0 c1 c2
  go_enter Try.func36, Try.ntmps36
  go_wp2_with fail
  refine HC.out.mono ?_
  rintro e w1 ⟨rfl, hb⟩
  go_wp2_with fail
  go_ret
  exact ⟨rfl, hb⟩

set_option maxRecDepth 100000 in
set_option maxHeartbeats 1000000 in
theorem sSize_nil (w : World) : Calls Try.prog 36 #[.pointer none] w fun e w' => e = .returned (.int .i64 0) ∧ Below w.heap.size w w' := by
  go_enter Try.func36, Try.ntmps36
  go_wp2_with fail
  refine (sstate_nil w).mono ?_
  rintro e w1 ⟨rfl, hb⟩
  go_wp2_with fail
  go_ret
  exact ⟨rfl, hb⟩

theorem sSize_ok (T m g n h t : Nat) (ph : Bool) (w : World) (q : QAt T m w g n h t ph) : Calls Try.prog 36 #[.pointer (some ⟨g, 0, none⟩)] w fun e w' => e = .returned (.int .i64 n) ∧ Below w.heap.size w w' := sSize_any g n h t w q.c0 q.c1 q.c2

set_option maxRecDepth 100000 in
set_option maxHeartbeats 1000000 in
theorem sTail_any (g : Nat) (x y z : Int) (w : World) (c0 : w.cell? ⟨g, 0, none⟩ = some (.int .i64 x)) (c1 : w.cell? ⟨g, 1, none⟩ = some (.int .i64 y)) (c2 : w.cell? ⟨g, 2, none⟩ = some (.int .i64 z)) :
    Calls Try.prog 32 #[.pointer (some ⟨g, 0, none⟩)] w fun e w' => e = .returned (.int .i64 z) ∧ Below w.heap.size w w' := by
  have HC := Lib.hid (sstate_any g x y z w c0 c1 c2)
  clear c0 c1 c2
  go_enter Try.func32, Try.ntmps32
  go_wp2_with fail
  refine HC.out.mono ?_
  rintro e w1 ⟨rfl, hb⟩
  go_wp2_with fail
  go_ret
  exact ⟨rfl, hb⟩

set_option maxRecDepth 100000 in
set_option maxHeartbeats 1000000 in
theorem sTail_nil (w : World) : Calls Try.prog 32 #[.pointer none] w fun e w' => e = .returned (.int .i64 0) ∧ Below w.heap.size w w' := by
  go_enter Try.func32, Try.ntmps32
  go_wp2_with fail
  refine (sstate_nil w).mono ?_
  rintro e w1 ⟨rfl, hb⟩
  go_wp2_with fail
  go_ret
  exact ⟨rfl, hb⟩

theorem sTail_ok (T m g n h t : Nat) (ph : Bool) (w : World) (q : QAt T m w g n h t ph) : Calls Try.prog 32 #[.pointer (some ⟨g, 0, none⟩)] w fun e w' => e = .returned (.int .i64 t) ∧ Below w.heap.size w w' := sTail_any g n h t w q.c0 q.c1 q.c2

set_option maxRecDepth 100000 in
set_option maxHeartbeats 1000000 in
theorem sFree_ok (T m g n h t : Nat) (ph : Bool) (w : World) (q : QAt T m w g n h t ph) : Calls Try.prog 31 #[.pointer (some ⟨g, 0, none⟩)] w fun e w' => e = .returned (.int .i64 ((n : Int) - 1 - (usd n h t : Nat))) ∧ Below w.heap.size w w' := by
  have HC := Lib.hid (sstate_any g n h t w q.c0 q.c1 q.c2)
  have HQ := Lib.hid q
  clear q
  go_enter Try.func31, Try.ntmps31
  go_wp2_with fail
  refine HC.out.mono ?_
  rintro e w1 ⟨rfl, hb⟩
  go_wp2_with fail
  refine (free_ok n h t w1 HQ.out.n2 HQ.out.n4 HQ.out.hh HQ.out.ht).mono ?_
  rintro e w2 ⟨rfl, hb2⟩
  have HB := Lib.hid (hb.trans (hb2.mono hb.size))
  clear hb hb2
  go_wp2_with fail
  go_ret
  exact ⟨rfl, HB.out⟩

set_option maxRecDepth 100000 in
set_option maxHeartbeats 1000000 in
theorem sHead_no (T m g n h t : Nat) (ph : Bool) (k : Int) (w : World) (q : QAt T m w g n h t ph) (hk : k < 0 ∨ (n : Int) ≤ k) :
    Calls Try.prog 33 #[.pointer (some ⟨g, 0, none⟩), .int .i64 k] w fun e w' => e = .returned (.int .i64 3) ∧ Below w.heap.size w w' := by
  have HQ := Lib.hid q
  have HK := Lib.hid hk
  clear q hk
  go_enter Try.func33, Try.ntmps33
  go_wp2_with fail
  refine (release_no T m g n h t ph k w HQ.out HK.out).mono ?_
  rintro e w1 ⟨rfl, hb⟩
  go_wp2_with fail
  go_ret
  exact ⟨rfl, hb⟩

set_option maxRecDepth 100000 in
set_option maxHeartbeats 1000000 in
theorem sHead_far (T m g n h t : Nat) (ph : Bool) (k : Nat) (w : World) (q : QAt T m w g n h t ph) (hk : k < n) (hf : usd n h t < usd n h k) :
    Calls Try.prog 33 #[.pointer (some ⟨g, 0, none⟩), .int .i64 k] w fun e w' => e = .returned (.int .i64 3) ∧ Below w.heap.size w w' := by
  have HQ := Lib.hid q
  have HK := Lib.hid hk
  have HF := Lib.hid hf
  clear q hk hf
  go_enter Try.func33, Try.ntmps33
  go_wp2_with fail
  refine (release_far T m g n h t ph k w HQ.out HK.out HF.out).mono ?_
  rintro e w1 ⟨rfl, hb⟩
  go_wp2_with fail
  go_ret
  exact ⟨rfl, hb⟩

set_option maxRecDepth 100000 in
set_option maxHeartbeats 1000000 in
theorem sHead_ok (T m g n h t : Nat) (ph : Bool) (k : Nat) (w : World) (q : QAt T m w g n h t ph) (hk : k < n) (hf : usd n h k ≤ usd n h t) :
    Calls Try.prog 33 #[.pointer (some ⟨g, 0, none⟩), .int .i64 k] w fun e w' => e = .returned (.int .i64 0) ∧ Keeps (One g) w w' ∧ QAt T m w' g n k t ph := by
  have HQ := Lib.hid q
  have HK := Lib.hid hk
  have HF := Lib.hid hf
  clear q hk hf
  go_enter Try.func33, Try.ntmps33
  go_wp2_with fail
  refine (release_ok T m g n h t ph k w HQ.out HK.out HF.out).mono ?_
  rintro e w1 ⟨rfl, hb⟩
  go_wp2_with fail
  go_ret
  exact ⟨rfl, hb⟩

set_option maxRecDepth 100000 in
set_option maxHeartbeats 1000000 in
theorem snew1_ok (n : Nat) (w : World) (hn : 2 ≤ n) (hn' : n ≤ 4096) : Calls Try.prog 61 #[.agg #[.int .i64 n, .int .i64 0, .int .i64 0]] w fun e w' => ∃ v, e = .returned v ∧ NewQ 91 3 n 0 0 true w v w' := by
  go_enter Try.func61, Try.ntmps61
  go_wp2_with fail
  go_ret
  refine ⟨_, rfl, _, rfl, ?_, ((Below.refl _ _).alloc (Nat.le_refl _) _).alloc (by simp) _, ?_⟩
  · simp
  · have := qat_fresh3 (w.alloc (.cells #[.int .i64 n, .int .i64 0, .int .i64 0] 89)) 91 n 0 0 true hn hn' (by omega) (by omega)
    simpa using this

set_option maxRecDepth 100000 in
set_option maxHeartbeats 1000000 in
theorem smade_ok (n : Nat) (w : World) (hn : 2 ≤ n) (hn' : n ≤ 4096) : Calls Try.prog 60 #[.int .i64 n, .func (.func 61) #[] #[]] w fun e w' => ∃ v, e = .returned (.tuple #[v, .int .i64 0]) ∧ NewQ 91 3 n 0 0 true w v w' := by
  have d1 : decide ((n : Int) < 2) = false := by simp; omega
  have d2 : decide ((4096 : Int) < (n : Int)) = false := by simp; omega
  have d3 : decide (n < 2) = false := by simp; omega
  have d4 : decide (4096 < n) = false := by simp; omega
  go_enter Try.func60, Try.ntmps60
  go_wp2_with fail
  refine (snew1_ok n w hn hn').mono ?_
  rintro e w1 ⟨v, rfl, hv⟩
  have HV := Lib.hid hv
  clear hv
  go_wp2_with fail
  go_ret2
  exact ⟨_, rfl, HV.out⟩

set_option maxRecDepth 100000 in
set_option maxHeartbeats 1000000 in
theorem sNew_ok (n : Nat) (w : World) (hn : 2 ≤ n) (hn' : n ≤ 4096) : Calls Try.prog 29 #[.int .i64 n] w fun e w' => ∃ v, e = .returned (.tuple #[v, .int .i64 0]) ∧ NewQ 91 3 n 0 0 true w v w' := by
  go_enter Try.func29, Try.ntmps29
  go_wp2_with fail
  refine (smade_ok n w hn hn').mono ?_
  rintro e w1 ⟨v, rfl, hv⟩
  have HV := Lib.hid hv
  clear hv
  go_wp2_with fail
  go_ret2
  exact ⟨_, rfl, HV.out⟩

set_option maxRecDepth 100000 in
set_option maxHeartbeats 1000000 in
theorem smade_err (n : Int) (w : World) (hn : n < 2 ∨ 4096 < n) : Calls Try.prog 60 #[.int .i64 n, .func (.func 61) #[] #[]] w fun e w' => e = .returned (.tuple #[.pointer none, .int .i64 2]) ∧ w = w' := by
  by_cases h : n < 2
  · have d1 : decide (n < 2) = true := by simpa using h
    clear hn h
    go_enter Try.func60, Try.ntmps60
    go_wp2_with fail
    go_ret2
    exact ⟨rfl, rfl⟩
  · have d1 : decide (n < 2) = false := by simpa using h
    have d2 : decide (4096 < n) = true := by simp; omega
    clear hn h
    go_enter Try.func60, Try.ntmps60
    go_wp2_with fail
    go_ret2
    exact ⟨rfl, rfl⟩

set_option maxRecDepth 100000 in
set_option maxHeartbeats 1000000 in
theorem sNew_err (n : Int) (w : World) (hn : n < 2 ∨ 4096 < n) : Calls Try.prog 29 #[.int .i64 n] w fun e w' => e = .returned (.tuple #[.pointer none, .int .i64 2]) ∧ w = w' := by
  have HN := Lib.hid hn
  clear hn
  go_enter Try.func29, Try.ntmps29
  go_wp2_with fail
  refine (smade_err n w HN.out).mono ?_
  rintro e w1 ⟨rfl, rfl⟩
  go_wp2_with fail
  go_ret2
  exact ⟨rfl, rfl⟩

set_option maxRecDepth 100000 in
set_option maxHeartbeats 1000000 in
theorem sCopy_ok (T g n h t : Nat) (ph : Bool) (w : World) (q : QAt T 3 w g n h t ph) : Calls Try.prog 43 #[.pointer (some ⟨g, 0, none⟩)] w fun e w' => ∃ v, e = .returned v ∧ NewQ 91 3 n h t ph w v w' := by
  have HS := Lib.hid (sSize_ok T 3 g n h t ph w q)
  have HQ := Lib.hid q
  have hn2 := q.n2
  have d0 : ((n : Int) == 0) = false := by simp; omega
  clear q
  go_enter Try.func43, Try.ntmps43
  go_wp2_with fail
  refine HS.out.mono ?_
  rintro e w1 ⟨rfl, hb⟩
  have HQ1 := Lib.hid (HQ.out.below hb)
  have c0 := HQ1.out.c0
  have c1 := HQ1.out.c1
  have c2 := HQ1.out.c2
  have hs := hb.size
  have HB := Lib.hid hb
  clear hb
  go_wp2_with fail
  go_ret
  refine ⟨_, rfl, _, rfl, hs, HB.out.alloc hs _, ?_⟩
  exact qat_fresh3 w1 91 n h t ph HQ.out.n2 HQ.out.n4 HQ.out.hh HQ.out.ht

set_option maxRecDepth 100000 in
set_option maxHeartbeats 1000000 in
theorem fstate_any (g : Nat) (x y z : Int) (w : World) (c0 : w.cell? ⟨g, 0, none⟩ = some (.int .i64 x)) (c1 : w.cell? ⟨g, 1, none⟩ = some (.int .i64 y)) (c2 : w.cell? ⟨g, 2, none⟩ = some (.int .i64 z)) :
    Calls Try.prog 55 #[.pointer (some ⟨g, 0, none⟩)] w fun e w' => e = .returned (.agg #[.int .i64 x, .int .i64 y, .int .i64 z]) ∧ Below w.heap.size w w' := by
  have l0 := World.block_lt_of_cell? _ _ c0
  go_enter Try.func55, Try.ntmps55
  go_wp2_with fail
  exact bodyPost_ret (v := .agg #[.int .i64 x, .int .i64 y, .int .i64 z]) (by simp [results, Try.results55, go_sem]) rfl ⟨rfl, (Below.refl _ _).alloc (Nat.le_refl _) _⟩

set_option maxRecDepth 100000 in
set_option maxHeartbeats 1000000 in
theorem fstate_nil (w : World) : Calls Try.prog 55 #[.pointer none] w fun e w' => e = .returned (.agg #[.int .i64 0, .int .i64 0, .int .i64 0]) ∧ Below w.heap.size w w' := by
  go_enter Try.func55, Try.ntmps55
  go_wp2_with fail
  exact bodyPost_ret (v := .agg #[.int .i64 0, .int .i64 0, .int .i64 0]) (by simp [results, Try.results55, go_sem]) rfl ⟨rfl, (Below.refl _ _).alloc (Nat.le_refl _) _⟩

set_option maxRecDepth 100000 in
set_option maxHeartbeats 1000000 in
theorem fSize_any (g : Nat) (x y z : Int) (w : World) (c0 : w.cell? ⟨g, 0, none⟩ = some (.int .i64 x)) (c1 : w.cell? ⟨g, 1, none⟩ = some (.int .i64 y)) (c2 : w.cell? ⟨g, 2, none⟩ = some (.int .i64 z)) :
    Calls Try.prog 22 #[.pointer (some ⟨g, 0, none⟩)] w fun e w' => e = .returned (.int .i64 x) ∧ Below w.heap.size w w' := by
  have HC := Lib.hid (fstate_any g x y z w c0 c1 c2)
  clear c0 c1 c2
  go_enter Try.func22, Try.ntmps22
  go_wp2_with fail
  refine HC.out.mono ?_
  rintro e w1 ⟨rfl, hb⟩
  go_wp2_with fail
  go_ret
  exact ⟨rfl, hb⟩

set_option maxRecDepth 100000 in
set_option maxHeartbeats 1000000 in
theorem fSize_nil (w : World) : Calls Try.prog 22 #[.pointer none] w fun e w' => e = .returned (.int .i64 0) ∧ Below w.heap.size w w' := by
  go_enter Try.func22, Try.ntmps22
  go_wp2_with fail
  refine (fstate_nil w).mono ?_
  rintro e w1 ⟨rfl, hb⟩
  go_wp2_with fail
  go_ret
  exact ⟨rfl, hb⟩

theorem fSize_ok (T m g n h t : Nat) (ph : Bool) (w : World) (q : QAt T m w g n h t ph) : Calls Try.prog 22 #[.pointer (some ⟨g, 0, none⟩)] w fun e w' => e = .returned (.int .i64 n) ∧ Below w.heap.size w w' := fSize_any g n h t w q.c0 q.c1 q.c2

set_option maxRecDepth 100000 in
set_option maxHeartbeats 1000000 in
theorem fHead_any (g : Nat) (x y z : Int) (w : World) (c0 : w.cell? ⟨g, 0, none⟩ = some (.int .i64 x)) (c1 : w.cell? ⟨g, 1, none⟩ = some (.int .i64 y)) (c2 : w.cell? ⟨g, 2, none⟩ = some (.int .i64 z)) :
    Calls Try.prog 19 #[.pointer (some ⟨g, 0, none⟩)] w fun e w' => e = .returned (.int .i64 y) ∧ Below w.heap.size w w' := by
  have HC := Lib.hid (fstate_any g x y z w c0 c1 c2)
  clear c0 c1 c2
  go_enter Try.func19, Try.ntmps19
  go_wp2_with fail
  refine HC.out.mono ?_
  rintro e w1 ⟨rfl, hb⟩
  go_wp2_with fail
  go_ret
  exact ⟨rfl, hb⟩

set_option maxRecDepth 100000 in
set_option maxHeartbeats 1000000 in
theorem fHead_nil (w : World) : Calls Try.prog 19 #[.pointer none] w fun e w' => e = .returned (.int .i64 0) ∧ Below w.heap.size w w' := by
  go_enter Try.func19, Try.ntmps19
  go_wp2_with fail
  refine (fstate_nil w).mono ?_
  rintro e w1 ⟨rfl, hb⟩
  go_wp2_with fail
  go_ret
  exact ⟨rfl, hb⟩

theorem fHead_ok (T m g n h t : Nat) (ph : Bool) (w : World) (q : QAt T m w g n h t ph) : Calls Try.prog 19 #[.pointer (some ⟨g, 0, none⟩)] w fun e w' => e = .returned (.int .i64 h) ∧ Below w.heap.size w w' := fHead_any g n h t w q.c0 q.c1 q.c2

set_option maxRecDepth 100000 in
set_option maxHeartbeats 1000000 in
theorem fnew1_ok (n : Nat) (w : World) (hn : 2 ≤ n) (hn' : n ≤ 4096) : Calls Try.prog 48 #[.agg #[.int .i64 n, .int .i64 0, .int .i64 0]] w fun e w' => ∃ v, e = .returned v ∧ NewQ 93 3 n 0 0 true w v w' := by
  go_enter Try.func48, Try.ntmps48
  go_wp2_with fail
  go_ret
  refine ⟨_, rfl, _, rfl, ?_, ((Below.refl _ _).alloc (Nat.le_refl _) _).alloc (by simp) _, ?_⟩
  · simp
  · have := qat_fresh3 (w.alloc (.cells #[.int .i64 n, .int .i64 0, .int .i64 0] 89)) 93 n 0 0 true hn hn' (by omega) (by omega)
    simpa using this

set_option maxRecDepth 100000 in
set_option maxHeartbeats 1000000 in
theorem fmade_ok (n : Nat) (w : World) (hn : 2 ≤ n) (hn' : n ≤ 4096) : Calls Try.prog 47 #[.int .i64 n, .func (.func 48) #[] #[]] w fun e w' => ∃ v, e = .returned (.tuple #[v, .int .i64 0]) ∧ NewQ 93 3 n 0 0 true w v w' := by
  have d1 : decide ((n : Int) < 2) = false := by simp; omega
  have d2 : decide ((4096 : Int) < (n : Int)) = false := by simp; omega
  have d3 : decide (n < 2) = false := by simp; omega
  have d4 : decide (4096 < n) = false := by simp; omega
  go_enter Try.func47, Try.ntmps47
  go_wp2_with fail
  refine (fnew1_ok n w hn hn').mono ?_
  rintro e w1 ⟨v, rfl, hv⟩
  have HV := Lib.hid hv
  clear hv
  go_wp2_with fail
  go_ret2
  exact ⟨_, rfl, HV.out⟩

set_option maxRecDepth 100000 in
set_option maxHeartbeats 1000000 in
theorem fNew_ok (n : Nat) (w : World) (hn : 2 ≤ n) (hn' : n ≤ 4096) : Calls Try.prog 11 #[.int .i64 n] w fun e w' => ∃ v, e = .returned (.tuple #[v, .int .i64 0]) ∧ NewQ 93 3 n 0 0 true w v w' := by
  go_enter Try.func11, Try.ntmps11
  go_wp2_with fail
  refine (fmade_ok n w hn hn').mono ?_
  rintro e w1 ⟨v, rfl, hv⟩
  have HV := Lib.hid hv
  clear hv
  go_wp2_with fail
  go_ret2
  exact ⟨_, rfl, HV.out⟩

set_option maxRecDepth 100000 in
set_option maxHeartbeats 1000000 in
theorem fmade_err (n : Int) (w : World) (hn : n < 2 ∨ 4096 < n) : Calls Try.prog 47 #[.int .i64 n, .func (.func 48) #[] #[]] w fun e w' => e = .returned (.tuple #[.pointer none, .int .i64 2]) ∧ w = w' := by
  by_cases h : n < 2
  · have d1 : decide (n < 2) = true := by simpa using h
    clear hn h
    go_enter Try.func47, Try.ntmps47
    go_wp2_with fail
    go_ret2
    exact ⟨rfl, rfl⟩
  · have d1 : decide (n < 2) = false := by simpa using h
    have d2 : decide (4096 < n) = true := by simp; omega
    clear hn h
    go_enter Try.func47, Try.ntmps47
    go_wp2_with fail
    go_ret2
    exact ⟨rfl, rfl⟩

set_option maxRecDepth 100000 in
set_option maxHeartbeats 1000000 in
theorem fNew_err (n : Int) (w : World) (hn : n < 2 ∨ 4096 < n) : Calls Try.prog 11 #[.int .i64 n] w fun e w' => e = .returned (.tuple #[.pointer none, .int .i64 2]) ∧ w = w' := by
  have HN := Lib.hid hn
  clear hn
  go_enter Try.func11, Try.ntmps11
  go_wp2_with fail
  refine (fmade_err n w HN.out).mono ?_
  rintro e w1 ⟨rfl, rfl⟩
  go_wp2_with fail
  go_ret2
  exact ⟨rfl, rfl⟩

set_option maxRecDepth 100000 in
set_option maxHeartbeats 1000000 in
theorem fCopy_ok (T g n h t : Nat) (ph : Bool) (w : World) (q : QAt T 3 w g n h t ph) : Calls Try.prog 44 #[.pointer (some ⟨g, 0, none⟩)] w fun e w' => ∃ v, e = .returned v ∧ NewQ 93 3 n h t ph w v w' := by
  have HS := Lib.hid (fSize_ok T 3 g n h t ph w q)
  have HQ := Lib.hid q
  have hn2 := q.n2
  have d0 : ((n : Int) == 0) = false := by simp; omega
  clear q
  go_enter Try.func44, Try.ntmps44
  go_wp2_with fail
  refine HS.out.mono ?_
  rintro e w1 ⟨rfl, hb⟩
  have HQ1 := Lib.hid (HQ.out.below hb)
  have c0 := HQ1.out.c0
  have c1 := HQ1.out.c1
  have c2 := HQ1.out.c2
  have hs := hb.size
  have HB := Lib.hid hb
  clear hb
  go_wp2_with fail
  go_ret
  refine ⟨_, rfl, _, rfl, hs, HB.out.alloc hs _, ?_⟩
  exact qat_fresh3 w1 93 n h t ph HQ.out.n2 HQ.out.n4 HQ.out.hh HQ.out.ht

set_option maxRecDepth 100000 in
set_option maxHeartbeats 1000000 in
theorem pstate_any (g : Nat) (x y z : Int) (w : World) (c0 : w.cell? ⟨g, 0, none⟩ = some (.int .i64 x)) (c1 : w.cell? ⟨g, 1, none⟩ = some (.int .i64 y)) (c2 : w.cell? ⟨g, 2, none⟩ = some (.int .i64 z)) :
    Calls Try.prog 70 #[.pointer (some ⟨g, 0, none⟩)] w fun e w' => e = .returned (.agg #[.int .i64 x, .int .i64 y, .int .i64 z]) ∧ Below w.heap.size w w' := by
  have l0 := World.block_lt_of_cell? _ _ c0
  go_enter Try.func70, Try.ntmps70
  go_wp2_with fail
  exact bodyPost_ret (v := .agg #[.int .i64 x, .int .i64 y, .int .i64 z]) (by simp [results, Try.results70, go_sem]) rfl ⟨rfl, (Below.refl _ _).alloc (Nat.le_refl _) _⟩

set_option maxRecDepth 100000 in
set_option maxHeartbeats 1000000 in
theorem pstate_nil (w : World) : Calls Try.prog 70 #[.pointer none] w fun e w' => e = .returned (.agg #[.int .i64 0, .int .i64 0, .int .i64 0]) ∧ Below w.heap.size w w' := by
  go_enter Try.func70, Try.ntmps70
  go_wp2_with fail
  exact bodyPost_ret (v := .agg #[.int .i64 0, .int .i64 0, .int .i64 0]) (by simp [results, Try.results70, go_sem]) rfl ⟨rfl, (Below.refl _ _).alloc (Nat.le_refl _) _⟩

set_option maxRecDepth 100000 in
set_option maxHeartbeats 1000000 in
theorem pSize_any (g : Nat) (x y z : Int) (w : World) (c0 : w.cell? ⟨g, 0, none⟩ = some (.int .i64 x)) (c1 : w.cell? ⟨g, 1, none⟩ = some (.int .i64 y)) (c2 : w.cell? ⟨g, 2, none⟩ = some (.int .i64 z)) :
    Calls Try.prog 42 #[.pointer (some ⟨g, 0, none⟩)] w fun e w' => e = .returned (.int .i64 x) ∧ Below w.heap.size w w' := by
  have HC := Lib.hid (pstate_any g x y z w c0 c1 c2)
  clear c0 c1 c2
  go_enter Try.func42, Try.ntmps42
  go_wp2_with fail
  refine HC.out.mono ?_
  rintro e w1 ⟨rfl, hb⟩
  go_wp2_with fail
  go_ret
  exact ⟨rfl, hb⟩

set_option maxRecDepth 100000 in
set_option maxHeartbeats 1000000 in
theorem pSize_nil (w : World) : Calls Try.prog 42 #[.pointer none] w fun e w' => e = .returned (.int .i64 0) ∧ Below w.heap.size w w' := by
  go_enter Try.func42, Try.ntmps42
  go_wp2_with fail
  refine (pstate_nil w).mono ?_
  rintro e w1 ⟨rfl, hb⟩
  go_wp2_with fail
  go_ret
  exact ⟨rfl, hb⟩

theorem pSize_ok (T m g n h t : Nat) (ph : Bool) (w : World) (q : QAt T m w g n h t ph) : Calls Try.prog 42 #[.pointer (some ⟨g, 0, none⟩)] w fun e w' => e = .returned (.int .i64 n) ∧ Below w.heap.size w w' := pSize_any g n h t w q.c0 q.c1 q.c2

set_option maxRecDepth 100000 in
set_option maxHeartbeats 1000000 in
theorem pFree_ok (T m g n h t : Nat) (ph : Bool) (w : World) (q : QAt T m w g n h t ph) : Calls Try.prog 41 #[.pointer (some ⟨g, 0, none⟩)] w fun e w' => e = .returned (.int .i64 ((n : Int) - 1 - (usd n h t : Nat))) ∧ Below w.heap.size w w' := by
  have HC := Lib.hid (pstate_any g n h t w q.c0 q.c1 q.c2)
  have HQ := Lib.hid q
  clear q
  go_enter Try.func41, Try.ntmps41
  go_wp2_with fail
  refine HC.out.mono ?_
  rintro e w1 ⟨rfl, hb⟩
  go_wp2_with fail
  refine (free_ok n h t w1 HQ.out.n2 HQ.out.n4 HQ.out.hh HQ.out.ht).mono ?_
  rintro e w2 ⟨rfl, hb2⟩
  have HB := Lib.hid (hb.trans (hb2.mono hb.size))
  clear hb hb2
  go_wp2_with fail
  go_ret
  exact ⟨rfl, HB.out⟩

set_option maxRecDepth 100000 in
set_option maxHeartbeats 1000000 in
theorem pRing_no (T m g n h t : Nat) (ph : Bool) (k : Int) (w : World) (q : QAt T m w g n h t ph) (hk : k < 0 ∨ (n : Int) ≤ k) :
    Calls Try.prog 40 #[.pointer (some ⟨g, 0, none⟩), .int .i64 k] w fun e w' => e = .returned (.int .i64 3) ∧ Below w.heap.size w w' := by
  have HQ := Lib.hid q
  have HK := Lib.hid hk
  clear q hk
  go_enter Try.func40, Try.ntmps40
  go_wp2_with fail
  refine (release_no T m g n h t ph k w HQ.out HK.out).mono ?_
  rintro e w1 ⟨rfl, hb⟩
  go_wp2_with fail
  go_ret
  exact ⟨rfl, hb⟩

set_option maxRecDepth 100000 in
set_option maxHeartbeats 1000000 in
theorem pRing_far (T m g n h t : Nat) (ph : Bool) (k : Nat) (w : World) (q : QAt T m w g n h t ph) (hk : k < n) (hf : usd n h t < usd n h k) :
    Calls Try.prog 40 #[.pointer (some ⟨g, 0, none⟩), .int .i64 k] w fun e w' => e = .returned (.int .i64 3) ∧ Below w.heap.size w w' := by
  have HQ := Lib.hid q
  have HK := Lib.hid hk
  have HF := Lib.hid hf
  clear q hk hf
  go_enter Try.func40, Try.ntmps40
  go_wp2_with fail
  refine (release_far T m g n h t ph k w HQ.out HK.out HF.out).mono ?_
  rintro e w1 ⟨rfl, hb⟩
  go_wp2_with fail
  go_ret
  exact ⟨rfl, hb⟩

set_option maxRecDepth 100000 in
set_option maxHeartbeats 1000000 in
theorem pRing_ok (T m g n h t : Nat) (ph : Bool) (k : Nat) (w : World) (q : QAt T m w g n h t ph) (hk : k < n) (hf : usd n h k ≤ usd n h t) :
    Calls Try.prog 40 #[.pointer (some ⟨g, 0, none⟩), .int .i64 k] w fun e w' => e = .returned (.int .i64 0) ∧ Keeps (One g) w w' ∧ QAt T m w' g n k t ph := by
  have HQ := Lib.hid q
  have HK := Lib.hid hk
  have HF := Lib.hid hf
  clear q hk hf
  go_enter Try.func40, Try.ntmps40
  go_wp2_with fail
  refine (release_ok T m g n h t ph k w HQ.out HK.out HF.out).mono ?_
  rintro e w1 ⟨rfl, hb⟩
  go_wp2_with fail
  go_ret
  exact ⟨rfl, hb⟩

set_option maxRecDepth 100000 in
set_option maxHeartbeats 1000000 in
theorem pnew1_ok (n : Nat) (w : World) (hn : 2 ≤ n) (hn' : n ≤ 4096) : Calls Try.prog 69 #[.agg #[.int .i64 n, .int .i64 0, .int .i64 0]] w fun e w' => ∃ v, e = .returned v ∧ NewQ 96 4 n 0 0 true w v w' := by
  go_enter Try.func69, Try.ntmps69
  go_wp2_with fail
  go_ret
  refine ⟨_, rfl, _, rfl, ?_, ((Below.refl _ _).alloc (Nat.le_refl _) _).alloc (by simp) _, ?_⟩
  · simp
  · have := qat_fresh4 (w.alloc (.cells #[.int .i64 n, .int .i64 0, .int .i64 0] 89)) 96 n 0 0 true hn hn' (by omega) (by omega)
    simpa using this

set_option maxRecDepth 100000 in
set_option maxHeartbeats 1000000 in
theorem pmade_ok (n : Nat) (w : World) (hn : 2 ≤ n) (hn' : n ≤ 4096) : Calls Try.prog 68 #[.int .i64 n, .func (.func 69) #[] #[]] w fun e w' => ∃ v, e = .returned (.tuple #[v, .int .i64 0]) ∧ NewQ 96 4 n 0 0 true w v w' := by
  have d1 : decide ((n : Int) < 2) = false := by simp; omega
  have d2 : decide ((4096 : Int) < (n : Int)) = false := by simp; omega
  have d3 : decide (n < 2) = false := by simp; omega
  have d4 : decide (4096 < n) = false := by simp; omega
  go_enter Try.func68, Try.ntmps68
  go_wp2_with fail
  refine (pnew1_ok n w hn hn').mono ?_
  rintro e w1 ⟨v, rfl, hv⟩
  have HV := Lib.hid hv
  clear hv
  go_wp2_with fail
  go_ret2
  exact ⟨_, rfl, HV.out⟩

set_option maxRecDepth 100000 in
set_option maxHeartbeats 1000000 in
theorem pNew_ok (n : Nat) (w : World) (hn : 2 ≤ n) (hn' : n ≤ 4096) : Calls Try.prog 37 #[.int .i64 n] w fun e w' => ∃ v, e = .returned (.tuple #[v, .int .i64 0]) ∧ NewQ 96 4 n 0 0 true w v w' := by
  go_enter Try.func37, Try.ntmps37
  go_wp2_with fail
  refine (pmade_ok n w hn hn').mono ?_
  rintro e w1 ⟨v, rfl, hv⟩
  have HV := Lib.hid hv
  clear hv
  go_wp2_with fail
  go_ret2
  exact ⟨_, rfl, HV.out⟩

set_option maxRecDepth 100000 in
set_option maxHeartbeats 1000000 in
theorem pmade_err (n : Int) (w : World) (hn : n < 2 ∨ 4096 < n) : Calls Try.prog 68 #[.int .i64 n, .func (.func 69) #[] #[]] w fun e w' => e = .returned (.tuple #[.pointer none, .int .i64 2]) ∧ w = w' := by
  by_cases h : n < 2
  · have d1 : decide (n < 2) = true := by simpa using h
    clear hn h
    go_enter Try.func68, Try.ntmps68
    go_wp2_with fail
    go_ret2
    exact ⟨rfl, rfl⟩
  · have d1 : decide (n < 2) = false := by simpa using h
    have d2 : decide (4096 < n) = true := by simp; omega
    clear hn h
    go_enter Try.func68, Try.ntmps68
    go_wp2_with fail
    go_ret2
    exact ⟨rfl, rfl⟩

set_option maxRecDepth 100000 in
set_option maxHeartbeats 1000000 in
theorem pNew_err (n : Int) (w : World) (hn : n < 2 ∨ 4096 < n) : Calls Try.prog 37 #[.int .i64 n] w fun e w' => e = .returned (.tuple #[.pointer none, .int .i64 2]) ∧ w = w' := by
  have HN := Lib.hid hn
  clear hn
  go_enter Try.func37, Try.ntmps37
  go_wp2_with fail
  refine (pmade_err n w HN.out).mono ?_
  rintro e w1 ⟨rfl, rfl⟩
  go_wp2_with fail
  go_ret2
  exact ⟨rfl, rfl⟩

set_option maxRecDepth 100000 in
set_option maxHeartbeats 1000000 in
theorem pCopy_ok (T g n h t : Nat) (ph : Bool) (w : World) (q : QAt T 4 w g n h t ph) : Calls Try.prog 45 #[.pointer (some ⟨g, 0, none⟩)] w fun e w' => ∃ v, e = .returned v ∧ NewQ 96 4 n h t ph w v w' := by
  have HS := Lib.hid (pSize_ok T 4 g n h t ph w q)
  have HQ := Lib.hid q
  have hn2 := q.n2
  have d0 : ((n : Int) == 0) = false := by simp; omega
  clear q
  go_enter Try.func45, Try.ntmps45
  go_wp2_with fail
  refine HS.out.mono ?_
  rintro e w1 ⟨rfl, hb⟩
  have HQ1 := Lib.hid (HQ.out.below hb)
  have c0 := HQ1.out.c0
  have c1 := HQ1.out.c1
  have c2 := HQ1.out.c2
  have c3 := HQ1.out.c3
  have hs := hb.size
  have HB := Lib.hid hb
  clear hb
  go_wp2_with fail
  go_region
  go_wp2_with fail
  go_ret
  refine ⟨_, rfl, _, rfl, hs, (HB.out.alloc hs _).drew, ?_⟩
  exact ⟨World.rowIs.drew (qat_fresh4 w1 96 n h t ph HQ.out.n2 HQ.out.n4 HQ.out.hh HQ.out.ht).row, by omega, by omega, HQ.out.n2, HQ.out.n4, HQ.out.hh, HQ.out.ht⟩

set_option maxRecDepth 100000 in
set_option maxHeartbeats 1000000 in
theorem lstate_any (g : Nat) (x y z : Int) (w : World) (c0 : w.cell? ⟨g, 0, none⟩ = some (.int .i64 x)) (c1 : w.cell? ⟨g, 1, none⟩ = some (.int .i64 y)) (c2 : w.cell? ⟨g, 2, none⟩ = some (.int .i64 z)) :
    Calls Try.prog 59 #[.pointer (some ⟨g, 0, none⟩)] w fun e w' => e = .returned (.agg #[.int .i64 x, .int .i64 y, .int .i64 z]) ∧ Below w.heap.size w w' := by
  have l0 := World.block_lt_of_cell? _ _ c0
  go_enter Try.func59, Try.ntmps59
  go_wp2_with fail
  exact bodyPost_ret (v := .agg #[.int .i64 x, .int .i64 y, .int .i64 z]) (by simp [results, Try.results59, go_sem]) rfl ⟨rfl, (Below.refl _ _).alloc (Nat.le_refl _) _⟩

set_option maxRecDepth 100000 in
set_option maxHeartbeats 1000000 in
theorem lstate_nil (w : World) : Calls Try.prog 59 #[.pointer none] w fun e w' => e = .returned (.agg #[.int .i64 0, .int .i64 0, .int .i64 0]) ∧ Below w.heap.size w w' := by
  go_enter Try.func59, Try.ntmps59
  go_wp2_with fail
  exact bodyPost_ret (v := .agg #[.int .i64 0, .int .i64 0, .int .i64 0]) (by simp [results, Try.results59, go_sem]) rfl ⟨rfl, (Below.refl _ _).alloc (Nat.le_refl _) _⟩

set_option maxRecDepth 100000 in
set_option maxHeartbeats 1000000 in
theorem lSize_any (g : Nat) (x y z : Int) (w : World) (c0 : w.cell? ⟨g, 0, none⟩ = some (.int .i64 x)) (c1 : w.cell? ⟨g, 1, none⟩ = some (.int .i64 y)) (c2 : w.cell? ⟨g, 2, none⟩ = some (.int .i64 z)) :
    Calls Try.prog 28 #[.pointer (some ⟨g, 0, none⟩)] w fun e w' => e = .returned (.int .i64 x) ∧ Below w.heap.size w w' := by
  have HC := Lib.hid (lstate_any g x y z w c0 c1 c2)
  clear c0 c1 c2
  go_enter Try.func28, Try.ntmps28
  go_wp2_with fail
  refine HC.out.mono ?_
  rintro e w1 ⟨rfl, hb⟩
  go_wp2_with fail
  go_ret
  exact ⟨rfl, hb⟩

set_option maxRecDepth 100000 in
set_option maxHeartbeats 1000000 in
theorem lSize_nil (w : World) : Calls Try.prog 28 #[.pointer none] w fun e w' => e = .returned (.int .i64 0) ∧ Below w.heap.size w w' := by
  go_enter Try.func28, Try.ntmps28
  go_wp2_with fail
  refine (lstate_nil w).mono ?_
  rintro e w1 ⟨rfl, hb⟩
  go_wp2_with fail
  go_ret
  exact ⟨rfl, hb⟩

theorem lSize_ok (T m g n h t : Nat) (ph : Bool) (w : World) (q : QAt T m w g n h t ph) : Calls Try.prog 28 #[.pointer (some ⟨g, 0, none⟩)] w fun e w' => e = .returned (.int .i64 n) ∧ Below w.heap.size w w' := lSize_any g n h t w q.c0 q.c1 q.c2

set_option maxRecDepth 100000 in
set_option maxHeartbeats 1000000 in
theorem lSlot_any (g : Nat) (x y z : Int) (w : World) (c0 : w.cell? ⟨g, 0, none⟩ = some (.int .i64 x)) (c1 : w.cell? ⟨g, 1, none⟩ = some (.int .i64 y)) (c2 : w.cell? ⟨g, 2, none⟩ = some (.int .i64 z)) :
    Calls Try.prog 26 #[.pointer (some ⟨g, 0, none⟩)] w fun e w' => e = .returned (.int .i64 y) ∧ Below w.heap.size w w' := by
  have HC := Lib.hid (lstate_any g x y z w c0 c1 c2)
  clear c0 c1 c2
  go_enter Try.func26, Try.ntmps26
  go_wp2_with fail
  refine HC.out.mono ?_
  rintro e w1 ⟨rfl, hb⟩
  go_wp2_with fail
  go_ret
  exact ⟨rfl, hb⟩

set_option maxRecDepth 100000 in
set_option maxHeartbeats 1000000 in
theorem lSlot_nil (w : World) : Calls Try.prog 26 #[.pointer none] w fun e w' => e = .returned (.int .i64 0) ∧ Below w.heap.size w w' := by
  go_enter Try.func26, Try.ntmps26
  go_wp2_with fail
  refine (lstate_nil w).mono ?_
  rintro e w1 ⟨rfl, hb⟩
  go_wp2_with fail
  go_ret
  exact ⟨rfl, hb⟩

theorem lSlot_ok (T m g n h t : Nat) (ph : Bool) (w : World) (q : QAt T m w g n h t ph) : Calls Try.prog 26 #[.pointer (some ⟨g, 0, none⟩)] w fun e w' => e = .returned (.int .i64 h) ∧ Below w.heap.size w w' := lSlot_any g n h t w q.c0 q.c1 q.c2

set_option maxRecDepth 100000 in
set_option maxHeartbeats 1000000 in
theorem lHead_any (g : Nat) (x y z : Int) (w : World) (c0 : w.cell? ⟨g, 0, none⟩ = some (.int .i64 x)) (c1 : w.cell? ⟨g, 1, none⟩ = some (.int .i64 y)) (c2 : w.cell? ⟨g, 2, none⟩ = some (.int .i64 z)) :
    Calls Try.prog 27 #[.pointer (some ⟨g, 0, none⟩)] w fun e w' => e = .returned (.int .i64 y) ∧ Below w.heap.size w w' := by
  have HC := Lib.hid (lstate_any g x y z w c0 c1 c2)
  clear c0 c1 c2
  go_enter Try.func27, Try.ntmps27
  go_wp2_with fail
  refine HC.out.mono ?_
  rintro e w1 ⟨rfl, hb⟩
  go_wp2_with fail
  go_ret
  exact ⟨rfl, hb⟩

set_option maxRecDepth 100000 in
set_option maxHeartbeats 1000000 in
theorem lHead_nil (w : World) : Calls Try.prog 27 #[.pointer none] w fun e w' => e = .returned (.int .i64 0) ∧ Below w.heap.size w w' := by
  go_enter Try.func27, Try.ntmps27
  go_wp2_with fail
  refine (lstate_nil w).mono ?_
  rintro e w1 ⟨rfl, hb⟩
  go_wp2_with fail
  go_ret
  exact ⟨rfl, hb⟩

theorem lHead_ok (T m g n h t : Nat) (ph : Bool) (w : World) (q : QAt T m w g n h t ph) : Calls Try.prog 27 #[.pointer (some ⟨g, 0, none⟩)] w fun e w' => e = .returned (.int .i64 h) ∧ Below w.heap.size w w' := lHead_any g n h t w q.c0 q.c1 q.c2

set_option maxRecDepth 100000 in
set_option maxHeartbeats 1000000 in
theorem lnew1_ok (n : Nat) (w : World) (hn : 2 ≤ n) (hn' : n ≤ 4096) : Calls Try.prog 57 #[.agg #[.int .i64 n, .int .i64 0, .int .i64 0]] w fun e w' => ∃ v, e = .returned v ∧ NewQ 98 4 n 0 0 true w v w' := by
  go_enter Try.func57, Try.ntmps57
  go_wp2_with fail
  go_ret
  refine ⟨_, rfl, _, rfl, ?_, ((Below.refl _ _).alloc (Nat.le_refl _) _).alloc (by simp) _, ?_⟩
  · simp
  · have := qat_fresh4 (w.alloc (.cells #[.int .i64 n, .int .i64 0, .int .i64 0] 89)) 98 n 0 0 true hn hn' (by omega) (by omega)
    simpa using this

set_option maxRecDepth 100000 in
set_option maxHeartbeats 1000000 in
theorem lmade_ok (n : Nat) (w : World) (hn : 2 ≤ n) (hn' : n ≤ 4096) : Calls Try.prog 56 #[.int .i64 n, .func (.func 57) #[] #[]] w fun e w' => ∃ v, e = .returned (.tuple #[v, .int .i64 0]) ∧ NewQ 98 4 n 0 0 true w v w' := by
  have d1 : decide ((n : Int) < 2) = false := by simp; omega
  have d2 : decide ((4096 : Int) < (n : Int)) = false := by simp; omega
  have d3 : decide (n < 2) = false := by simp; omega
  have d4 : decide (4096 < n) = false := by simp; omega
  go_enter Try.func56, Try.ntmps56
  go_wp2_with fail
  refine (lnew1_ok n w hn hn').mono ?_
  rintro e w1 ⟨v, rfl, hv⟩
  have HV := Lib.hid hv
  clear hv
  go_wp2_with fail
  go_ret2
  exact ⟨_, rfl, HV.out⟩

set_option maxRecDepth 100000 in
set_option maxHeartbeats 1000000 in
theorem lNew_ok (n : Nat) (w : World) (hn : 2 ≤ n) (hn' : n ≤ 4096) : Calls Try.prog 23 #[.int .i64 n] w fun e w' => ∃ v, e = .returned (.tuple #[v, .int .i64 0]) ∧ NewQ 98 4 n 0 0 true w v w' := by
  go_enter Try.func23, Try.ntmps23
  go_wp2_with fail
  refine (lmade_ok n w hn hn').mono ?_
  rintro e w1 ⟨v, rfl, hv⟩
  have HV := Lib.hid hv
  clear hv
  go_wp2_with fail
  go_ret2
  exact ⟨_, rfl, HV.out⟩

set_option maxRecDepth 100000 in
set_option maxHeartbeats 1000000 in
theorem lmade_err (n : Int) (w : World) (hn : n < 2 ∨ 4096 < n) : Calls Try.prog 56 #[.int .i64 n, .func (.func 57) #[] #[]] w fun e w' => e = .returned (.tuple #[.pointer none, .int .i64 2]) ∧ w = w' := by
  by_cases h : n < 2
  · have d1 : decide (n < 2) = true := by simpa using h
    clear hn h
    go_enter Try.func56, Try.ntmps56
    go_wp2_with fail
    go_ret2
    exact ⟨rfl, rfl⟩
  · have d1 : decide (n < 2) = false := by simpa using h
    have d2 : decide (4096 < n) = true := by simp; omega
    clear hn h
    go_enter Try.func56, Try.ntmps56
    go_wp2_with fail
    go_ret2
    exact ⟨rfl, rfl⟩

set_option maxRecDepth 100000 in
set_option maxHeartbeats 1000000 in
theorem lNew_err (n : Int) (w : World) (hn : n < 2 ∨ 4096 < n) : Calls Try.prog 23 #[.int .i64 n] w fun e w' => e = .returned (.tuple #[.pointer none, .int .i64 2]) ∧ w = w' := by
  have HN := Lib.hid hn
  clear hn
  go_enter Try.func23, Try.ntmps23
  go_wp2_with fail
  refine (lmade_err n w HN.out).mono ?_
  rintro e w1 ⟨rfl, rfl⟩
  go_wp2_with fail
  go_ret2
  exact ⟨rfl, rfl⟩

set_option maxRecDepth 100000 in
set_option maxHeartbeats 1000000 in
theorem lCopy_ok (T g n h t : Nat) (ph : Bool) (w : World) (q : QAt T 4 w g n h t ph) : Calls Try.prog 46 #[.pointer (some ⟨g, 0, none⟩)] w fun e w' => ∃ v, e = .returned v ∧ NewQ 98 4 n h t ph w v w' := by
  have HS := Lib.hid (lSize_ok T 4 g n h t ph w q)
  have HQ := Lib.hid q
  have hn2 := q.n2
  have d0 : ((n : Int) == 0) = false := by simp; omega
  clear q
  go_enter Try.func46, Try.ntmps46
  go_wp2_with fail
  refine HS.out.mono ?_
  rintro e w1 ⟨rfl, hb⟩
  have HQ1 := Lib.hid (HQ.out.below hb)
  have c0 := HQ1.out.c0
  have c1 := HQ1.out.c1
  have c2 := HQ1.out.c2
  have c3 := HQ1.out.c3
  have hs := hb.size
  have HB := Lib.hid hb
  clear hb
  go_wp2_with fail
  go_region
  go_wp2_with fail
  go_ret
  refine ⟨_, rfl, _, rfl, hs, (HB.out.alloc hs _).drew, ?_⟩
  exact ⟨World.rowIs.drew (qat_fresh4 w1 98 n h t ph HQ.out.n2 HQ.out.n4 HQ.out.hh HQ.out.ht).row, by omega, by omega, HQ.out.n2, HQ.out.n4, HQ.out.hh, HQ.out.ht⟩

end Go.Proofs.Ytpoeepdpoblfcaa
