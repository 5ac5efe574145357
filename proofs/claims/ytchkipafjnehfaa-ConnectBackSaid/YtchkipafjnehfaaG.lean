/- connect: fabrics commands: unused, the conditions of the kinds. -/
import Derived.Test.YtchkipafjnehfaaF
import Derived.Laws.StructEq
namespace Go.Proofs.Ytchkipafjnehfaa
set_option linter.unusedVariables false
set_option linter.unusedSimpArgs false
open Go.RowKit

/-- A fabrics command. -/
structure Fab where
  kind : Int
  id : Int
  queue : Int
  size : Int
  keep : Int
  wide : Bool
  offset : Int
  value : Int
  length : Int

def Fab.v (f : Fab) : Value := .agg #[.int .u8 f.kind, .int .u16 f.id, .int .u16 f.queue, .int .u16 f.size, .int .u32 f.keep, .bool f.wide, .int .u32 f.offset, .int .u64 f.value, .int .u32 f.length]

/-- Its numbers fit. -/
structure Fab.Ok (f : Fab) : Prop where
  kind : 0 ≤ f.kind ∧ f.kind ≤ 255
  id : 0 ≤ f.id ∧ f.id ≤ 65535
  queue : 0 ≤ f.queue ∧ f.queue ≤ 65535
  size : 0 ≤ f.size ∧ f.size ≤ 65535
  keep : 0 ≤ f.keep ∧ f.keep ≤ 4294967295
  offset : 0 ≤ f.offset ∧ f.offset ≤ 4294967295
  value : 0 ≤ f.value ∧ f.value ≤ 18446744073709551615
  length : 0 ≤ f.length ∧ f.length ≤ 4294967295

def alg (f : Fab) : Bool := f.offset % 4 == 0 && (!f.wide || f.offset % 8 == 0)

def Fab.unused (f : Fab) : Fab :=
  if f.kind = 0 then ⟨0, 0, f.queue, f.size, f.keep, false, 0, 0, f.length⟩
  else if f.kind = 1 then ⟨0, 0, 0, 0, 0, f.wide, f.offset, f.value, f.length⟩
  else if f.kind = 4 then ⟨0, 0, f.queue, f.size, f.keep, false, 0, f.value, f.length⟩
  else if f.kind = 5 ∨ f.kind = 6 then ⟨0, 0, f.queue, f.size, f.keep, f.wide, f.offset, f.value, 0⟩
  else ⟨0, 0, f.queue, f.size, f.keep, f.wide, f.offset, f.value, f.length⟩

set_option maxHeartbeats 1000000 in
theorem unused_any (f : Fab) (w : World) : Calls Try.prog 41 #[f.v] w fun e w' => e = .returned f.unused.v ∧ Below w.heap.size w w' := by
  obtain ⟨kind, id, queue, size, keep, wide, offset, value, length⟩ := f
  by_cases h0 : kind = 0
  · subst h0
    unfold Fab.v
    simp only []
    go_enter Try.func41, Try.ntmps41
    go_wp2
    exact bodyPost_ret (v := Fab.v (Fab.unused ⟨0, id, queue, size, keep, wide, offset, value, length⟩)) (by simp [results, Try.results41, go_sem, Fab.v, Fab.unused]) rfl ⟨rfl, ((Below.refl _ _).alloc (Nat.le_refl _) _).alloc (by simp) _⟩
  by_cases h1 : kind = 1
  · subst h1
    unfold Fab.v
    simp only []
    go_enter Try.func41, Try.ntmps41
    go_wp2
    exact bodyPost_ret (v := Fab.v (Fab.unused ⟨1, id, queue, size, keep, wide, offset, value, length⟩)) (by simp [results, Try.results41, go_sem, Fab.v, Fab.unused]) rfl ⟨rfl, ((Below.refl _ _).alloc (Nat.le_refl _) _).alloc (by simp) _⟩
  by_cases h4 : kind = 4
  · subst h4
    unfold Fab.v
    simp only []
    go_enter Try.func41, Try.ntmps41
    go_wp2
    exact bodyPost_ret (v := Fab.v (Fab.unused ⟨4, id, queue, size, keep, wide, offset, value, length⟩)) (by simp [results, Try.results41, go_sem, Fab.v, Fab.unused]) rfl ⟨rfl, ((Below.refl _ _).alloc (Nat.le_refl _) _).alloc (by simp) _⟩
  by_cases h5 : kind = 5
  · subst h5
    unfold Fab.v
    simp only []
    go_enter Try.func41, Try.ntmps41
    go_wp2
    exact bodyPost_ret (v := Fab.v (Fab.unused ⟨5, id, queue, size, keep, wide, offset, value, length⟩)) (by simp [results, Try.results41, go_sem, Fab.v, Fab.unused]) rfl ⟨rfl, ((Below.refl _ _).alloc (Nat.le_refl _) _).alloc (by simp) _⟩
  by_cases h6 : kind = 6
  · subst h6
    unfold Fab.v
    simp only []
    go_enter Try.func41, Try.ntmps41
    go_wp2
    exact bodyPost_ret (v := Fab.v (Fab.unused ⟨6, id, queue, size, keep, wide, offset, value, length⟩)) (by simp [results, Try.results41, go_sem, Fab.v, Fab.unused]) rfl ⟨rfl, ((Below.refl _ _).alloc (Nat.le_refl _) _).alloc (by simp) _⟩
  have b0 : (kind == 0) = false := by simpa using h0
  have b1 : (kind == 1) = false := by simpa using h1
  have b4 : (kind == 4) = false := by simpa using h4
  have b5 : (kind == 5) = false := by simpa using h5
  have b6 : (kind == 6) = false := by simpa using h6
  have e : Fab.unused ⟨kind, id, queue, size, keep, wide, offset, value, length⟩ = ⟨0, 0, queue, size, keep, wide, offset, value, length⟩ := by
    unfold Fab.unused
    simp only []
    rw [if_neg h0, if_neg h1, if_neg h4, if_neg (fun h => h.elim h5 h6)]
  rw [e]
  clear h0 h1 h4 h5 h6 e
  unfold Fab.v
  simp only []
  go_enter Try.func41, Try.ntmps41
  go_wp2
  exact bodyPost_ret (v := Fab.v ⟨0, 0, queue, size, keep, wide, offset, value, length⟩) (by simp [results, Try.results41, go_sem, Fab.v]) rfl ⟨rfl, ((Below.refl _ _).alloc (Nat.le_refl _) _).alloc (by simp) _⟩

set_option maxHeartbeats 1000000 in
theorem aligned_any (f : Fab) (w : World) (ho : 0 ≤ f.offset ∧ f.offset ≤ 4294967295) : Calls Try.prog 58 #[f.v] w fun e w' => e = .returned (.bool (alg f)) ∧ Below w.heap.size w w' := by
  obtain ⟨kind, id, queue, size, keep, wide, offset, value, length⟩ := f
  simp only at ho
  unfold Fab.v alg
  simp only []
  cases h4 : (offset % 4 == 0)
  · go_enter Try.func58, Try.ntmps58
    go_wp2
    go_ret
    exact ⟨rfl, (Below.refl _ _).alloc (Nat.le_refl _) _⟩
  · cases wide
    · go_enter Try.func58, Try.ntmps58
      go_wp2
      go_ret
      exact ⟨rfl, (Below.refl _ _).alloc (Nat.le_refl _) _⟩
    · cases h8 : (offset % 8 == 0)
      · go_enter Try.func58, Try.ntmps58
        go_wp2
        go_ret
        exact ⟨rfl, (Below.refl _ _).alloc (Nat.le_refl _) _⟩
      · go_enter Try.func58, Try.ntmps58
        go_wp2
        go_ret
        exact ⟨rfl, (Below.refl _ _).alloc (Nat.le_refl _) _⟩

/-- two commands compared -/
def feq (f g : Fab) : Bool := f.kind == g.kind && (f.id == g.id && (f.queue == g.queue && (f.size == g.size && (f.keep == g.keep && (f.wide == g.wide && (f.offset == g.offset && (f.value == g.value && f.length == g.length)))))))

theorem eql_fab (f g : Fab) (w : World) : (binOp .eql 42 f.v g.v).run Try.prog w = .ok (.bool (feq f g)) w := by
  obtain ⟨kind, id, queue, size, keep, wide, offset, value, length⟩ := f
  obtain ⟨kind', id', queue', size', keep', wide', offset', value', length'⟩ := g
  unfold Fab.v feq
  simp only []
  simp [go_sem]
  (repeat' split) <;> simp_all

/-- the conditions of the kinds -/
def vConn (f : Fab) : Bool := decide (1 ≤ f.size) && decide (f.size ≤ 4095) && (f.keep == 0 || f.queue == 0)
def vAuth (f : Fab) : Bool := decide (1 ≤ f.length) && decide (f.length ≤ 65536)
def vSet (f : Fab) : Bool := alg f && (f.wide || decide (f.value ≤ 4294967295))

set_option maxHeartbeats 1000000 in
theorem auth_any (f : Fab) (w : World) : Calls Try.prog 54 #[f.v] w fun e w' => e = .returned (.bool (vAuth f)) ∧ Below w.heap.size w w' := by
  obtain ⟨kind, id, queue, size, keep, wide, offset, value, length⟩ := f
  unfold Fab.v vAuth
  simp only []
  cases h : decide (1 ≤ length)
  · go_enter Try.func54, Try.ntmps54
    go_wp2
    go_ret
    exact ⟨rfl, (Below.refl _ _).alloc (Nat.le_refl _) _⟩
  · go_enter Try.func54, Try.ntmps54
    go_wp2
    go_ret
    exact ⟨by simp, (Below.refl _ _).alloc (Nat.le_refl _) _⟩

set_option maxHeartbeats 1000000 in
theorem always_any (f : Fab) (w : World) : Calls Try.prog 62 #[f.v] w fun e w' => e = .returned (.bool true) ∧ Below w.heap.size w w' := by
  unfold Fab.v
  go_enter Try.func62, Try.ntmps62
  go_wp2
  go_ret
  exact ⟨rfl, (Below.refl _ _).alloc (Nat.le_refl _) _⟩

set_option maxHeartbeats 1000000 in
theorem conn_any (f : Fab) (w : World) : Calls Try.prog 60 #[f.v] w fun e w' => e = .returned (.bool (vConn f)) ∧ Below w.heap.size w w' := by
  obtain ⟨kind, id, queue, size, keep, wide, offset, value, length⟩ := f
  unfold Fab.v vConn
  simp only []
  cases h1 : decide (1 ≤ size)
  · go_enter Try.func60, Try.ntmps60
    go_wp2
    go_ret
    exact ⟨rfl, (Below.refl _ _).alloc (Nat.le_refl _) _⟩
  cases h2 : decide (size ≤ 4095)
  · go_enter Try.func60, Try.ntmps60
    go_wp2
    go_ret
    exact ⟨by simp, (Below.refl _ _).alloc (Nat.le_refl _) _⟩
  cases h3 : keep == 0
  · go_enter Try.func60, Try.ntmps60
    go_wp2
    go_ret
    exact ⟨by simp, (Below.refl _ _).alloc (Nat.le_refl _) _⟩
  · go_enter Try.func60, Try.ntmps60
    go_wp2
    go_ret
    exact ⟨by simp, (Below.refl _ _).alloc (Nat.le_refl _) _⟩

set_option maxHeartbeats 1000000 in
theorem set_any (f : Fab) (w : World) (ho : 0 ≤ f.offset ∧ f.offset ≤ 4294967295) : Calls Try.prog 57 #[f.v] w fun e w' => e = .returned (.bool (vSet f)) ∧ Below w.heap.size w w' := by
  have HA := Lib.hid (fun w => aligned_any f w ho)
  obtain ⟨kind, id, queue, size, keep, wide, offset, value, length⟩ := f
  unfold vSet
  generalize alg ⟨kind, id, queue, size, keep, wide, offset, value, length⟩ = c at *
  unfold Fab.v at *
  simp only []
  cases c
  · go_enter Try.func57, Try.ntmps57
    go_wp2_with fail
    refine (HA.out _).mono ?_
    rintro e w1 ⟨rfl, hb⟩
    go_wp2_with fail
    go_ret
    exact ⟨rfl, ((Below.refl _ _).alloc (Nat.le_refl _) _).trans (hb.mono (by simp))⟩
  · cases wide
    · go_enter Try.func57, Try.ntmps57
      go_wp2_with fail
      refine (HA.out _).mono ?_
      rintro e w1 ⟨rfl, hb⟩
      have c5 : w1.cell? ⟨w.heap.size, 5, none⟩ = some (.bool false) := (hb.cell (by simp)).trans (by go_simp)
      have c7 : w1.cell? ⟨w.heap.size, 7, none⟩ = some (.int .u64 value) := (hb.cell (by simp)).trans (by go_simp)
      go_wp2_with fail
      go_ret
      exact ⟨rfl, ((Below.refl _ _).alloc (Nat.le_refl _) _).trans (hb.mono (by simp))⟩
    · go_enter Try.func57, Try.ntmps57
      go_wp2_with fail
      refine (HA.out _).mono ?_
      rintro e w1 ⟨rfl, hb⟩
      have c5 : w1.cell? ⟨w.heap.size, 5, none⟩ = some (.bool true) := (hb.cell (by simp)).trans (by go_simp)
      go_wp2_with fail
      go_ret
      exact ⟨rfl, ((Below.refl _ _).alloc (Nat.le_refl _) _).trans (hb.mono (by simp))⟩
end Go.Proofs.Ytchkipafjnehfaa
