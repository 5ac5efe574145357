/- connect: Decode's door: what the deferred function makes of the ending. -/
import Derived.Test.YtchkipafjnehfaaDF
namespace Go.Proofs.Ytchkipafjnehfaa
set_option linter.unusedVariables false
set_option linter.unusedSimpArgs false
open Go.RowKit

theorem decode_results (tmps : Array Value) (w : World) (fb eb : Nat) (f : Fab) (x : Int) (h2 : tmps.getD 2 undef = .pointer (some ⟨fb, 0, none⟩)) (h3 : tmps.getD 3 undef = .pointer (some ⟨eb, 0, none⟩))
    (hf : FabAt w fb f) (he : w.cell? ⟨eb, 0, none⟩ = some (.int .i64 x)) :
    (results Try.f30 tmps).run Try.prog w = .ok (.tuple #[f.v, .int .i64 x]) w := by
  have f0 : w.cell? ⟨fb, 0, none⟩ = some (.int .u8 f.kind) := World.rowIs.cell hf (by omega)
  have f1 : w.cell? ⟨fb, 1, none⟩ = some (.int .u16 f.id) := World.rowIs.cell hf (by omega)
  have f2 : w.cell? ⟨fb, 2, none⟩ = some (.int .u16 f.queue) := World.rowIs.cell hf (by omega)
  have f3 : w.cell? ⟨fb, 3, none⟩ = some (.int .u16 f.size) := World.rowIs.cell hf (by omega)
  have f4 : w.cell? ⟨fb, 4, none⟩ = some (.int .u32 f.keep) := World.rowIs.cell hf (by omega)
  have f5 : w.cell? ⟨fb, 5, none⟩ = some (.bool f.wide) := World.rowIs.cell hf (by omega)
  have f6 : w.cell? ⟨fb, 6, none⟩ = some (.int .u32 f.offset) := World.rowIs.cell hf (by omega)
  have f7 : w.cell? ⟨fb, 7, none⟩ = some (.int .u64 f.value) := World.rowIs.cell hf (by omega)
  have f8 : w.cell? ⟨fb, 8, none⟩ = some (.int .u32 f.length) := World.rowIs.cell hf (by omega)
  have h2' : tmps[2]?.getD undef = .pointer (some ⟨fb, 0, none⟩) := by simpa using h2
  have h3' : tmps[3]?.getD undef = .pointer (some ⟨eb, 0, none⟩) := by simpa using h3
  simp [results, Try.results30, h2', h3', asAddr, go_sem, he, f0, f1, f2, f3, f4, f5, f6, f7, f8, Fab.v]

/-- the deferred call -/
def dfr (fb eb : Nat) : Deferred := { target := .fn (.func 45) #[.pointer (some ⟨fb, 0, none⟩), .pointer (some ⟨eb, 0, none⟩)], args := #[] }

theorem door_bad (tmps : Array Value) (w : World) (fb eb : Nat) (g : Fab) (x : Int) (R : Ending → World → Prop) (h2 : tmps.getD 2 undef = .pointer (some ⟨fb, 0, none⟩)) (h3 : tmps.getD 3 undef = .pointer (some ⟨eb, 0, none⟩))
    (hf : FabAt w fb g) (he : w.cell? ⟨eb, 0, none⟩ = some (.int .i64 x)) (hz : w.frozen? ⟨eb, 0, none⟩ = false) (hne : eb ≠ fb)
    (hR : ∀ w', Keeps (Two fb eb) w w' → R (.returned (.tuple #[F0.v, .int .i64 6])) w') :
    bodyPostD Try.prog Try.f30 R (Exit.panic [fmtP]) { tmps := tmps, defers := [dfr fb eb] } w := by
  show Leaves Try.prog Try.f30 tmps R [dfr fb eb] (.panicking [fmtP]) w
  refine leaves_cons (f := 45) (args := #[.pointer (some ⟨fb, 0, none⟩), .pointer (some ⟨eb, 0, none⟩)]) (by simp) (by simp [go_sem]) ?_
  refine (catch_panicking fb eb g x w hf he hz hne).mono ?_
  rintro e u' w'' ⟨rfl, rfl, hk, hf2, hc⟩
  show Leaves Try.prog Try.f30 tmps R [] .returning w''
  exact ⟨_, decode_results tmps w'' fb eb F0 6 h2 h3 hf2 hc, hR w'' hk⟩

theorem door_good (tmps : Array Value) (w : World) (fb eb : Nat) (f : Fab) (x : Int) (R : Ending → World → Prop) (h2 : tmps.getD 2 undef = .pointer (some ⟨fb, 0, none⟩)) (h3 : tmps.getD 3 undef = .pointer (some ⟨eb, 0, none⟩))
    (hf : FabAt w fb f) (he : w.cell? ⟨eb, 0, none⟩ = some (.int .i64 x))
    (hR : R (.returned (.tuple #[f.v, .int .i64 x])) w) :
    bodyPostD Try.prog Try.f30 R Exit.ret { tmps := tmps, defers := [dfr fb eb] } w := by
  show Leaves Try.prog Try.f30 tmps R [dfr fb eb] .returning w
  refine leaves_cons (f := 45) (args := #[.pointer (some ⟨fb, 0, none⟩), .pointer (some ⟨eb, 0, none⟩)]) (by simp) (by simp [go_sem]) ?_
  refine (catch_idle fb eb w).mono ?_
  rintro e u' w'' ⟨rfl, rfl, rfl⟩
  show Leaves Try.prog Try.f30 tmps R [] .returning _
  exact ⟨_, decode_results tmps _ fb eb f x h2 h3 hf he, hR⟩
end Go.Proofs.Ytchkipafjnehfaa
