/- connect: the reference's Valid. -/
import Derived.Test.YtchkipafjnehfaaRE
import Derived.Test.YtchkipafjnehfaaO
namespace Go.Proofs.Ytchkipafjnehfaa
set_option linter.unusedVariables false
set_option linter.unusedSimpArgs false
open Go.RowKit

def conn (f : Fab) : Bool := (f.queue != 0) || ((f.size != 0) || (f.keep != 0))
def prop (f : Fab) : Bool := f.wide || (f.offset != 0)
/-- as the reference asks it -/
def rvld (f : Fab) : Bool :=
  if f.kind = 0 then !conn f && (f.length == 0 && (alg f && (f.wide || decide (f.value < 4294967296))))
  else if f.kind = 1 then !prop f && (f.value == 0 && (f.length == 0 && (decide (1 ≤ f.size) && (decide (f.size ≤ 4095) && (f.queue == 0 || f.keep == 0)))))
  else if f.kind = 4 then !conn f && (f.value == 0 && (f.length == 0 && alg f))
  else if f.kind = 5 then !conn f && (!prop f && (f.value == 0 && (decide (1 ≤ f.length) && decide (f.length ≤ 65536))))
  else if f.kind = 6 then !conn f && (!prop f && (f.value == 0 && (decide (1 ≤ f.length) && decide (f.length ≤ 65536))))
  else if f.kind = 8 then !conn f && (!prop f && (f.value == 0 && f.length == 0))
  else false

theorem rvld_eq (f : Fab) : rvld f = vld f := by
  obtain ⟨kind, id, queue, size, keep, wide, offset, value, length⟩ := f
  unfold rvld vld Fab.unused feq vSet vConn vAuth conn prop
  simp only []
  generalize alg _ = g
  by_cases h0 : kind = 0
  · subst h0
    simp only [if_true]
    rw [Bool.eq_iff_iff]
    simp
    grind
  by_cases h1 : kind = 1
  · subst h1
    rw [Bool.eq_iff_iff]
    simp
    grind
  by_cases h4 : kind = 4
  · subst h4
    rw [Bool.eq_iff_iff]
    simp
    grind
  by_cases h5 : kind = 5
  · subst h5
    rw [Bool.eq_iff_iff]
    simp
    grind
  by_cases h6 : kind = 6
  · subst h6
    rw [Bool.eq_iff_iff]
    simp
    grind
  by_cases h8 : kind = 8
  · subst h8
    rw [Bool.eq_iff_iff]
    simp
    grind
  simp [h0, h1, h4, h5, h6, h8]

set_option maxRecDepth 100000 in
set_option maxHeartbeats 4000000 in
theorem rv_8 (id queue size keep : Int) (wide : Bool) (offset value length : Int) (w : World) (c p g : Bool) (hc : c = conn ⟨8, id, queue, size, keep, wide, offset, value, length⟩) (hp : p = prop ⟨8, id, queue, size, keep, wide, offset, value, length⟩)
    (ha : ∀ w, Calls Try.prog 40 #[Fab.v ⟨8, id, queue, size, keep, wide, offset, value, length⟩] w fun e w' => e = .returned (.bool g) ∧ Below w.heap.size w w') :
    Calls Try.prog 20 #[Fab.v ⟨8, id, queue, size, keep, wide, offset, value, length⟩] w fun e w' => e = .returned (.bool (!c && (!p && ((value == 0) && ((length == 0)))))) ∧ Below w.heap.size w w' := by
  have HA := Lib.hid ha
  have HC := Lib.hid hc
  have HP := Lib.hid hp
  clear ha hc hp
  unfold Fab.v at *
  simp only [] at *
  go_enter Try.func20, Try.ntmps20
  go_upto_region 1 with (fail)
  obtain ⟨W, hW⟩ : ∃ W, W = w.alloc (.cells #[.int .u8 8, .int .u16 id, .int .u16 queue, .int .u16 size, .int .u32 keep, .bool wide, .int .u32 offset, .int .u64 value, .int .u32 length] 42) := ⟨_, rfl⟩
  rw [← hW]
  have hWb : Below w.heap.size w W := by rw [hW]; exact (Below.refl _ w).alloc (Nat.le_refl _) _
  have c0 : W.cell? ⟨w.heap.size, 0, none⟩ = some (.int .u8 8) := by rw [hW]; go_simp
  have c1 : W.cell? ⟨w.heap.size, 1, none⟩ = some (.int .u16 id) := by rw [hW]; go_simp
  have c2 : W.cell? ⟨w.heap.size, 2, none⟩ = some (.int .u16 queue) := by rw [hW]; go_simp
  have c3 : W.cell? ⟨w.heap.size, 3, none⟩ = some (.int .u16 size) := by rw [hW]; go_simp
  have c4 : W.cell? ⟨w.heap.size, 4, none⟩ = some (.int .u32 keep) := by rw [hW]; go_simp
  have c5 : W.cell? ⟨w.heap.size, 5, none⟩ = some (.bool wide) := by rw [hW]; go_simp
  have c6 : W.cell? ⟨w.heap.size, 6, none⟩ = some (.int .u32 offset) := by rw [hW]; go_simp
  have c7 : W.cell? ⟨w.heap.size, 7, none⟩ = some (.int .u64 value) := by rw [hW]; go_simp
  have c8 : W.cell? ⟨w.heap.size, 8, none⟩ = some (.int .u32 length) := by rw [hW]; go_simp
  have HWb := Lib.hid hWb
  have hlt : w.heap.size < W.heap.size := by rw [hW]; simp
  clear hW hWb
  go_cut [3] from 3 to 18 (fun v wc => v = .bool c ∧ wc = W)
  case first =>
    cases hq : (queue != 0)
    · cases hs : (size != 0)
      · cases hk : (keep != 0)
        · have e : c = false := by rw [HC.out]; unfold conn; simp only [hq, hs, hk]; rfl
          subst e
          go_wp2_with fail
          go_meet
          exact ⟨rfl, rfl⟩
        · have e : c = true := by rw [HC.out]; unfold conn; simp only [hq, hs, hk]; rfl
          subst e
          go_wp2_with fail
          go_meet
          exact ⟨rfl, rfl⟩
      · have e : c = true := by rw [HC.out]; unfold conn; simp only [hq, hs]; rfl
        subst e
        go_wp2_with fail
        go_meet
        exact ⟨rfl, rfl⟩
    · have e : c = true := by rw [HC.out]; unfold conn; simp only [hq]; rfl
      subst e
      go_wp2_with fail
      go_meet
      exact ⟨rfl, rfl⟩
  case rest =>
    obtain ⟨rfl, hwc⟩ := hcut
    have hwc2 := hwc.symm
    subst hwc2
    go_upto_region 2 with (fail)
    go_cut [4] from 4 to 25 (fun v w4 => v = .bool p ∧ w4 = W)
    case first =>
      cases wide
      · cases ho : (offset != 0)
        · have e : p = false := by rw [HP.out]; unfold prop; simp only [ho]; rfl
          subst e
          go_wp2_with fail
          go_meet
          exact ⟨rfl, rfl⟩
        · have e : p = true := by rw [HP.out]; unfold prop; simp only [ho]; rfl
          subst e
          go_wp2_with fail
          go_meet
          exact ⟨rfl, rfl⟩
      · have e : p = true := by rw [HP.out]; unfold prop; rfl
        subst e
        go_wp2_with fail
        go_meet
        exact ⟨rfl, rfl⟩
    case rest =>
      obtain ⟨rfl, hwc3⟩ := hcut
      have hwc4 := hwc3.symm
      subst hwc4
      clear HC HP
      cases c
      case false =>
        cases p
        case false =>
          cases h2 : (value == 0)
          case false =>
            go_wp2_with fail
            go_ret
            exact ⟨by first | rfl | simp [*], HWb.out⟩
          case true =>
            cases h3 : (length == 0)
            case false =>
              go_wp2_with fail
              go_ret
              exact ⟨by first | rfl | simp [*], HWb.out⟩
            case true =>
              go_wp2_with fail
              go_ret
              exact ⟨by first | rfl | simp [*], HWb.out⟩
        case true =>
          go_wp2_with fail
          go_ret
          exact ⟨by first | rfl | simp [*], HWb.out⟩
      case true =>
        go_wp2_with fail
        go_ret
        exact ⟨by first | rfl | simp [*], HWb.out⟩

set_option maxRecDepth 100000 in
set_option maxHeartbeats 4000000 in
theorem rv_0 (id queue size keep : Int) (wide : Bool) (offset value length : Int) (w : World) (c p g : Bool) (hc : c = conn ⟨0, id, queue, size, keep, wide, offset, value, length⟩) (hp : p = prop ⟨0, id, queue, size, keep, wide, offset, value, length⟩)
    (ha : ∀ w, Calls Try.prog 40 #[Fab.v ⟨0, id, queue, size, keep, wide, offset, value, length⟩] w fun e w' => e = .returned (.bool g) ∧ Below w.heap.size w w') :
    Calls Try.prog 20 #[Fab.v ⟨0, id, queue, size, keep, wide, offset, value, length⟩] w fun e w' => e = .returned (.bool (!c && ((length == 0) && (g && ((wide || decide (value < 4294967296))))))) ∧ Below w.heap.size w w' := by
  have HA := Lib.hid ha
  have HC := Lib.hid hc
  have HP := Lib.hid hp
  clear ha hc hp
  unfold Fab.v at *
  simp only [] at *
  go_enter Try.func20, Try.ntmps20
  go_upto_region 1 with (fail)
  obtain ⟨W, hW⟩ : ∃ W, W = w.alloc (.cells #[.int .u8 0, .int .u16 id, .int .u16 queue, .int .u16 size, .int .u32 keep, .bool wide, .int .u32 offset, .int .u64 value, .int .u32 length] 42) := ⟨_, rfl⟩
  rw [← hW]
  have hWb : Below w.heap.size w W := by rw [hW]; exact (Below.refl _ w).alloc (Nat.le_refl _) _
  have c0 : W.cell? ⟨w.heap.size, 0, none⟩ = some (.int .u8 0) := by rw [hW]; go_simp
  have c1 : W.cell? ⟨w.heap.size, 1, none⟩ = some (.int .u16 id) := by rw [hW]; go_simp
  have c2 : W.cell? ⟨w.heap.size, 2, none⟩ = some (.int .u16 queue) := by rw [hW]; go_simp
  have c3 : W.cell? ⟨w.heap.size, 3, none⟩ = some (.int .u16 size) := by rw [hW]; go_simp
  have c4 : W.cell? ⟨w.heap.size, 4, none⟩ = some (.int .u32 keep) := by rw [hW]; go_simp
  have c5 : W.cell? ⟨w.heap.size, 5, none⟩ = some (.bool wide) := by rw [hW]; go_simp
  have c6 : W.cell? ⟨w.heap.size, 6, none⟩ = some (.int .u32 offset) := by rw [hW]; go_simp
  have c7 : W.cell? ⟨w.heap.size, 7, none⟩ = some (.int .u64 value) := by rw [hW]; go_simp
  have c8 : W.cell? ⟨w.heap.size, 8, none⟩ = some (.int .u32 length) := by rw [hW]; go_simp
  have HWb := Lib.hid hWb
  have hlt : w.heap.size < W.heap.size := by rw [hW]; simp
  clear hW hWb
  go_cut [3] from 3 to 18 (fun v wc => v = .bool c ∧ wc = W)
  case first =>
    cases hq : (queue != 0)
    · cases hs : (size != 0)
      · cases hk : (keep != 0)
        · have e : c = false := by rw [HC.out]; unfold conn; simp only [hq, hs, hk]; rfl
          subst e
          go_wp2_with fail
          go_meet
          exact ⟨rfl, rfl⟩
        · have e : c = true := by rw [HC.out]; unfold conn; simp only [hq, hs, hk]; rfl
          subst e
          go_wp2_with fail
          go_meet
          exact ⟨rfl, rfl⟩
      · have e : c = true := by rw [HC.out]; unfold conn; simp only [hq, hs]; rfl
        subst e
        go_wp2_with fail
        go_meet
        exact ⟨rfl, rfl⟩
    · have e : c = true := by rw [HC.out]; unfold conn; simp only [hq]; rfl
      subst e
      go_wp2_with fail
      go_meet
      exact ⟨rfl, rfl⟩
  case rest =>
    obtain ⟨rfl, hwc⟩ := hcut
    have hwc2 := hwc.symm
    subst hwc2
    go_upto_region 2 with (fail)
    go_cut [4] from 4 to 25 (fun v w4 => v = .bool p ∧ w4 = W)
    case first =>
      cases wide
      · cases ho : (offset != 0)
        · have e : p = false := by rw [HP.out]; unfold prop; simp only [ho]; rfl
          subst e
          go_wp2_with fail
          go_meet
          exact ⟨rfl, rfl⟩
        · have e : p = true := by rw [HP.out]; unfold prop; simp only [ho]; rfl
          subst e
          go_wp2_with fail
          go_meet
          exact ⟨rfl, rfl⟩
      · have e : p = true := by rw [HP.out]; unfold prop; rfl
        subst e
        go_wp2_with fail
        go_meet
        exact ⟨rfl, rfl⟩
    case rest =>
      obtain ⟨rfl, hwc3⟩ := hcut
      have hwc4 := hwc3.symm
      subst hwc4
      clear HC HP
      cases c
      case false =>
        cases h1 : (length == 0)
        case false =>
          go_wp2_with fail
          go_ret
          exact ⟨by first | rfl | simp [*], HWb.out⟩
        case true =>
          cases g
          case false =>
            go_wp2_with fail
            refine (HA.out _).mono ?_
            rintro e w1 ⟨rfl, hb1⟩
            obtain ⟨hc1, hf1⟩ := bcell hb1
            go_wp2_with fail
            go_ret
            exact ⟨by first | rfl | simp [*], HWb.out.trans (hb1.mono HWb.out.size)⟩
          case true =>
            cases wide
            case false =>
              cases hval : decide (value < 4294967296)
              case false =>
                go_wp2_with fail
                refine (HA.out _).mono ?_
                rintro e w1 ⟨rfl, hb1⟩
                obtain ⟨hc1, hf1⟩ := bcell hb1
                go_wp2_with fail
                go_ret
                exact ⟨by first | rfl | simp [*], HWb.out.trans (hb1.mono HWb.out.size)⟩
              case true =>
                go_wp2_with fail
                refine (HA.out _).mono ?_
                rintro e w1 ⟨rfl, hb1⟩
                obtain ⟨hc1, hf1⟩ := bcell hb1
                go_wp2_with fail
                go_ret
                exact ⟨by first | rfl | simp [*], HWb.out.trans (hb1.mono HWb.out.size)⟩
            case true =>
              go_wp2_with fail
              refine (HA.out _).mono ?_
              rintro e w1 ⟨rfl, hb1⟩
              obtain ⟨hc1, hf1⟩ := bcell hb1
              go_wp2_with fail
              go_ret
              exact ⟨by first | rfl | simp [*], HWb.out.trans (hb1.mono HWb.out.size)⟩
      case true =>
        go_wp2_with fail
        go_ret
        exact ⟨by first | rfl | simp [*], HWb.out⟩

set_option maxRecDepth 100000 in
set_option maxHeartbeats 4000000 in
theorem rv_1 (id queue size keep : Int) (wide : Bool) (offset value length : Int) (w : World) (c p g : Bool) (hc : c = conn ⟨1, id, queue, size, keep, wide, offset, value, length⟩) (hp : p = prop ⟨1, id, queue, size, keep, wide, offset, value, length⟩)
    (ha : ∀ w, Calls Try.prog 40 #[Fab.v ⟨1, id, queue, size, keep, wide, offset, value, length⟩] w fun e w' => e = .returned (.bool g) ∧ Below w.heap.size w w') :
    Calls Try.prog 20 #[Fab.v ⟨1, id, queue, size, keep, wide, offset, value, length⟩] w fun e w' => e = .returned (.bool (!p && ((value == 0) && ((length == 0) && (decide (1 ≤ size) && (decide (size ≤ 4095) && ((queue == 0 || keep == 0)))))))) ∧ Below w.heap.size w w' := by
  have HA := Lib.hid ha
  have HC := Lib.hid hc
  have HP := Lib.hid hp
  clear ha hc hp
  unfold Fab.v at *
  simp only [] at *
  go_enter Try.func20, Try.ntmps20
  go_upto_region 1 with (fail)
  obtain ⟨W, hW⟩ : ∃ W, W = w.alloc (.cells #[.int .u8 1, .int .u16 id, .int .u16 queue, .int .u16 size, .int .u32 keep, .bool wide, .int .u32 offset, .int .u64 value, .int .u32 length] 42) := ⟨_, rfl⟩
  rw [← hW]
  have hWb : Below w.heap.size w W := by rw [hW]; exact (Below.refl _ w).alloc (Nat.le_refl _) _
  have c0 : W.cell? ⟨w.heap.size, 0, none⟩ = some (.int .u8 1) := by rw [hW]; go_simp
  have c1 : W.cell? ⟨w.heap.size, 1, none⟩ = some (.int .u16 id) := by rw [hW]; go_simp
  have c2 : W.cell? ⟨w.heap.size, 2, none⟩ = some (.int .u16 queue) := by rw [hW]; go_simp
  have c3 : W.cell? ⟨w.heap.size, 3, none⟩ = some (.int .u16 size) := by rw [hW]; go_simp
  have c4 : W.cell? ⟨w.heap.size, 4, none⟩ = some (.int .u32 keep) := by rw [hW]; go_simp
  have c5 : W.cell? ⟨w.heap.size, 5, none⟩ = some (.bool wide) := by rw [hW]; go_simp
  have c6 : W.cell? ⟨w.heap.size, 6, none⟩ = some (.int .u32 offset) := by rw [hW]; go_simp
  have c7 : W.cell? ⟨w.heap.size, 7, none⟩ = some (.int .u64 value) := by rw [hW]; go_simp
  have c8 : W.cell? ⟨w.heap.size, 8, none⟩ = some (.int .u32 length) := by rw [hW]; go_simp
  have HWb := Lib.hid hWb
  have hlt : w.heap.size < W.heap.size := by rw [hW]; simp
  clear hW hWb
  go_cut [3] from 3 to 18 (fun v wc => v = .bool c ∧ wc = W)
  case first =>
    cases hq : (queue != 0)
    · cases hs : (size != 0)
      · cases hk : (keep != 0)
        · have e : c = false := by rw [HC.out]; unfold conn; simp only [hq, hs, hk]; rfl
          subst e
          go_wp2_with fail
          go_meet
          exact ⟨rfl, rfl⟩
        · have e : c = true := by rw [HC.out]; unfold conn; simp only [hq, hs, hk]; rfl
          subst e
          go_wp2_with fail
          go_meet
          exact ⟨rfl, rfl⟩
      · have e : c = true := by rw [HC.out]; unfold conn; simp only [hq, hs]; rfl
        subst e
        go_wp2_with fail
        go_meet
        exact ⟨rfl, rfl⟩
    · have e : c = true := by rw [HC.out]; unfold conn; simp only [hq]; rfl
      subst e
      go_wp2_with fail
      go_meet
      exact ⟨rfl, rfl⟩
  case rest =>
    obtain ⟨rfl, hwc⟩ := hcut
    have hwc2 := hwc.symm
    subst hwc2
    go_upto_region 2 with (fail)
    go_cut [4] from 4 to 25 (fun v w4 => v = .bool p ∧ w4 = W)
    case first =>
      cases wide
      · cases ho : (offset != 0)
        · have e : p = false := by rw [HP.out]; unfold prop; simp only [ho]; rfl
          subst e
          go_wp2_with fail
          go_meet
          exact ⟨rfl, rfl⟩
        · have e : p = true := by rw [HP.out]; unfold prop; simp only [ho]; rfl
          subst e
          go_wp2_with fail
          go_meet
          exact ⟨rfl, rfl⟩
      · have e : p = true := by rw [HP.out]; unfold prop; rfl
        subst e
        go_wp2_with fail
        go_meet
        exact ⟨rfl, rfl⟩
    case rest =>
      obtain ⟨rfl, hwc3⟩ := hcut
      have hwc4 := hwc3.symm
      subst hwc4
      clear HC HP
      cases p
      case false =>
        cases h1 : (value == 0)
        case false =>
          go_wp2_with fail
          go_ret
          exact ⟨by first | rfl | simp [*], HWb.out⟩
        case true =>
          cases h2 : (length == 0)
          case false =>
            go_wp2_with fail
            go_ret
            exact ⟨by first | rfl | simp [*], HWb.out⟩
          case true =>
            cases h3 : decide (1 ≤ size)
            case false =>
              go_wp2_with fail
              go_ret
              exact ⟨by first | rfl | simp [*], HWb.out⟩
            case true =>
              cases h4 : decide (size ≤ 4095)
              case false =>
                go_wp2_with fail
                go_ret
                exact ⟨by first | rfl | simp [*], HWb.out⟩
              case true =>
                cases hqu : (queue == 0)
                case false =>
                  cases hke : (keep == 0)
                  case false =>
                    go_wp2_with fail
                    go_ret
                    exact ⟨by first | rfl | simp [*], HWb.out⟩
                  case true =>
                    go_wp2_with fail
                    go_ret
                    exact ⟨by first | rfl | simp [*], HWb.out⟩
                case true =>
                  go_wp2_with fail
                  go_ret
                  exact ⟨by first | rfl | simp [*], HWb.out⟩
      case true =>
        go_wp2_with fail
        go_ret
        exact ⟨by first | rfl | simp [*], HWb.out⟩

set_option maxRecDepth 100000 in
set_option maxHeartbeats 4000000 in
theorem rv_4 (id queue size keep : Int) (wide : Bool) (offset value length : Int) (w : World) (c p g : Bool) (hc : c = conn ⟨4, id, queue, size, keep, wide, offset, value, length⟩) (hp : p = prop ⟨4, id, queue, size, keep, wide, offset, value, length⟩)
    (ha : ∀ w, Calls Try.prog 40 #[Fab.v ⟨4, id, queue, size, keep, wide, offset, value, length⟩] w fun e w' => e = .returned (.bool g) ∧ Below w.heap.size w w') :
    Calls Try.prog 20 #[Fab.v ⟨4, id, queue, size, keep, wide, offset, value, length⟩] w fun e w' => e = .returned (.bool (!c && ((value == 0) && ((length == 0) && (g))))) ∧ Below w.heap.size w w' := by
  have HA := Lib.hid ha
  have HC := Lib.hid hc
  have HP := Lib.hid hp
  clear ha hc hp
  unfold Fab.v at *
  simp only [] at *
  go_enter Try.func20, Try.ntmps20
  go_upto_region 1 with (fail)
  obtain ⟨W, hW⟩ : ∃ W, W = w.alloc (.cells #[.int .u8 4, .int .u16 id, .int .u16 queue, .int .u16 size, .int .u32 keep, .bool wide, .int .u32 offset, .int .u64 value, .int .u32 length] 42) := ⟨_, rfl⟩
  rw [← hW]
  have hWb : Below w.heap.size w W := by rw [hW]; exact (Below.refl _ w).alloc (Nat.le_refl _) _
  have c0 : W.cell? ⟨w.heap.size, 0, none⟩ = some (.int .u8 4) := by rw [hW]; go_simp
  have c1 : W.cell? ⟨w.heap.size, 1, none⟩ = some (.int .u16 id) := by rw [hW]; go_simp
  have c2 : W.cell? ⟨w.heap.size, 2, none⟩ = some (.int .u16 queue) := by rw [hW]; go_simp
  have c3 : W.cell? ⟨w.heap.size, 3, none⟩ = some (.int .u16 size) := by rw [hW]; go_simp
  have c4 : W.cell? ⟨w.heap.size, 4, none⟩ = some (.int .u32 keep) := by rw [hW]; go_simp
  have c5 : W.cell? ⟨w.heap.size, 5, none⟩ = some (.bool wide) := by rw [hW]; go_simp
  have c6 : W.cell? ⟨w.heap.size, 6, none⟩ = some (.int .u32 offset) := by rw [hW]; go_simp
  have c7 : W.cell? ⟨w.heap.size, 7, none⟩ = some (.int .u64 value) := by rw [hW]; go_simp
  have c8 : W.cell? ⟨w.heap.size, 8, none⟩ = some (.int .u32 length) := by rw [hW]; go_simp
  have HWb := Lib.hid hWb
  have hlt : w.heap.size < W.heap.size := by rw [hW]; simp
  clear hW hWb
  go_cut [3] from 3 to 18 (fun v wc => v = .bool c ∧ wc = W)
  case first =>
    cases hq : (queue != 0)
    · cases hs : (size != 0)
      · cases hk : (keep != 0)
        · have e : c = false := by rw [HC.out]; unfold conn; simp only [hq, hs, hk]; rfl
          subst e
          go_wp2_with fail
          go_meet
          exact ⟨rfl, rfl⟩
        · have e : c = true := by rw [HC.out]; unfold conn; simp only [hq, hs, hk]; rfl
          subst e
          go_wp2_with fail
          go_meet
          exact ⟨rfl, rfl⟩
      · have e : c = true := by rw [HC.out]; unfold conn; simp only [hq, hs]; rfl
        subst e
        go_wp2_with fail
        go_meet
        exact ⟨rfl, rfl⟩
    · have e : c = true := by rw [HC.out]; unfold conn; simp only [hq]; rfl
      subst e
      go_wp2_with fail
      go_meet
      exact ⟨rfl, rfl⟩
  case rest =>
    obtain ⟨rfl, hwc⟩ := hcut
    have hwc2 := hwc.symm
    subst hwc2
    go_upto_region 2 with (fail)
    go_cut [4] from 4 to 25 (fun v w4 => v = .bool p ∧ w4 = W)
    case first =>
      cases wide
      · cases ho : (offset != 0)
        · have e : p = false := by rw [HP.out]; unfold prop; simp only [ho]; rfl
          subst e
          go_wp2_with fail
          go_meet
          exact ⟨rfl, rfl⟩
        · have e : p = true := by rw [HP.out]; unfold prop; simp only [ho]; rfl
          subst e
          go_wp2_with fail
          go_meet
          exact ⟨rfl, rfl⟩
      · have e : p = true := by rw [HP.out]; unfold prop; rfl
        subst e
        go_wp2_with fail
        go_meet
        exact ⟨rfl, rfl⟩
    case rest =>
      obtain ⟨rfl, hwc3⟩ := hcut
      have hwc4 := hwc3.symm
      subst hwc4
      clear HC HP
      cases c
      case false =>
        cases h1 : (value == 0)
        case false =>
          go_wp2_with fail
          go_ret
          exact ⟨by first | rfl | simp [*], HWb.out⟩
        case true =>
          cases h2 : (length == 0)
          case false =>
            go_wp2_with fail
            go_ret
            exact ⟨by first | rfl | simp [*], HWb.out⟩
          case true =>
            cases g
            case false =>
              go_wp2_with fail
              refine (HA.out _).mono ?_
              rintro e w1 ⟨rfl, hb1⟩
              obtain ⟨hc1, hf1⟩ := bcell hb1
              go_wp2_with fail
              go_ret
              exact ⟨by first | rfl | simp [*], HWb.out.trans (hb1.mono HWb.out.size)⟩
            case true =>
              go_wp2_with fail
              refine (HA.out _).mono ?_
              rintro e w1 ⟨rfl, hb1⟩
              obtain ⟨hc1, hf1⟩ := bcell hb1
              go_wp2_with fail
              go_ret
              exact ⟨by first | rfl | simp [*], HWb.out.trans (hb1.mono HWb.out.size)⟩
      case true =>
        go_wp2_with fail
        go_ret
        exact ⟨by first | rfl | simp [*], HWb.out⟩

set_option maxRecDepth 100000 in
set_option maxHeartbeats 4000000 in
theorem rv_5 (id queue size keep : Int) (wide : Bool) (offset value length : Int) (w : World) (c p g : Bool) (hc : c = conn ⟨5, id, queue, size, keep, wide, offset, value, length⟩) (hp : p = prop ⟨5, id, queue, size, keep, wide, offset, value, length⟩)
    (ha : ∀ w, Calls Try.prog 40 #[Fab.v ⟨5, id, queue, size, keep, wide, offset, value, length⟩] w fun e w' => e = .returned (.bool g) ∧ Below w.heap.size w w') :
    Calls Try.prog 20 #[Fab.v ⟨5, id, queue, size, keep, wide, offset, value, length⟩] w fun e w' => e = .returned (.bool (!c && (!p && ((value == 0) && (decide (1 ≤ length) && (decide (length ≤ 65536))))))) ∧ Below w.heap.size w w' := by
  have HA := Lib.hid ha
  have HC := Lib.hid hc
  have HP := Lib.hid hp
  clear ha hc hp
  unfold Fab.v at *
  simp only [] at *
  go_enter Try.func20, Try.ntmps20
  go_upto_region 1 with (fail)
  obtain ⟨W, hW⟩ : ∃ W, W = w.alloc (.cells #[.int .u8 5, .int .u16 id, .int .u16 queue, .int .u16 size, .int .u32 keep, .bool wide, .int .u32 offset, .int .u64 value, .int .u32 length] 42) := ⟨_, rfl⟩
  rw [← hW]
  have hWb : Below w.heap.size w W := by rw [hW]; exact (Below.refl _ w).alloc (Nat.le_refl _) _
  have c0 : W.cell? ⟨w.heap.size, 0, none⟩ = some (.int .u8 5) := by rw [hW]; go_simp
  have c1 : W.cell? ⟨w.heap.size, 1, none⟩ = some (.int .u16 id) := by rw [hW]; go_simp
  have c2 : W.cell? ⟨w.heap.size, 2, none⟩ = some (.int .u16 queue) := by rw [hW]; go_simp
  have c3 : W.cell? ⟨w.heap.size, 3, none⟩ = some (.int .u16 size) := by rw [hW]; go_simp
  have c4 : W.cell? ⟨w.heap.size, 4, none⟩ = some (.int .u32 keep) := by rw [hW]; go_simp
  have c5 : W.cell? ⟨w.heap.size, 5, none⟩ = some (.bool wide) := by rw [hW]; go_simp
  have c6 : W.cell? ⟨w.heap.size, 6, none⟩ = some (.int .u32 offset) := by rw [hW]; go_simp
  have c7 : W.cell? ⟨w.heap.size, 7, none⟩ = some (.int .u64 value) := by rw [hW]; go_simp
  have c8 : W.cell? ⟨w.heap.size, 8, none⟩ = some (.int .u32 length) := by rw [hW]; go_simp
  have HWb := Lib.hid hWb
  have hlt : w.heap.size < W.heap.size := by rw [hW]; simp
  clear hW hWb
  go_cut [3] from 3 to 18 (fun v wc => v = .bool c ∧ wc = W)
  case first =>
    cases hq : (queue != 0)
    · cases hs : (size != 0)
      · cases hk : (keep != 0)
        · have e : c = false := by rw [HC.out]; unfold conn; simp only [hq, hs, hk]; rfl
          subst e
          go_wp2_with fail
          go_meet
          exact ⟨rfl, rfl⟩
        · have e : c = true := by rw [HC.out]; unfold conn; simp only [hq, hs, hk]; rfl
          subst e
          go_wp2_with fail
          go_meet
          exact ⟨rfl, rfl⟩
      · have e : c = true := by rw [HC.out]; unfold conn; simp only [hq, hs]; rfl
        subst e
        go_wp2_with fail
        go_meet
        exact ⟨rfl, rfl⟩
    · have e : c = true := by rw [HC.out]; unfold conn; simp only [hq]; rfl
      subst e
      go_wp2_with fail
      go_meet
      exact ⟨rfl, rfl⟩
  case rest =>
    obtain ⟨rfl, hwc⟩ := hcut
    have hwc2 := hwc.symm
    subst hwc2
    go_upto_region 2 with (fail)
    go_cut [4] from 4 to 25 (fun v w4 => v = .bool p ∧ w4 = W)
    case first =>
      cases wide
      · cases ho : (offset != 0)
        · have e : p = false := by rw [HP.out]; unfold prop; simp only [ho]; rfl
          subst e
          go_wp2_with fail
          go_meet
          exact ⟨rfl, rfl⟩
        · have e : p = true := by rw [HP.out]; unfold prop; simp only [ho]; rfl
          subst e
          go_wp2_with fail
          go_meet
          exact ⟨rfl, rfl⟩
      · have e : p = true := by rw [HP.out]; unfold prop; rfl
        subst e
        go_wp2_with fail
        go_meet
        exact ⟨rfl, rfl⟩
    case rest =>
      obtain ⟨rfl, hwc3⟩ := hcut
      have hwc4 := hwc3.symm
      subst hwc4
      clear HC HP
      cases c
      case false =>
        cases p
        case false =>
          cases h2 : (value == 0)
          case false =>
            go_wp2_with fail
            go_ret
            exact ⟨by first | rfl | simp [*], HWb.out⟩
          case true =>
            cases h3 : decide (1 ≤ length)
            case false =>
              go_wp2_with fail
              go_ret
              exact ⟨by first | rfl | simp [*], HWb.out⟩
            case true =>
              cases h4 : decide (length ≤ 65536)
              case false =>
                go_wp2_with fail
                go_ret
                exact ⟨by first | rfl | simp [*], HWb.out⟩
              case true =>
                go_wp2_with fail
                go_ret
                exact ⟨by first | rfl | simp [*], HWb.out⟩
        case true =>
          go_wp2_with fail
          go_ret
          exact ⟨by first | rfl | simp [*], HWb.out⟩
      case true =>
        go_wp2_with fail
        go_ret
        exact ⟨by first | rfl | simp [*], HWb.out⟩

set_option maxRecDepth 100000 in
set_option maxHeartbeats 4000000 in
theorem rv_6 (id queue size keep : Int) (wide : Bool) (offset value length : Int) (w : World) (c p g : Bool) (hc : c = conn ⟨6, id, queue, size, keep, wide, offset, value, length⟩) (hp : p = prop ⟨6, id, queue, size, keep, wide, offset, value, length⟩)
    (ha : ∀ w, Calls Try.prog 40 #[Fab.v ⟨6, id, queue, size, keep, wide, offset, value, length⟩] w fun e w' => e = .returned (.bool g) ∧ Below w.heap.size w w') :
    Calls Try.prog 20 #[Fab.v ⟨6, id, queue, size, keep, wide, offset, value, length⟩] w fun e w' => e = .returned (.bool (!c && (!p && ((value == 0) && (decide (1 ≤ length) && (decide (length ≤ 65536))))))) ∧ Below w.heap.size w w' := by
  have HA := Lib.hid ha
  have HC := Lib.hid hc
  have HP := Lib.hid hp
  clear ha hc hp
  unfold Fab.v at *
  simp only [] at *
  go_enter Try.func20, Try.ntmps20
  go_upto_region 1 with (fail)
  obtain ⟨W, hW⟩ : ∃ W, W = w.alloc (.cells #[.int .u8 6, .int .u16 id, .int .u16 queue, .int .u16 size, .int .u32 keep, .bool wide, .int .u32 offset, .int .u64 value, .int .u32 length] 42) := ⟨_, rfl⟩
  rw [← hW]
  have hWb : Below w.heap.size w W := by rw [hW]; exact (Below.refl _ w).alloc (Nat.le_refl _) _
  have c0 : W.cell? ⟨w.heap.size, 0, none⟩ = some (.int .u8 6) := by rw [hW]; go_simp
  have c1 : W.cell? ⟨w.heap.size, 1, none⟩ = some (.int .u16 id) := by rw [hW]; go_simp
  have c2 : W.cell? ⟨w.heap.size, 2, none⟩ = some (.int .u16 queue) := by rw [hW]; go_simp
  have c3 : W.cell? ⟨w.heap.size, 3, none⟩ = some (.int .u16 size) := by rw [hW]; go_simp
  have c4 : W.cell? ⟨w.heap.size, 4, none⟩ = some (.int .u32 keep) := by rw [hW]; go_simp
  have c5 : W.cell? ⟨w.heap.size, 5, none⟩ = some (.bool wide) := by rw [hW]; go_simp
  have c6 : W.cell? ⟨w.heap.size, 6, none⟩ = some (.int .u32 offset) := by rw [hW]; go_simp
  have c7 : W.cell? ⟨w.heap.size, 7, none⟩ = some (.int .u64 value) := by rw [hW]; go_simp
  have c8 : W.cell? ⟨w.heap.size, 8, none⟩ = some (.int .u32 length) := by rw [hW]; go_simp
  have HWb := Lib.hid hWb
  have hlt : w.heap.size < W.heap.size := by rw [hW]; simp
  clear hW hWb
  go_cut [3] from 3 to 18 (fun v wc => v = .bool c ∧ wc = W)
  case first =>
    cases hq : (queue != 0)
    · cases hs : (size != 0)
      · cases hk : (keep != 0)
        · have e : c = false := by rw [HC.out]; unfold conn; simp only [hq, hs, hk]; rfl
          subst e
          go_wp2_with fail
          go_meet
          exact ⟨rfl, rfl⟩
        · have e : c = true := by rw [HC.out]; unfold conn; simp only [hq, hs, hk]; rfl
          subst e
          go_wp2_with fail
          go_meet
          exact ⟨rfl, rfl⟩
      · have e : c = true := by rw [HC.out]; unfold conn; simp only [hq, hs]; rfl
        subst e
        go_wp2_with fail
        go_meet
        exact ⟨rfl, rfl⟩
    · have e : c = true := by rw [HC.out]; unfold conn; simp only [hq]; rfl
      subst e
      go_wp2_with fail
      go_meet
      exact ⟨rfl, rfl⟩
  case rest =>
    obtain ⟨rfl, hwc⟩ := hcut
    have hwc2 := hwc.symm
    subst hwc2
    go_upto_region 2 with (fail)
    go_cut [4] from 4 to 25 (fun v w4 => v = .bool p ∧ w4 = W)
    case first =>
      cases wide
      · cases ho : (offset != 0)
        · have e : p = false := by rw [HP.out]; unfold prop; simp only [ho]; rfl
          subst e
          go_wp2_with fail
          go_meet
          exact ⟨rfl, rfl⟩
        · have e : p = true := by rw [HP.out]; unfold prop; simp only [ho]; rfl
          subst e
          go_wp2_with fail
          go_meet
          exact ⟨rfl, rfl⟩
      · have e : p = true := by rw [HP.out]; unfold prop; rfl
        subst e
        go_wp2_with fail
        go_meet
        exact ⟨rfl, rfl⟩
    case rest =>
      obtain ⟨rfl, hwc3⟩ := hcut
      have hwc4 := hwc3.symm
      subst hwc4
      clear HC HP
      cases c
      case false =>
        cases p
        case false =>
          cases h2 : (value == 0)
          case false =>
            go_wp2_with fail
            go_ret
            exact ⟨by first | rfl | simp [*], HWb.out⟩
          case true =>
            cases h3 : decide (1 ≤ length)
            case false =>
              go_wp2_with fail
              go_ret
              exact ⟨by first | rfl | simp [*], HWb.out⟩
            case true =>
              cases h4 : decide (length ≤ 65536)
              case false =>
                go_wp2_with fail
                go_ret
                exact ⟨by first | rfl | simp [*], HWb.out⟩
              case true =>
                go_wp2_with fail
                go_ret
                exact ⟨by first | rfl | simp [*], HWb.out⟩
        case true =>
          go_wp2_with fail
          go_ret
          exact ⟨by first | rfl | simp [*], HWb.out⟩
      case true =>
        go_wp2_with fail
        go_ret
        exact ⟨by first | rfl | simp [*], HWb.out⟩

set_option maxRecDepth 100000 in
set_option maxHeartbeats 4000000 in
theorem rv_other (kind id queue size keep : Int) (wide : Bool) (offset value length : Int) (w : World) (k0 : (wrap64 kind == 0) = false) (k1 : (wrap64 kind == 1) = false) (k4 : (wrap64 kind == 4) = false) (k5 : (wrap64 kind == 5) = false) (k6 : (wrap64 kind == 6) = false) (k8 : (wrap64 kind == 8) = false) (c p g : Bool) (hc : c = conn ⟨kind, id, queue, size, keep, wide, offset, value, length⟩) (hp : p = prop ⟨kind, id, queue, size, keep, wide, offset, value, length⟩)
    (ha : ∀ w, Calls Try.prog 40 #[Fab.v ⟨kind, id, queue, size, keep, wide, offset, value, length⟩] w fun e w' => e = .returned (.bool g) ∧ Below w.heap.size w w') :
    Calls Try.prog 20 #[Fab.v ⟨kind, id, queue, size, keep, wide, offset, value, length⟩] w fun e w' => e = .returned (.bool (false)) ∧ Below w.heap.size w w' := by
  have HA := Lib.hid ha
  have HC := Lib.hid hc
  have HP := Lib.hid hp
  clear ha hc hp
  unfold Fab.v at *
  simp only [] at *
  go_enter Try.func20, Try.ntmps20
  go_upto_region 1 with (fail)
  obtain ⟨W, hW⟩ : ∃ W, W = w.alloc (.cells #[.int .u8 kind, .int .u16 id, .int .u16 queue, .int .u16 size, .int .u32 keep, .bool wide, .int .u32 offset, .int .u64 value, .int .u32 length] 42) := ⟨_, rfl⟩
  rw [← hW]
  have hWb : Below w.heap.size w W := by rw [hW]; exact (Below.refl _ w).alloc (Nat.le_refl _) _
  have c0 : W.cell? ⟨w.heap.size, 0, none⟩ = some (.int .u8 kind) := by rw [hW]; go_simp
  have c1 : W.cell? ⟨w.heap.size, 1, none⟩ = some (.int .u16 id) := by rw [hW]; go_simp
  have c2 : W.cell? ⟨w.heap.size, 2, none⟩ = some (.int .u16 queue) := by rw [hW]; go_simp
  have c3 : W.cell? ⟨w.heap.size, 3, none⟩ = some (.int .u16 size) := by rw [hW]; go_simp
  have c4 : W.cell? ⟨w.heap.size, 4, none⟩ = some (.int .u32 keep) := by rw [hW]; go_simp
  have c5 : W.cell? ⟨w.heap.size, 5, none⟩ = some (.bool wide) := by rw [hW]; go_simp
  have c6 : W.cell? ⟨w.heap.size, 6, none⟩ = some (.int .u32 offset) := by rw [hW]; go_simp
  have c7 : W.cell? ⟨w.heap.size, 7, none⟩ = some (.int .u64 value) := by rw [hW]; go_simp
  have c8 : W.cell? ⟨w.heap.size, 8, none⟩ = some (.int .u32 length) := by rw [hW]; go_simp
  have HWb := Lib.hid hWb
  have hlt : w.heap.size < W.heap.size := by rw [hW]; simp
  clear hW hWb
  go_cut [3] from 3 to 18 (fun v wc => v = .bool c ∧ wc = W)
  case first =>
    cases hq : (queue != 0)
    · cases hs : (size != 0)
      · cases hk : (keep != 0)
        · have e : c = false := by rw [HC.out]; unfold conn; simp only [hq, hs, hk]; rfl
          subst e
          go_wp2_with fail
          go_meet
          exact ⟨rfl, rfl⟩
        · have e : c = true := by rw [HC.out]; unfold conn; simp only [hq, hs, hk]; rfl
          subst e
          go_wp2_with fail
          go_meet
          exact ⟨rfl, rfl⟩
      · have e : c = true := by rw [HC.out]; unfold conn; simp only [hq, hs]; rfl
        subst e
        go_wp2_with fail
        go_meet
        exact ⟨rfl, rfl⟩
    · have e : c = true := by rw [HC.out]; unfold conn; simp only [hq]; rfl
      subst e
      go_wp2_with fail
      go_meet
      exact ⟨rfl, rfl⟩
  case rest =>
    obtain ⟨rfl, hwc⟩ := hcut
    have hwc2 := hwc.symm
    subst hwc2
    go_upto_region 2 with (fail)
    go_cut [4] from 4 to 25 (fun v w4 => v = .bool p ∧ w4 = W)
    case first =>
      cases wide
      · cases ho : (offset != 0)
        · have e : p = false := by rw [HP.out]; unfold prop; simp only [ho]; rfl
          subst e
          go_wp2_with fail
          go_meet
          exact ⟨rfl, rfl⟩
        · have e : p = true := by rw [HP.out]; unfold prop; simp only [ho]; rfl
          subst e
          go_wp2_with fail
          go_meet
          exact ⟨rfl, rfl⟩
      · have e : p = true := by rw [HP.out]; unfold prop; rfl
        subst e
        go_wp2_with fail
        go_meet
        exact ⟨rfl, rfl⟩
    case rest =>
      obtain ⟨rfl, hwc3⟩ := hcut
      have hwc4 := hwc3.symm
      subst hwc4
      clear HC HP
      go_wp2_with fail
      go_ret
      exact ⟨by first | rfl | simp [*], HWb.out⟩

theorem refvalid_any (f : Fab) (w : World) (hok : f.Ok) : Calls Try.prog 20 #[f.v] w fun e w' => e = .returned (.bool (vld f)) ∧ Below w.heap.size w w' := by
  rw [← rvld_eq]
  have HA := fun w => refaligned f w hok.offset
  obtain ⟨kind, id, queue, size, keep, wide, offset, value, length⟩ := f
  unfold rvld
  simp only []
  by_cases h0 : kind = 0
  · subst h0; exact rv_0 _ _ _ _ _ _ _ _ w _ _ _ rfl rfl HA
  rw [if_neg h0]
  by_cases h1 : kind = 1
  · subst h1; exact rv_1 _ _ _ _ _ _ _ _ w _ _ _ rfl rfl HA
  rw [if_neg h1]
  by_cases h4 : kind = 4
  · subst h4; exact rv_4 _ _ _ _ _ _ _ _ w _ _ _ rfl rfl HA
  rw [if_neg h4]
  by_cases h5 : kind = 5
  · subst h5; exact rv_5 _ _ _ _ _ _ _ _ w _ _ _ rfl rfl HA
  rw [if_neg h5]
  by_cases h6 : kind = 6
  · subst h6; exact rv_6 _ _ _ _ _ _ _ _ w _ _ _ rfl rfl HA
  rw [if_neg h6]
  by_cases h8 : kind = 8
  · subst h8; exact rv_8 _ _ _ _ _ _ _ _ w _ _ _ rfl rfl HA
  rw [if_neg h8]
  have hw : ∀ j : Int, kind ≠ j → (wrap64 kind == j) = false := by
    intro j hj
    have hk : 0 ≤ kind ∧ kind ≤ 255 := hok.kind
    have e : wrap64 kind = kind := by unfold wrap64; omega
    rw [e]
    exact beq_eq_false_iff_ne.2 hj
  exact rv_other _ _ _ _ _ _ _ _ _ w (hw 0 h0) (hw 1 h1) (hw 4 h4) (hw 5 h5) (hw 6 h6) (hw 8 h8) _ _ _ rfl rfl HA
end Go.Proofs.Ytchkipafjnehfaa
