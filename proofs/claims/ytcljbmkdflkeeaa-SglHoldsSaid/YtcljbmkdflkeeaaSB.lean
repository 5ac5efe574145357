/- sgl: the specification's Bytes. -/
import Derived.Test.YtcljbmkdflkeeaaSD
namespace Go.Proofs.Ytcljbmkdflkeeaa
set_option linter.unusedVariables false
set_option linter.unusedSimpArgs false
open Go.RowKit

/-- the bytes of a number laid over a row: k of them from o on -/
def putO (v : Int) (o k : Nat) (f : Nat → Value) : Nat → Value := fun j => if o ≤ j ∧ j < o + k then .int .u8 (byteOf v (j - o)) else f j
theorem putO_step (v : Int) (o k : Nat) (f : Nat → Value) (j : Nat) : (if j = o + k then Value.int .u8 (v / 2 ^ (8 * k) % 256) else putO v o k f j) = putO v o (k + 1) f j := by
  unfold putO
  by_cases e : j = o + k
  · subst e; rw [if_pos rfl, if_pos (by omega)]; rw [show o + k - o = k by omega]; rfl
  · by_cases h : o ≤ j ∧ j < o + k
    · rw [if_neg e, if_pos h, if_pos (by omega)]
    · rw [if_neg e, if_neg h, if_neg (by omega)]
theorem putO_zero (v : Int) (o : Nat) (f : Nat → Value) (j : Nat) : putO v o 0 f j = f j := by unfold putO; rw [if_neg (by omega)]
def zB : Nat → Value := fun _ => .int .u8 0

/-- byte j of a descriptor -/
def dB (d : Dsc) (j : Nat) : Int :=
  if j = 15 then 16 * (d.k - 1) % 256 else if d.k = 5 ∧ 11 ≤ j then byteOf d.key (j - 11) else if j < 8 then byteOf d.a j else if j < 12 then byteOf d.n (j - 8) else 0
theorem byteOf_bd (v : Int) (j : Nat) : 0 ≤ byteOf v j ∧ byteOf v j ≤ 255 := by unfold byteOf; omega
theorem dB_bd (d : Dsc) (j : Nat) : 0 ≤ dB d j ∧ dB d j ≤ 255 := by
  unfold dB
  split
  · omega
  · split
    · exact byteOf_bd _ _
    · split
      · exact byteOf_bd _ _
      · split
        · exact byteOf_bd _ _
        · omega
theorem dB_row5 (d : Dsc) (h : d.k = 5) (j : Nat) : (if j = 15 then Value.int .u8 (16 * (d.k - 1) % 256) else putO d.key 11 4 (putO d.n 8 4 (putO d.a 0 8 zB)) j) = .int .u8 (dB d j) ∨ 16 ≤ j := by
  by_cases hj : 16 ≤ j
  · exact .inr hj
  refine .inl ?_
  unfold dB putO zB
  repeat' split
  all_goals first | rfl | (exfalso; omega)
theorem dB_row (d : Dsc) (h : d.k ≠ 5) (j : Nat) : (if j = 15 then Value.int .u8 (16 * (d.k - 1) % 256) else putO d.n 8 4 (putO d.a 0 8 zB) j) = .int .u8 (dB d j) := by
  unfold dB putO zB
  repeat' split
  all_goals first | rfl | (exfalso; omega)

theorem wrap_kind (k : Int) : wrap64 (16 * wrap64 (k - 1)) % 256 = 16 * (k - 1) % 256 := by
  unfold wrap64
  omega
/-- a new row of bytes -/
def NewRow (w w' : World) (n : Nat) (F : Nat → Int) (e : Ending) : Prop := ∃ g, e = .returned (.slice (some ⟨g, 0, none⟩) n n) ∧ w.heap.size ≤ g ∧ Below w.heap.size w w' ∧ w'.rowIs g 5 n (fun j => .int .u8 (F j))

set_option maxRecDepth 100000 in
set_option maxHeartbeats 4000000 in
theorem bytes_any (d : Dsc) (w : World) (hok : d.Ok) : Calls Try.prog 25 #[.agg d.cells] w fun e w' => NewRow w w' 16 (dB d) e := by
  have H5 := Lib.hid (dB_row5 d)
  have HN := Lib.hid (dB_row d)
  obtain ⟨B, hB⟩ : ∃ z, z = dB d := ⟨_, rfl⟩
  rw [← hB] at H5 HN ⊢
  obtain ⟨k, a, n, key⟩ := d
  obtain ⟨hk, ha, hn, hkey⟩ := hok
  unfold Dsc.cells at *
  simp only [] at *
  have hmk : ∀ w, (Instr.makeSlice 42 (.int .i64 16) (.int .i64 16)).run Try.prog w = .ok (.slice (some ⟨w.heap.size, 0, none⟩) 16 16) (w.alloc (.cells (madeCells #[.int .u8 0] 16) 5)) := fun w =>
    run_make_row' (P := Try.prog) 42 5 (.int .u8 0) 1 Try.underlying42 infoU8 rfl .i64 .i64 16 (by omega) (by omega) w
  have hrow := World.rowIs_made (w.alloc (.cells #[.int .i64 k, .int .u64 a, .int .i64 n, .int .u32 key] 26)) (.int .u8 0) 16 5
  obtain ⟨W1, hW⟩ : ∃ z, z = (w.alloc (.cells #[.int .i64 k, .int .u64 a, .int .i64 n, .int .u32 key] 26)).alloc (.cells (madeCells #[.int .u8 0] 16) 5) := ⟨_, rfl⟩
  rw [← hW] at hrow
  have d0 : W1.cell? ⟨w.heap.size, 0, none⟩ = some (.int .i64 k) := by rw [hW]; go_simp
  have d1 : W1.cell? ⟨w.heap.size, 1, none⟩ = some (.int .u64 a) := by rw [hW]; go_simp
  have d2 : W1.cell? ⟨w.heap.size, 2, none⟩ = some (.int .i64 n) := by rw [hW]; go_simp
  have d3 : W1.cell? ⟨w.heap.size, 3, none⟩ = some (.int .u32 key) := by rw [hW]; go_simp
  have HB := Lib.hid (show Below w.heap.size w W1 by rw [hW]; exact ((Below.refl _ w).alloc (Nat.le_refl _) _).alloc (by simp) _)
  rw [show (w.alloc (.cells #[.int .i64 k, .int .u64 a, .int .i64 n, .int .u32 key] 26)).heap.size = w.heap.size + 1 by simp] at hrow
  have D0 := Lib.hid d0
  have D1 := Lib.hid d1
  have D2 := Lib.hid d2
  have D3 := Lib.hid d3
  have HR := Lib.hid hrow
  have HW := Lib.hid hW
  clear hrow hW d0 d1 d2 d3 hB
  go_enter Try.func25, Try.ntmps25
  go_wp2_with fail
  rw [show (w.alloc (.cells #[.int .i64 k, .int .u64 a, .int .i64 n, .int .u32 key] 26)).alloc (.cells (madeCells #[.int .u8 0] 16) 5) = W1 from HW.out.symm]
  clear hmk HW
  obtain ⟨b, hb⟩ : ∃ z, z = w.heap.size := ⟨_, rfl⟩
  rw [← hb] at D0 D1 D2 D3 HR ⊢
  obtain ⟨g, hg⟩ : ∃ z, z = b + 1 := ⟨_, rfl⟩
  rw [← hg] at HR ⊢
  have hbg : b < g := by omega
  have hwg : w.heap.size ≤ g := by omega
  have HG := Lib.hid hg
  clear hb hg
  go_loopw [4] (fun i wr => ∃ j : Nat, j ≤ 8 ∧ i = .int .i64 j ∧ Keeps (One g) W1 wr ∧ wr.rowIs g 5 16 (putO a 0 j zB)) (fun i _ => 8 - (intOf i).toNat)
  case atStart => exact ⟨0, by omega, rfl, Keeps.refl _ _, HR.out.congr fun j _ => by rw [putO_zero]; rfl⟩
  case round =>
    obtain ⟨j, hj, rfl, hkp, hrow⟩ := hrel
    have HK := Lib.hid hkp
    have HRr := Lib.hid hrow
    clear hkp hrow
    by_cases hlt : j < 8
    · have c1 := HK.out.cell D1.out (fun e => by have e : b = g := e; omega)
      have hc := HRr.out.cell (i := j) (by omega)
      have hf := HRr.out.frozen j
      have e1 : IntKind.i64.wrap (8 * (j : Int)) = 8 * (j : Int) := IntWalk.i64_in _ (by omega)
      go_wp2_with fail
      go_roundw
      case rel => exact ⟨j + 1, by omega, by go_num, HK.out.set1 _ _, (HRr.out.set j _).congr fun i _ => by have := putO_step a 0 j zB i; rw [Nat.zero_add] at this; exact this⟩
      case measure => simp [intOf]; omega
    · obtain rfl : j = 8 := by omega
      clear HR hlt hj
      go_wp2_with fail
      go_loopw [5] (fun i wr => ∃ j : Nat, j ≤ 4 ∧ i = .int .i64 j ∧ Keeps (One g) W1 wr ∧ wr.rowIs g 5 16 (putO n 8 j (putO a 0 8 zB))) (fun i _ => 4 - (intOf i).toNat)
      case atStart => exact ⟨0, by omega, rfl, HK.out, HRr.out.congr fun j _ => by rw [putO_zero]⟩
      case round =>
        obtain ⟨j, hj, rfl, hkp, hrow⟩ := hrel
        clear HK HRr
        have HK := Lib.hid hkp
        have HRr := Lib.hid hrow
        clear hkp hrow
        by_cases hlt : j < 4
        · have c1 := HK.out.cell D2.out (fun e => by have e : b = g := e; omega)
          have hc := HRr.out.cell (i := 8 + j) (by omega)
          have hf := HRr.out.frozen (8 + j)
          have e1 : IntKind.i64.wrap (8 * (j : Int)) = 8 * (j : Int) := IntWalk.i64_in _ (by omega)
          have e2 : IntKind.i64.wrap (8 + (j : Int)) = 8 + (j : Int) := IntWalk.i64_in _ (by omega)
          have e3 : (8 + (j : Int)).toNat = 8 + j := by omega
          have e4 : (0 : Int) ≤ 8 + (j : Int) := by omega
          have e5 : 8 + (j : Int) < 16 := by omega
          go_wp2_with fail
          go_roundw
          case rel => exact ⟨j + 1, by omega, by go_num, HK.out.set1 _ _, (HRr.out.set (8 + j) _).congr fun i _ => putO_step n 8 j _ i⟩
          case measure => simp [intOf]; omega
        · obtain rfl : j = 4 := by omega
          clear hlt hj
          have c0 := HK.out.cell D0.out (fun e => by have e : b = g := e; omega)
          by_cases hk5 : k = 5
          · have e5 : (k == 5) = true := beq_iff_eq.2 hk5
            have HK5 := Lib.hid hk5
            clear hk5
            go_wp2_with fail
            go_loopw [6] (fun i wr => ∃ j : Nat, j ≤ 4 ∧ i = .int .i64 j ∧ Keeps (One g) W1 wr ∧ wr.rowIs g 5 16 (putO key 11 j (putO n 8 4 (putO a 0 8 zB)))) (fun i _ => 4 - (intOf i).toNat)
            case atStart => exact ⟨0, by omega, rfl, HK.out, HRr.out.congr fun j _ => by rw [putO_zero]⟩
            case round =>
              obtain ⟨j, hj, rfl, hkp, hrow⟩ := hrel
              clear HK HRr c0
              have HK := Lib.hid hkp
              have HRr := Lib.hid hrow
              clear hkp hrow
              by_cases hlt : j < 4
              · have c1 := HK.out.cell D3.out (fun e => by have e : b = g := e; omega)
                have hc := HRr.out.cell (i := 11 + j) (by omega)
                have hf := HRr.out.frozen (11 + j)
                have e1 : IntKind.i64.wrap (8 * (j : Int)) = 8 * (j : Int) := IntWalk.i64_in _ (by omega)
                have e2 : IntKind.i64.wrap (11 + (j : Int)) = 11 + (j : Int) := IntWalk.i64_in _ (by omega)
                have e3 : (11 + (j : Int)).toNat = 11 + j := by omega
                have e4 : (0 : Int) ≤ 11 + (j : Int) := by omega
                have e5 : 11 + (j : Int) < 16 := by omega
                go_wp2_with fail
                go_roundw
                case rel => exact ⟨j + 1, by omega, by go_num, HK.out.set1 _ _, (HRr.out.set (11 + j) _).congr fun i _ => putO_step key 11 j _ i⟩
                case measure => simp [intOf]; omega
              · obtain rfl : j = 4 := by omega
                clear hlt hj
                have c0 := HK.out.cell D0.out (fun e => by have e : b = g := e; omega)
                have hc := HRr.out.cell (i := 15) (by omega)
                have hf := HRr.out.frozen 15
                go_wp2_with fail
                go_ret
                refine ⟨g, rfl, hwg, HB.out.trans ((HK.out.set1 _ _).below HB.out.size (fun j hj e => by have e : j = g := e; omega)), (HRr.out.set 15 _).congr fun i hi => ?_⟩
                refine Eq.trans ?_ ((H5.out HK5.out i).resolve_right (by omega))
                rw [wrap_kind]
          · have e5 : (k == 5) = false := beq_eq_false_iff_ne.2 hk5
            have HK5 := Lib.hid hk5
            clear hk5
            have hc := HRr.out.cell (i := 15) (by omega)
            have hf := HRr.out.frozen 15
            go_wp2_with fail
            go_ret
            refine ⟨g, rfl, hwg, HB.out.trans ((HK.out.set1 _ _).below HB.out.size (fun j hj e => by have e : j = g := e; omega)), (HRr.out.set 15 _).congr fun i hi => ?_⟩
            refine Eq.trans ?_ (HN.out HK5.out i)
            rw [wrap_kind]
end Go.Proofs.Ytcljbmkdflkeeaa
