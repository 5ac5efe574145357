/- connect: EncodeData. -/
import Derived.Test.YtchkipafjnehfaaTC
import Derived.Lib.SlBuf
import Derived.Lib.LazyBuf
import Derived.Laws.IdiomCopy
import Derived.Deep.RegionLaw
namespace Go.Proofs.Ytchkipafjnehfaa
set_option linter.unusedVariables false
set_option linter.unusedSimpArgs false
open Go.RowKit

theorem infoU8 : (Try.prog.info? 5).map (fun i => (i.zero, i.size, i.bytes)) = some (some (.int .u8 0), 1, 1) := by kernel_rfl
theorem info1 : (Try.prog.info? 5).map (·.size) = some 1 := by kernel_rfl

/-- a row of bytes -/
def rowB (f : Nat → Int) (j : Nat) : Value := .int .u8 (f j)

theorem make1024 (w : World) : (Instr.makeSlice 70 (.int .i64 1024) (.int .i64 1024)).run Try.prog w = .ok (.slice (some ⟨w.heap.size, 0, none⟩) 1024 1024) (w.alloc (.cells (madeCells #[.int .u8 0] 1024) 5)) :=
  run_make_row' (P := Try.prog) 70 5 (.int .u8 0) 1 Try.underlying70 infoU8 rfl .i64 .i64 1024 (by omega) (by omega) w

/-- The start: the data in memory. -/
theorem dstart (d : Dat) (w W : World) (hW : W = w.alloc (.cells (arr 19 (dcell d)) 69)) : DatAt W w.heap.size d ∧ Below w.heap.size w W ∧ W.heap.size = w.heap.size + 1 := by
  subst hW
  exact ⟨DatAt.fresh w d, (Below.refl _ w).alloc (Nat.le_refl _) _, by simp⟩

theorem copyHost (W : World) (g b : Nat) (d : Dat) (f : Nat → Value) (hd : DatAt W b d) (hr : W.rowIs g 5 1024 f) (ty : TypeId) :
    (Builtin.copy_ #[70, 70] ty #[.slice (some ⟨g, 0, none⟩) 1024 1024, .slice (some ⟨b, 0, none⟩) 16 16]).run Try.prog W = .ok (goInt 16) (W.setCells g 0 (arr 16 (dcell d)).toList) := by
  have hl : (arr 16 (dcell d)).toList.length = 16 := by simp [arr]
  have hra := rowIs_range hd 0 16 (by omega)
  simp only [Nat.zero_add] at hra
  have h := run_copy_cells (P := Try.prog) W 70 70 ty 5 g 0 1024 1024 ⟨b, 0, none⟩ 16 16 (arr 16 (dcell d)).toList Try.underlying70 info1 (by rw [hl]; rfl)
    (fun j v hj => by rw [Addr.add_mid]; exact hra j v hj)
    (fun j hj => by rw [hl] at hj; rw [hr.cell (by omega)]; rfl) (fun j hj => hr.frozen _) (fun v hv => by
      rw [arr_list] at hv
      obtain ⟨i, -, rfl⟩ := List.mem_map.1 hv
      exact dcell_one d i)
  rw [hl] at h
  exact h

theorem sizeOf8 (w : World) : (Go.sizeOf 5).run Try.prog w = .ok 1 w := by kernel_rfl
theorem str_getD (s : ByteArray) (k : Nat) (h : k < s.size) : (s.data.toList.map fun x => Value.int .u8 (x.toNat : Int)).getD k undef = .int .u8 (sb s k) := by
  rw [sb_get s k h]
  have h' : k < s.data.toList.length := h
  rw [List.getD_eq_getElem?_getD, List.getElem?_map, List.getElem?_eq_getElem h']
  rfl
theorem strRow {W : World} {g : Nat} {f : Nat → Value} (h : W.rowIs g 5 1024 f) (s : ByteArray) (o : Nat) :
    (W.setCells g o (s.data.toList.map fun x => Value.int .u8 (x.toNat : Int))).rowIs g 5 1024 (fun j => if o ≤ j ∧ j < o + s.size then .int .u8 (sb s (j - o)) else f j) := by
  refine (rowIs_setCells h _ o).congr fun j hj => ?_
  have hl : (s.data.toList.map fun x => Value.int .u8 (x.toNat : Int)).length = s.size := by rw [List.length_map]; rfl
  rw [hl]
  by_cases hc : o ≤ j ∧ j < o + s.size
  · rw [if_pos hc, if_pos hc, str_getD s (j - o) (by omega)]
  · rw [if_neg hc, if_neg hc]
theorem rowP1 {W : World} {g : Nat} {d : Dat} (hok : d.Ok) (h : W.rowIs g 5 1024 (fun j => if 0 ≤ j ∧ j < 0 + (arr 16 (dcell d)).toList.length then (arr 16 (dcell d)).toList.getD (j - 0) undef else .int .u8 0)) :
    ((W.setCell ⟨g, 16, none⟩ (.int .u8 (d.ctl % 256))).setCell ⟨g, 17, none⟩ (.int .u8 (d.ctl / 256 % 256))).rowIs g 5 1024 (rowB (dP d 0 0)) := by
  refine ((h.set 16 _).set 17 _).congr fun j hj => ?_
  have hc := hok.c
  have hl : (arr 16 (dcell d)).toList.length = 16 := by simp [arr]
  unfold rowB dP
  by_cases h17 : j = 17
  · rw [if_pos h17, if_neg (by omega), if_neg (by omega), if_pos h17, show d.ctl / 256 % 256 = d.ctl / 256 by omega]
  · rw [if_neg h17]
    by_cases h16 : j = 16
    · rw [if_pos h16, if_neg (by omega), if_pos h16]
    · rw [if_neg h16, hl]
      by_cases h15 : j < 16
      · rw [if_pos (by omega), if_pos h15, Nat.sub_zero, List.getD_eq_getElem?_getD, arr_list, List.getElem?_map, List.getElem?_range h15]
        show dcell d j = _
        unfold dcell
        rw [if_pos h15]
      · rw [if_neg (by omega), if_neg h15, if_neg h16, if_neg h17, if_neg (by omega), if_neg (by omega)]
theorem rowP2 {W : World} {g : Nat} {d : Dat} (h : W.rowIs g 5 1024 (rowB (dP d 0 0))) :
    (W.setCells g 256 (d.sub.data.toList.map fun x => Value.int .u8 (x.toNat : Int))).rowIs g 5 1024 (rowB (dP d d.sub.size 0)) := by
  refine (strRow h d.sub 256).congr fun j hj => ?_
  unfold rowB dP
  by_cases h1 : 256 ≤ j ∧ j < 256 + d.sub.size
  · rw [if_pos h1, if_neg (by omega), if_neg (by omega), if_neg (by omega), if_pos h1]
  · rw [if_neg h1, if_neg h1, if_neg (show ¬ (256 ≤ j ∧ j < 256 + 0) by omega)]
theorem rowP3 {W : World} {g : Nat} {d : Dat} (hs : d.sub.size ≤ 223) (h : W.rowIs g 5 1024 (rowB (dP d d.sub.size 0))) :
    (W.setCells g 512 (d.hst.data.toList.map fun x => Value.int .u8 (x.toNat : Int))).rowIs g 5 1024 (rowB (dB d)) := by
  refine (strRow h d.hst 512).congr fun j hj => ?_
  rw [← dP_dB]
  unfold rowB dP
  by_cases h1 : 512 ≤ j ∧ j < 512 + d.hst.size
  · rw [if_pos h1, if_neg (by omega), if_neg (by omega), if_neg (by omega), if_neg (by omega), if_pos h1]
  · rw [if_neg h1, if_neg h1, if_neg (show ¬ (512 ≤ j ∧ j < 512 + 0) by omega)]

theorem vDat_sizes {d : Dat} (h : vDat d = true) : d.sub.size ≤ 223 ∧ d.hst.size ≤ 223 := by
  unfold vDat at h
  simp only [Bool.and_eq_true] at h
  exact ⟨(vName_nz h.1).1, (vName_nz h.2.1).1⟩

set_option maxRecDepth 100000 in
set_option maxHeartbeats 4000000 in
theorem encodeData_ok (d : Dat) (w : World) (hok : d.Ok) (hv : vDat d = true) :
    Calls Try.prog 32 #[d.v] w fun e w' => ∃ g, e = .returned (.tuple #[.slice (some ⟨g, 0, none⟩) 1024 1024, .int .i64 0]) ∧ w.heap.size ≤ g ∧ Below w.heap.size w w' ∧ w'.rowIs g 5 1024 (rowB (dB d)) := by
  have HV := Lib.hid (show ∀ W, Calls Try.prog 49 #[d.v] W fun e w' => e = .returned (.bool true) ∧ Below W.heap.size W w' from fun W => by have := validData_any d W hok; rwa [hv] at this)
  have HMK := Lib.hid make1024
  have HOK := Lib.hid hok
  have HVV := Lib.hid hv
  obtain ⟨W0, hW⟩ : ∃ W0, W0 = w.alloc (.cells (arr 19 (dcell d)) 69) := ⟨_, rfl⟩
  obtain ⟨h1, h2, h3⟩ := dstart d w W0 hW
  have HW := Lib.hid hW
  have HD := Lib.hid h1
  have HB := Lib.hid h2
  have HR := Lib.hid (rowIs_range0 h1)
  clear hW h1 h2
  unfold Dat.v at *
  go_enter Try.func32, Try.ntmps32
  go_upto_region 1 with fail
  rw [← HW.out]
  go_wp2_with ((with_reducible show wpList _ _ _ (⟨some 5, .load _ _, _, _, _, _⟩ :: _) _ _); refine wpList_load_mid rfl 69 (.tmp 1) rfl w.heap.size 0 rfl (arr 19 (dcell d)).toList _ HR.out Try.underlying69 rfl (by rw [size69]; simp [arr]) ?_)
  refine (HV.out _).mono ?_
  rintro e w1 ⟨rfl, hb1⟩
  obtain ⟨g, hg⟩ : ∃ g, g = w1.heap.size := ⟨_, rfl⟩
  have hs1 := hb1.size
  have hg1 : w.heap.size < g := by omega
  obtain ⟨W2, hW2⟩ : ∃ W2, W2 = w1.alloc (.cells (madeCells #[.int .u8 0] 1024) 5) := ⟨_, rfl⟩
  have HW2 := Lib.hid hW2
  have HD2 := Lib.hid (show DatAt W2 w.heap.size d by rw [hW2]; exact World.rowIs.alloc (World.rowIs.of_block HD.out (hb1.block _ (World.rowIs.lt HD.out))) _)
  have HR2 := Lib.hid (show W2.rowIs g 5 1024 (fun _ => .int .u8 0) by rw [hW2, hg]; exact World.rowIs_made w1 (.int .u8 0) 1024 5)
  have HB2 := Lib.hid (show Below w.heap.size w W2 by rw [hW2]; exact (HB.out.trans (hb1.mono HB.out.size)).alloc (Nat.le_trans HB.out.size hs1) _)
  clear hb1 hs1
  have hmk := HMK.out
  go_upto_region 4 with fail
  rw [← HW2.out, ← hg]
  have HG := Lib.hid hg
  clear hmk hW2 hg
  have hcp := copyHost W2 g w.heap.size d _ HD2.out HR2.out
  obtain ⟨W3, hW3⟩ : ∃ W3, W3 = W2.setCells g 0 (arr 16 (dcell d)).toList := ⟨_, rfl⟩
  rw [← hW3] at hcp
  have k3 : Keeps (One g) W2 W3 := by rw [hW3]; exact Keeps.setCells _ (Keeps.refl _ _) 0
  have HR3 := Lib.hid (show W3.rowIs g 5 1024 (fun j => if 0 ≤ j ∧ j < 0 + (arr 16 (dcell d)).toList.length then (arr 16 (dcell d)).toList.getD (j - 0) undef else .int .u8 0) by rw [hW3]; exact rowIs_setCells HR2.out _ 0)
  have HD3 := Lib.hid (show DatAt W3 w.heap.size d from k3.rowIs HD2.out (fun e => by have e : w.heap.size = g := e; omega))
  have HB3 := Lib.hid (HB2.out.trans (k3.below HB2.out.size (fun k hk e => by have e : k = g := e; omega)))
  have HCP := Lib.hid hcp
  clear hcp hW3 k3
  go_upto_region 5 with ((with_reducible show wpList _ _ _ (⟨some 12, _, _, _, _, _⟩ :: _) _ _); refine Lib.wpList_copy_run _ rfl (.tmp 9) (.tmp 11) 70 70 rfl _ _ rfl rfl (HCP.out _) ?_)
  have c16 : W3.cell? ⟨w.heap.size, 16, none⟩ = some (.int .u16 d.ctl) := World.rowIs.cell HD3.out (by omega)
  have g16 := HR3.out.cell (i := 16) (by omega)
  have g17 := HR3.out.cell (i := 17) (by omega)
  have f16 := HR3.out.frozen 16
  have f17 := HR3.out.frozen 17
  go_upto_region 6 with fail
  clear c16 g16 g17 f16 f17
  obtain ⟨W4, hW4⟩ : ∃ W4, W4 = (W3.setCell ⟨g, 16, none⟩ (.int .u8 (d.ctl % 256))).setCell ⟨g, 17, none⟩ (.int .u8 (d.ctl / 256 % 256)) := ⟨_, rfl⟩
  rw [← hW4]
  have k4 : Keeps (One g) W3 W4 := by rw [hW4]; exact ((Keeps.refl _ _).set1 _ _).set1 _ _
  have HR4 := Lib.hid (show W4.rowIs g 5 1024 (rowB (dP d 0 0)) by rw [hW4]; exact rowP1 HOK.out HR3.out)
  have HD4 := Lib.hid (show DatAt W4 w.heap.size d from k4.rowIs HD3.out (fun e => by have e : w.heap.size = g := e; omega))
  have HB4 := Lib.hid (HB3.out.trans (k4.below HB3.out.size (fun k hk e => by have e : k = g := e; omega)))
  have HSZ := Lib.hid (vDat_sizes HVV.out)
  clear k4 hW4
  have HR5 := Lib.hid (World.rowIs.drew HR4.out)
  have c17 : W4.cell? ⟨w.heap.size, 17, none⟩ = some (.string d.sub) := World.rowIs.cell HD4.out (by omega)
  have hcp := fun ty => run_copy_string (P := Try.prog) W4.drew 70 9 ty 5 g 256 768 768 d.sub Try.underlying70 sizeOf8 (by have := HSZ.out; omega) (fun j hj => by rw [HR5.out.cell (by have := HSZ.out; omega)]; rfl) (fun j hj => HR5.out.frozen _)
  obtain ⟨W5, hW5⟩ : ∃ W5, W5 = W4.drew.setCells g 256 (d.sub.data.toList.map fun x => Value.int .u8 (x.toNat : Int)) := ⟨_, rfl⟩
  rw [← hW5] at hcp
  have k5 : Keeps (One g) W4 W5 := by rw [hW5]; exact Keeps.setCells _ (Keeps.refl _ _).drew 256
  have HR6 := Lib.hid (show W5.rowIs g 5 1024 (rowB (dP d d.sub.size 0)) by rw [hW5]; exact rowP2 HR5.out)
  have HD5 := Lib.hid (show DatAt W5 w.heap.size d from k5.rowIs HD4.out (fun e => by have e : w.heap.size = g := e; omega))
  have HB5 := Lib.hid (HB4.out.trans (k5.below HB4.out.size (fun k hk e => by have e : k = g := e; omega)))
  clear k5 hW5
  go_region_with fail
  clear hcp c17
  have c18 : W5.cell? ⟨w.heap.size, 18, none⟩ = some (.string d.hst) := World.rowIs.cell HD5.out (by omega)
  have HR7 := Lib.hid (World.rowIs.drew HR6.out)
  have hcp := fun ty => run_copy_string (P := Try.prog) W5.drew 70 9 ty 5 g 512 512 512 d.hst Try.underlying70 sizeOf8 (by have := HSZ.out; omega) (fun j hj => by rw [HR7.out.cell (by have := HSZ.out; omega)]; rfl) (fun j hj => HR7.out.frozen _)
  obtain ⟨W6, hW6⟩ : ∃ W6, W6 = W5.drew.setCells g 512 (d.hst.data.toList.map fun x => Value.int .u8 (x.toNat : Int)) := ⟨_, rfl⟩
  rw [← hW6] at hcp
  have k6 : Keeps (One g) W5 W6 := by rw [hW6]; exact Keeps.setCells _ (Keeps.refl _ _).drew 512
  have HR8 := Lib.hid (show W6.rowIs g 5 1024 (rowB (dB d)) by rw [hW6]; exact rowP3 HSZ.out.1 HR7.out)
  have HB6 := Lib.hid (HB5.out.trans (k6.below HB5.out.size (fun k hk e => by have e : k = g := e; omega)))
  clear k6 hW6
  go_upto_region 7 with fail
  go_region_with fail
  go_wp2_with fail
  go_ret2
  exact ⟨g, rfl, by omega, HB6.out, HR8.out⟩

set_option maxRecDepth 100000 in
set_option maxHeartbeats 4000000 in
theorem encodeData_bad (d : Dat) (w : World) (hok : d.Ok) (hv : vDat d = false) :
    Calls Try.prog 32 #[d.v] w fun e w' => e = .returned (.tuple #[.slice none 0 0, .int .i64 2]) ∧ Below w.heap.size w w' := by
  have HV := Lib.hid (show ∀ W, Calls Try.prog 49 #[d.v] W fun e w' => e = .returned (.bool false) ∧ Below W.heap.size W w' from fun W => by have := validData_any d W hok; rwa [hv] at this)
  obtain ⟨W0, hW⟩ : ∃ W0, W0 = w.alloc (.cells (arr 19 (dcell d)) 69) := ⟨_, rfl⟩
  obtain ⟨h1, h2, h3⟩ := dstart d w W0 hW
  have HW := Lib.hid hW
  have HB := Lib.hid h2
  have HR := Lib.hid (rowIs_range0 h1)
  clear hW h1 h2
  unfold Dat.v at *
  go_enter Try.func32, Try.ntmps32
  go_upto_region 1 with fail
  rw [← HW.out]
  go_wp2_with ((with_reducible show wpList _ _ _ (⟨some 5, .load _ _, _, _, _, _⟩ :: _) _ _); refine wpList_load_mid rfl 69 (.tmp 1) rfl w.heap.size 0 rfl (arr 19 (dcell d)).toList _ HR.out Try.underlying69 rfl (by rw [size69]; simp [arr]) ?_)
  refine (HV.out _).mono ?_
  rintro e w1 ⟨rfl, hb1⟩
  have HB1 := Lib.hid (HB.out.trans (hb1.mono HB.out.size))
  clear hb1
  go_wp2_with fail
  go_ret2
  exact ⟨rfl, HB1.out⟩
end Go.Proofs.Ytchkipafjnehfaa
