/- sgl: the specification's Bytes. -/
import Derived.Test.YtfmabknhfehdcaaGreatZP9
import Derived.Defers
import Derived.Recover
namespace Go.Proofs.YtfmabknhfehdcaaGreat
set_option linter.unusedSimpArgs false
set_option linter.unusedVariables false
open Go.RowKit
/-- the bytes of a number laid over a row: k of them from o on -/
def putO (v : Int) (o k : Nat) (f : Nat → Value) : Nat → Value := fun j => if o ≤ j ∧ j < o + k then .int .u8 (byteOf v (j - o)) else f j
theorem putO_step (v : Int) (o k : Nat) (f : Nat → Value) (j : Nat) : (if j = o + k then Value.int .u8 (v / 2 ^ (8 * k) % 256) else putO v o k f j) = putO v o (k + 1) f j := by
 unfold putO
 by_cases e : j = o + k
 ·subst e; rw [if_pos rfl, if_pos (by omega)]; rw [show o + k - o = k by omega]; rfl
 ·by_cases h : o ≤ j ∧ j < o + k
  ·rw [if_neg e, if_pos h, if_pos (by omega)]
  ·rw [if_neg e, if_neg h, if_neg (by omega)]
theorem putO_zero (v : Int) (o : Nat) (f : Nat → Value) (j : Nat) : putO v o 0 f j = f j := by unfold putO; rw [if_neg (by omega)]
def zB : Nat → Value := fun _ => .int .u8 0
/-- byte j of a descriptor -/
def dB (d : Dsc) (j : Nat) : Int :=
 if j = 15 then 16 * (d.k - 1) % 256 else if d.k = 5 ∧ 11 ≤ j then byteOf d.key (j - 11) else if j < 8 then byteOf d.a j else if j < 12 then byteOf d.n (j - 8) else 0
theorem byteOf_bd (v : Int) (j : Nat) : 0 ≤ byteOf v j ∧ byteOf v j ≤ 255 := by unfold byteOf; omega
theorem dB_bd (d : Dsc) (j : Nat) : 0 ≤ dB d j ∧ dB d j ≤ 255 := by
 unfold dB
 split
 ·omega
 ·split
  ·exact byteOf_bd _ _
  ·split
   ·exact byteOf_bd _ _
   ·split
    ·exact byteOf_bd _ _
    ·omega
theorem dB_row5 (d : Dsc) (h : d.k = 5) (j : Nat) : (if j = 15 then Value.int .u8 (16 * (d.k - 1) % 256) else putO d.key 11 4 (putO d.n 8 4 (putO d.a 0 8 zB)) j) = .int .u8 (dB d j) ∨ 16 ≤ j := by
 by_cases hj : 16 ≤ j
 ·exact .inr hj
 refine .inl ?_
 unfold dB putO zB
 repeat' split
 all_goals first | rfl | (exfalso; omega)
theorem dB_row (d : Dsc) (h : d.k ≠ 5) (j : Nat) : (if j = 15 then Value.int .u8 (16 * (d.k - 1) % 256) else putO d.n 8 4 (putO d.a 0 8 zB) j) = .int .u8 (dB d j) := by
 unfold dB putO zB
 repeat' split
 all_goals first | rfl | (exfalso; omega)
theorem wrap_kind (k : Int) : wrap64 (16 * wrap64 (k - 1)) % 256 = 16 * (k - 1) % 256 := by
 unfold wrap64
 omega
/-- a new row of bytes -/
def NewRow (w w' : World) (n : Nat) (F : Nat → Int) (e : Ending) : Prop := ∃ g, e = .returned (.slice (some ⟨g, 0, none⟩) n n) ∧ w.heap.size ≤ g ∧ Below w.heap.size w w' ∧ w'.rowIs g 5 n (fun j => .int .u8 (F j))
set_option maxRecDepth 100000 in
set_option maxHeartbeats 4000000 in
theorem bytes_any (d : Dsc) (w : World) (hok : d.Ok) : Calls Tryz.prog 70 #[.agg d.cells] w fun e w' => NewRow w w' 16 (dB d) e := by
 have H5 := Lib.hid (dB_row5 d)
 have HN := Lib.hid (dB_row d)
 obtain ⟨B, hB⟩ : ∃ z, z = dB d := ⟨_, rfl⟩
 rw [← hB] at H5 HN ⊢
 obtain ⟨k, a, n, key⟩ := d
 obtain ⟨hk, ha, hn, hkey⟩ := hok
 unfold Dsc.cells at *
 simp only [] at *
 have hmk : ∀ w, (Instr.makeSlice 31 (.int .i64 16) (.int .i64 16)).run Tryz.prog w = .ok (.slice (some ⟨w.heap.size, 0, none⟩) 16 16) (w.alloc (.cells (madeCells #[.int .u8 0] 16) 5)) := fun w =>
  run_make_row' (P := Tryz.prog) 31 5 (.int .u8 0) 1 Tryz.underlying31 infoU8 rfl .i64 .i64 16 (by omega) (by omega) w
 have hrow := World.rowIs_made (w.alloc (.cells #[.int .i64 k, .int .u64 a, .int .i64 n, .int .u32 key] 72)) (.int .u8 0) 16 5
 obtain ⟨W1, hW⟩ : ∃ z, z = (w.alloc (.cells #[.int .i64 k, .int .u64 a, .int .i64 n, .int .u32 key] 72)).alloc (.cells (madeCells #[.int .u8 0] 16) 5) := ⟨_, rfl⟩
 rw [← hW] at hrow
 have d0 : W1.cell? ⟨w.heap.size, 0, none⟩ = some (.int .i64 k) := by rw [hW]; go_simp
 have d1 : W1.cell? ⟨w.heap.size, 1, none⟩ = some (.int .u64 a) := by rw [hW]; go_simp
 have d2 : W1.cell? ⟨w.heap.size, 2, none⟩ = some (.int .i64 n) := by rw [hW]; go_simp
 have d3 : W1.cell? ⟨w.heap.size, 3, none⟩ = some (.int .u32 key) := by rw [hW]; go_simp
 have HB := Lib.hid (show Below w.heap.size w W1 by rw [hW]; exact ((Below.refl _ w).alloc (Nat.le_refl _) _).alloc (by simp) _)
 rw [show (w.alloc (.cells #[.int .i64 k, .int .u64 a, .int .i64 n, .int .u32 key] 72)).heap.size = w.heap.size + 1 by simp] at hrow
 have D0 := Lib.hid d0
 have D1 := Lib.hid d1
 have D2 := Lib.hid d2
 have D3 := Lib.hid d3
 have HR := Lib.hid hrow
 have HW := Lib.hid hW
 clear hrow hW d0 d1 d2 d3 hB
 go_enter Tryz.func70, Tryz.ntmps70
 go_wp2_with fail
 rw [show (w.alloc (.cells #[.int .i64 k, .int .u64 a, .int .i64 n, .int .u32 key] 72)).alloc (.cells (madeCells #[.int .u8 0] 16) 5) = W1 from HW.out.symm]
 clear hmk HW
 obtain ⟨b, hb⟩ : ∃ z, z = w.heap.size := ⟨_, rfl⟩
 rw [← hb] at D0 D1 D2 D3 HR ⊢
 obtain ⟨g, hg⟩ : ∃ z, z = b + 1 := ⟨_, rfl⟩
 rw [← hg] at HR ⊢
 have hbg : b < g := by omega
 have hwg : w.heap.size ≤ g := by omega
 have HG := Lib.hid hg
 clear hb hg
 go_loopw [4] (fun i wr => ∃ j : Nat, j ≤ 8 ∧ i = .int .i64 j ∧ Keeps (One g) W1 wr ∧ wr.rowIs g 5 16 (putO a 0 j zB)) (fun i _ => 8 - (intOf i).toNat)
 case atStart => exact ⟨0, by omega, rfl, Keeps.refl _ _, HR.out.congr fun j _ => by rw [putO_zero]; rfl⟩
 case round =>
  obtain ⟨j, hj, rfl, hkp, hrow⟩ := hrel
  have HK := Lib.hid hkp
  have HRr := Lib.hid hrow
  clear hkp hrow
  by_cases hlt : j < 8
  ·have c1 := HK.out.cell D1.out (fun e => by have e : b = g := e; omega)
   have hc := HRr.out.cell (i := j) (by omega)
   have hf := HRr.out.frozen j
   have e1 : IntKind.i64.wrap (8 * (j : Int)) = 8 * (j : Int) := IntWalk.i64_in _ (by omega)
   go_wp2_with fail
   go_roundw
   case rel => exact ⟨j + 1, by omega, by go_num, HK.out.set1 _ _, (HRr.out.set j _).congr fun i _ => by have := putO_step a 0 j zB i; rw [Nat.zero_add] at this; exact this⟩
   case measure => simp [intOf]; omega
  ·obtain rfl : j = 8 := by omega
   clear HR hlt hj
   go_wp2_with fail
   go_loopw [5] (fun i wr => ∃ j : Nat, j ≤ 4 ∧ i = .int .i64 j ∧ Keeps (One g) W1 wr ∧ wr.rowIs g 5 16 (putO n 8 j (putO a 0 8 zB))) (fun i _ => 4 - (intOf i).toNat)
   case atStart => exact ⟨0, by omega, rfl, HK.out, HRr.out.congr fun j _ => by rw [putO_zero]⟩
   case round =>
    obtain ⟨j, hj, rfl, hkp, hrow⟩ := hrel
    clear HK HRr
    have HK := Lib.hid hkp
    have HRr := Lib.hid hrow
    clear hkp hrow
    by_cases hlt : j < 4
    ·have c1 := HK.out.cell D2.out (fun e => by have e : b = g := e; omega)
     have hc := HRr.out.cell (i := 8 + j) (by omega)
     have hf := HRr.out.frozen (8 + j)
     have e1 : IntKind.i64.wrap (8 * (j : Int)) = 8 * (j : Int) := IntWalk.i64_in _ (by omega)
     have e2 : IntKind.i64.wrap (8 + (j : Int)) = 8 + (j : Int) := IntWalk.i64_in _ (by omega)
     have e3 : (8 + (j : Int)).toNat = 8 + j := by omega
     have e4 : (0 : Int) ≤ 8 + (j : Int) := by omega
     have e5 : 8 + (j : Int) < 16 := by omega
     go_wp2_with fail
     go_roundw
     case rel => exact ⟨j + 1, by omega, by go_num, HK.out.set1 _ _, (HRr.out.set (8 + j) _).congr fun i _ => putO_step n 8 j _ i⟩
     case measure => simp [intOf]; omega
    ·obtain rfl : j = 4 := by omega
     clear hlt hj
     have c0 := HK.out.cell D0.out (fun e => by have e : b = g := e; omega)
     by_cases hk5 : k = 5
     ·have e5 : (k == 5) = true := beq_iff_eq.2 hk5
      have HK5 := Lib.hid hk5
      clear hk5
      go_wp2_with fail
      go_loopw [6] (fun i wr => ∃ j : Nat, j ≤ 4 ∧ i = .int .i64 j ∧ Keeps (One g) W1 wr ∧ wr.rowIs g 5 16 (putO key 11 j (putO n 8 4 (putO a 0 8 zB)))) (fun i _ => 4 - (intOf i).toNat)
      case atStart => exact ⟨0, by omega, rfl, HK.out, HRr.out.congr fun j _ => by rw [putO_zero]⟩
      case round =>
       obtain ⟨j, hj, rfl, hkp, hrow⟩ := hrel
       clear HK HRr c0
       have HK := Lib.hid hkp
       have HRr := Lib.hid hrow
       clear hkp hrow
       by_cases hlt : j < 4
       ·have c1 := HK.out.cell D3.out (fun e => by have e : b = g := e; omega)
        have hc := HRr.out.cell (i := 11 + j) (by omega)
        have hf := HRr.out.frozen (11 + j)
        have e1 : IntKind.i64.wrap (8 * (j : Int)) = 8 * (j : Int) := IntWalk.i64_in _ (by omega)
        have e2 : IntKind.i64.wrap (11 + (j : Int)) = 11 + (j : Int) := IntWalk.i64_in _ (by omega)
        have e3 : (11 + (j : Int)).toNat = 11 + j := by omega
        have e4 : (0 : Int) ≤ 11 + (j : Int) := by omega
        have e5 : 11 + (j : Int) < 16 := by omega
        go_wp2_with fail
        go_roundw
        case rel => exact ⟨j + 1, by omega, by go_num, HK.out.set1 _ _, (HRr.out.set (11 + j) _).congr fun i _ => putO_step key 11 j _ i⟩
        case measure => simp [intOf]; omega
       ·obtain rfl : j = 4 := by omega
        clear hlt hj
        have c0 := HK.out.cell D0.out (fun e => by have e : b = g := e; omega)
        have hc := HRr.out.cell (i := 15) (by omega)
        have hf := HRr.out.frozen 15
        go_wp2_with fail
        go_ret
        refine ⟨g, rfl, hwg, HB.out.trans ((HK.out.set1 _ _).below HB.out.size (fun j hj e => by have e : j = g := e; omega)), (HRr.out.set 15 _).congr fun i hi => ?_⟩
        refine Eq.trans ?_ ((H5.out HK5.out i).resolve_right (by omega))
        rw [wrap_kind]
     ·have e5 : (k == 5) = false := beq_eq_false_iff_ne.2 hk5
      have HK5 := Lib.hid hk5
      clear hk5
      have hc := HRr.out.cell (i := 15) (by omega)
      have hf := HRr.out.frozen 15
      go_wp2_with fail
      go_ret
      refine ⟨g, rfl, hwg, HB.out.trans ((HK.out.set1 _ _).below HB.out.size (fun j hj e => by have e : j = g := e; omega)), (HRr.out.set 15 _).congr fun i hi => ?_⟩
      refine Eq.trans ?_ (HN.out HK5.out i)
      rw [wrap_kind]
end Go.Proofs.YtfmabknhfehdcaaGreat
namespace Go.Proofs.YtfmabknhfehdcaaGreat
set_option linter.unusedSimpArgs false
set_option linter.unusedVariables false
open Go.RowKit
set_option maxHeartbeats 2000000 in
theorem word_any (F : Nat → Int) (g o c : Nat) (w : World) (hF : Bytes F) (hc : ∀ i, i < 8 → w.cell? ⟨g, o + i, none⟩ = some (.int .u8 (F i))) :
  Calls Tryz.prog 71 #[.slice (some ⟨g, o, none⟩) 8 c] w fun e w' => e = .returned (.int .u64 (hz F 7 8)) ∧ w = w' := by
 have HC := Lib.hid hc
 have HF := Lib.hid hF
 clear hc hF
 go_enter Tryz.func71, Tryz.ntmps71
 go_wp2_with fail
 go_loop [3, 4] (fun v i => ∃ k : Nat, k ≤ 8 ∧ v = .int .u64 (hz F 7 k) ∧ i = .int .i64 (7 - (k : Int))) (fun _ i => (intOf i + 1).toNat)
 case atStart => exact ⟨0, by omega, rfl, by simp⟩
 case round =>
  obtain ⟨k, hk, rfl, rfl⟩ := hrel
  by_cases hlt : k < 8
  ·obtain ⟨m, hm⟩ : ∃ m : Nat, 7 - (k : Int) = (m : Int) := ⟨7 - k, by omega⟩
   rw [hm]
   have hm2 : m = 7 - k := by omega
   have m0 : (0 : Int) ≤ (m : Int) := by omega
   have m1 : (m : Int) < 8 := by omega
   have m3 : decide ((0 : Int) ≤ (m : Int)) = true := by simp
   have c0 := HC.out m (by omega)
   obtain ⟨p1, p2⟩ := hz_bd HF.out 7 k
   have p3 := pow256_le (k := k) (by omega)
   obtain ⟨u1, u2⟩ := HF.out m
   have ea : hz F 7 (k + 1) = hz F 7 k * 256 + F m := by show _ * 256 + F (7 - k) = _; rw [← hm2]
   obtain ⟨a, ha⟩ : ∃ a, a = hz F 7 k := ⟨_, rfl⟩
   obtain ⟨u, hu⟩ : ∃ u, u = F m := ⟨_, rfl⟩
   rw [← ha] at p1 p2 ea ⊢
   rw [← hu] at c0 u1 u2 ea
   have p4 : a ≤ 72057594037927935 := by omega
   have EA := Lib.hid ea
   have HM := Lib.hid hm
   clear ea ha hu p2 p3 hm hm2
   go_wp2_with fail
   go_round
   case rel => exact ⟨k + 1, by omega, by rw [EA.out], by have := HM.out; go_num⟩
   case measure => simp [intOf]
  ·obtain rfl : k = 8 := by omega
   have m3 : decide ((0 : Int) ≤ 7 - ((8 : Nat) : Int)) = false := by simp
   go_wp2_with fail
   go_ret
   exact ⟨rfl, rfl⟩
set_option maxRecDepth 100000 in
set_option maxHeartbeats 4000000 in
theorem words_any (d : Dsc) (w : World) (hok : d.Ok) : Calls Tryz.prog 29 #[.agg d.cells] w fun e w' => e = .returned (.agg #[.int .u64 (hz (dB d) 7 8), .int .u64 (hz (fun i => dB d (8 + i)) 7 8)]) ∧ Below w.heap.size w w' := by
 have HB := Lib.hid fun w => bytes_any d w hok
 have HF := Lib.hid (show Bytes (dB d) from dB_bd d)
 obtain ⟨F, hF⟩ : ∃ F, F = dB d := ⟨_, rfl⟩
 rw [← hF] at HB HF ⊢
 obtain ⟨x, hx⟩ : ∃ x, x = hz F 7 8 := ⟨_, rfl⟩
 obtain ⟨y, hy⟩ : ∃ y, y = hz (fun i => F (8 + i)) 7 8 := ⟨_, rfl⟩
 rw [← hx, ← hy]
 have HX : Hid (∀ g c w, (∀ i, i < 16 → w.cell? ⟨g, i, none⟩ = some (.int .u8 (F i))) → Calls Tryz.prog 71 #[.slice (some ⟨g, 0, none⟩) 8 c] w fun e w' => e = .returned (.int .u64 x) ∧ w = w') :=
  Lib.hid fun g c w hc => by rw [hx]; exact word_any F g 0 c w HF.out fun i hi => by rw [Nat.zero_add]; exact hc i (by omega)
 have HY : Hid (∀ g c w, (∀ i, i < 16 → w.cell? ⟨g, i, none⟩ = some (.int .u8 (F i))) → Calls Tryz.prog 71 #[.slice (some ⟨g, 8, none⟩) 8 c] w fun e w' => e = .returned (.int .u64 y) ∧ w = w') :=
  Lib.hid fun g c w hc => by rw [hy]; exact word_any (fun i => F (8 + i)) g 8 c w (fun i => HF.out (8 + i)) fun i hi => hc (8 + i) (by omega)
 clear hx hy hF hok
 obtain ⟨A, hA⟩ : ∃ A, A = d.cells := ⟨_, rfl⟩
 have HAs := Lib.hid (show A.size = 4 by rw [hA]; rfl)
 have HSZ := Lib.hid (show (Tryz.prog.info? 72).map (·.size) = some A.size by rw [HAs.out]; exact sizeD)
 rw [← hA] at HB ⊢
 clear hA
 go_enter Tryz.func29, Tryz.ntmps29
 go_upto_region 1 with ((with_reducible show wpList _ _ _ (⟨some 2, _, _, _, _, _⟩ :: _) _ _); refine wpList_alloc rfl 25 rfl zero2 ?_; rw [show (Value.agg zer2).cells = zer2 from rfl])
 obtain ⟨W, hW⟩ : ∃ W, W = (w.alloc (.cells A 72)).alloc (.cells zer2 25) := ⟨_, rfl⟩
 rw [← hW]
 have A1 := Lib.hid (show ArrAt W w.heap.size A by rw [hW]; exact (ArrAt.fresh w A _ (by rw [HAs.out]; omega)).alloc _)
 have A2 := Lib.hid (show ArrAt W (w.heap.size + 1) zer2 by
  have h := ArrAt.fresh (w.alloc (.cells A 72)) zer2 25 (by decide)
  rw [show (w.alloc (.cells A 72)).heap.size = w.heap.size + 1 by simp] at h
  rw [hW]; exact h)
 have HBW := Lib.hid (show Below w.heap.size w W by rw [hW]; exact ((Below.refl _ w).alloc (Nat.le_refl _) _).alloc (by simp) _)
 have hsW : w.heap.size + 2 ≤ W.heap.size := by rw [hW]; simp
 clear hW
 try simp only [Act.put, List.setIfInBounds_toArray, List.set_cons_succ, List.set_cons_zero]
 go_upto_region 2 with (first
  | ((with_reducible show wpList _ _ _ (⟨some 4, _, _, _, _, _⟩ :: _) _ _); refine wpList_loadA rfl A1.out 72 (.tmp 1) rfl (by first | rfl | simp [Act.eval, Act.put]) Tryz.underlying72 rfl HSZ.out ?_)
  | (go_at_call 70; refine (HB.out _).mono ?_; rintro e w1 ⟨g, rfl, hg, hb, hr⟩))
 have A3 := Lib.hid (A2.out.below hb)
 have HB3 := Lib.hid (HBW.out.trans (hb.mono (by omega)))
 have HR := Lib.hid hr
 have HC := Lib.hid (show ∀ i, i < 16 → w1.cell? ⟨g, i, none⟩ = some (.int .u8 (F i)) from fun i hi => hr.cell hi)
 have hs1 := hb.size
 clear hb hr A1 A2 HBW
 have z0 : w1.cell? ⟨w.heap.size + 1, 0, none⟩ = some (.int .u64 0) := A3.out.cell rfl
 have z1 : w1.cell? ⟨w.heap.size + 1, 1, none⟩ = some (.int .u64 0) := A3.out.cell rfl
 have f0 := A3.out.frozen (i := 0) (by decide)
 have f1 := A3.out.frozen (i := 1) (by decide)
 go_cut [3] from 6 to 13 (fun _ wc => ArrAt wc (w.heap.size + 1) #[.int .u64 x, .int .u64 y] ∧ Below w.heap.size w wc)
 case first =>
  go_region_with (first
   | (go_at_call_of 71 (Value.slice (some ⟨g, 0, none⟩) 8 16); refine (HX.out _ _ _ ?_).mono ?_; exact HC.out; rintro e w2 ⟨rfl, rfl⟩)
   | (go_at_call_of 71 (Value.slice (some ⟨g, 8, none⟩) 8 8); refine (HY.out _ _ _ ?_).mono ?_; exact HC.out; rintro e w2 ⟨rfl, rfl⟩))
  all_goals
   go_wp2_with fail
   go_meet
   exact ⟨(A3.out.store #[.int .u64 x, .int .u64 y] rfl).drew, (bstore HB3.out (w.heap.size + 1) (by omega) [.int .u64 x, .int .u64 y] 0).drew⟩
 case rest =>
  obtain ⟨ha, hb⟩ := hcut
  go_wp2_with fail
  exact bodyPost_ret (results_c rfl _ _ _ ha rfl Tryz.underlying25 rfl size2w) rfl ⟨rfl, hb⟩
/-- the words of a valid descriptor -/
theorem words_eq (d : Dsc) (hok : d.Ok) (hv : Vld d) : hz (dB d) 7 8 = d.a ∧ hz (fun i => dB d (8 + i)) 7 8 = word1 d := by
 obtain ⟨k, a, n, key⟩ := d
 obtain ⟨hk, ha, hn, hkey⟩ := hok
 obtain ⟨⟨h1, h5⟩, ⟨n0, n1⟩, h3, h4⟩ := hv
 simp only [] at *
 refine ⟨?_, ?_⟩
 ·refine Eq.trans ?_ (sum8 a ha.1 ha.2)
  simp only [hz, dB]
  simp
 ·unfold word1 lim at *
  simp only [hz, dB]
  by_cases e : k = 5
  ·rw [if_pos e] at n1
   simp [e, byteOf]
   omega
  ·rw [if_neg e] at n1
   obtain rfl : key = 0 := by omega
   simp [e, byteOf]
   omega
end Go.Proofs.YtfmabknhfehdcaaGreat
namespace Go.Proofs.YtfmabknhfehdcaaGreat
set_option linter.unusedSimpArgs false
set_option linter.unusedVariables false
open Go.RowKit
/-- sixteen bytes in memory -/
def Six (w : World) (g o : Nat) (F : Nat → Int) : Prop := ∀ i, i < 16 → w.cell? ⟨g, o + i, none⟩ = some (.int .u8 (F i))
theorem Six.kept {S : Nat → Prop} {w w' : World} {g o : Nat} {F : Nat → Int} (h : Six w g o F) (k : Keeps S w w') (hg : ¬ S g) : Six w' g o F := fun i hi => k.cell (h i hi) hg
theorem Six.below {w w' : World} {g o : Nat} {F : Nat → Int} (h : Six w g o F) (k : Below w.heap.size w w') : Six w' g o F := h.kept (Keeps.of_below (S := fun _ => False) k) (fun e => e)
theorem Six.lt {w : World} {g o : Nat} {F : Nat → Int} (h : Six w g o F) : g < w.heap.size := World.block_lt_of_cell? _ _ (h 0 (by omega))
def dA (k a n key : Int) : Array Value := #[.int .i64 k, .int .u64 a, .int .i64 n, .int .u32 key]
theorem dA_size (k a n key : Int) : (Tryz.prog.info? 72).map (·.size) = some (dA k a n key).size := sizeD
end Go.Proofs.YtfmabknhfehdcaaGreat
namespace Go.Proofs.YtfmabknhfehdcaaGreat
set_option linter.unusedSimpArgs false
set_option linter.unusedVariables false
open Go.RowKit
/-- the second word of sixteen bytes -/
def hiW (F : Nat → Int) : Int := hz (fun i => F (8 + i)) 7 8
theorem hiW_eq (F : Nat → Int) : hiW F = (((((((F 15 * 256 + F 14) * 256 + F 13) * 256 + F 12) * 256 + F 11) * 256 + F 10) * 256 + F 9) * 256 + F 8) := by
 simp [hiW, hz]
theorem hiW_bd {F : Nat → Int} (h : Bytes F) : 0 ≤ hiW F ∧ hiW F ≤ 18446744073709551615 := by
 have := hz_bd (F := fun i => F (8 + i)) (fun i => h (8 + i)) 7 8
 have e : (256 : Int) ^ 8 = 18446744073709551616 := by decide
 unfold hiW
 omega
theorem loW_bd {F : Nat → Int} (h : Bytes F) : 0 ≤ hz F 7 8 ∧ hz F 7 8 ≤ 18446744073709551615 := by
 have := hz_bd h 7 8
 have e : (256 : Int) ^ 8 = 18446744073709551616 := by decide
 omega
end Go.Proofs.YtfmabknhfehdcaaGreat
namespace Go.Proofs.YtfmabknhfehdcaaGreat
set_option linter.unusedSimpArgs false
set_option linter.unusedVariables false
open Go.RowKit
/-- byte j of two words -/
def fwB (x0 x1 : Int) (j : Nat) : Int := byteOf (if j < 8 then x0 else x1) (j % 8)
def fwR (x0 x1 : Int) (k : Nat) : Nat → Value := fun j => if j < k then .int .u8 (fwB x0 x1 j) else .int .u8 0
end Go.Proofs.YtfmabknhfehdcaaGreat
namespace Go.Proofs.YtfmabknhfehdcaaGreat
set_option linter.unusedSimpArgs false
set_option linter.unusedVariables false
open Go.RowKit
theorem must_ok (no : Int) (w : World) : Calls Tryz.prog 58 #[.bool true, .int .i64 no] w fun e w' => e = .returned (.tuple #[]) ∧ w = w' := by
 go_enter Tryz.func58, Tryz.ntmps58
 go_wp2
 go_end0
 exact ⟨rfl, rfl⟩
set_option maxHeartbeats 1000000 in
theorem must_bad (no : Int) (w : World) : Calls Tryz.prog 58 #[.bool false, .int .i64 no] w fun e w' => e = .panicked [pan no] ∧ w = w' := by
 go_enter Tryz.func58, Tryz.ntmps58
 go_wp2
 exact ⟨rfl, rfl, rfl⟩
theorem got_bytes (v : Value) (w : World) : Calls Tryz.prog 61 #[v, .int .i64 0] w fun e w' => e = .returned v ∧ w = w' := by
 go_enter Tryz.func61, Tryz.ntmps61
 go_wp2_with (go_at_call 58; refine (must_ok _ _).mono ?_; rintro e w' ⟨rfl, rfl⟩)
 go_ret
 exact ⟨rfl, rfl⟩
theorem got_u64 (v : Value) (w : World) : Calls Tryz.prog 105 #[v, .int .i64 0] w fun e w' => e = .returned v ∧ w = w' := by
 go_enter Tryz.func105, Tryz.ntmps105
 go_wp2_with (go_at_call 58; refine (must_ok _ _).mono ?_; rintro e w' ⟨rfl, rfl⟩)
 go_ret
 exact ⟨rfl, rfl⟩
set_option maxRecDepth 100000 in
set_option maxHeartbeats 1000000 in
theorem got_words (x y : Int) (w : World) : Calls Tryz.prog 60 #[.agg #[.int .u64 x, .int .u64 y], .int .i64 0] w fun e w' => e = .returned (.agg #[.int .u64 x, .int .u64 y]) ∧ Below w.heap.size w w' := by
 obtain ⟨A, hA⟩ : ∃ A : Array Value, A = #[.int .u64 x, .int .u64 y] := ⟨_, rfl⟩
 have HS := Lib.hid (show A.size = 2 by rw [hA]; rfl)
 have H1 := Lib.hid (show A.all (·.oneCell') = true by rw [hA]; exact u64s_one x y)
 rw [← hA]
 clear hA
 have HI := Lib.hid (show (Tryz.prog.info? 25).map (·.size) = some A.size by rw [HS.out]; exact size2w)
 go_enter Tryz.func60, Tryz.ntmps60
 go_upto_region 1 with ((with_reducible show wpList _ _ _ (⟨some 4, _, _, _, _, _⟩ :: _) _ _); refine wpList_alloc rfl 25 rfl zero2 ?_; rw [show (Value.agg zer2).cells = zer2 from rfl])
 obtain ⟨W, hW⟩ : ∃ W, W = (w.alloc (.cells A 25)).alloc (.cells zer2 25) := ⟨_, rfl⟩
 rw [← hW]
 have A1 := Lib.hid (show ArrAt W w.heap.size A by rw [hW]; exact (ArrAt.fresh w A _ (by rw [HS.out]; omega)).alloc _)
 have A2 := Lib.hid (show ArrAt W (w.heap.size + 1) zer2 by
  have h := ArrAt.fresh (w.alloc (.cells A 25)) zer2 25 (by decide)
  rw [show (w.alloc (.cells A 25)).heap.size = w.heap.size + 1 by simp] at h
  rw [hW]; exact h)
 have HB := Lib.hid (show Below w.heap.size w W by rw [hW]; exact ((Below.refl _ w).alloc (Nat.le_refl _) _).alloc (by simp) _)
 clear hW
 try simp only [Act.put, List.setIfInBounds_toArray, List.set_cons_succ, List.set_cons_zero]
 go_wp2_with (first
  | (go_at_call 58; refine (must_ok _ _).mono ?_; rintro e w' ⟨rfl, rfl⟩)
  | ((with_reducible show wpList _ _ _ (⟨some 9, _, _, _, _, _⟩ :: _) _ _); refine wpList_loadA rfl A1.out 25 (.tmp 2) rfl (by first | rfl | simp [Act.eval, Act.put]) Tryz.underlying25 rfl HI.out ?_)
  | ((with_reducible show wpList _ _ _ (⟨none, .store _ (.tmp 4) _, _, _, _, _⟩ :: _) _ _); refine wpList_storeA rfl (b := w.heap.size + 1) (A := zer2) (A' := A) A2.out 25 (.tmp 4) (.tmp 9) rfl (by simp [Act.eval, Act.put]) (by simp [Act.eval, Act.put]) size2z HS.out H1.out ?_))
 exact bodyPost_ret (results_c rfl _ _ _ (A2.out.store A HS.out) rfl Tryz.underlying25 rfl HI.out) rfl ⟨rfl, bstore HB.out _ (by omega) _ _⟩
/-- the descriptor boxed, and the result beside it -/
theorem gotd_start (A : Array Value) (hs : A.size = 4) (w : World) : ∃ W, W = (w.alloc (.cells A 72)).alloc (.cells zDsc.cells 72) ∧ Below w.heap.size w W ∧ ArrAt W w.heap.size A ∧ ArrAt W (w.heap.size + 1) zDsc.cells := by
 refine ⟨_, rfl, ((Below.refl _ w).alloc (Nat.le_refl _) _).alloc (by simp) _, (ArrAt.fresh w A _ (by omega)).alloc _, ?_⟩
 have h := ArrAt.fresh (w.alloc (.cells A 72)) zDsc.cells 72 (by decide)
 rw [show (w.alloc (.cells A 72)).heap.size = w.heap.size + 1 by simp] at h
 exact h
set_option maxRecDepth 100000 in
set_option maxHeartbeats 1000000 in
theorem got_dsc (d : Dsc) (w : World) : Calls Tryz.prog 104 #[.agg d.cells, .int .i64 0] w fun e w' => e = .returned (.agg d.cells) ∧ Below w.heap.size w w' := by
 obtain ⟨A, hA⟩ : ∃ A : Array Value, A = d.cells := ⟨_, rfl⟩
 have HS := Lib.hid (show A.size = 4 by rw [hA]; rfl)
 have H1 := Lib.hid (show A.all (·.oneCell') = true by rw [hA]; exact d.one)
 rw [← hA]
 clear hA
 have HI := Lib.hid (show (Tryz.prog.info? 72).map (·.size) = some A.size by rw [HS.out]; exact sizeD)
 obtain ⟨W, hW, hB, h1, h2⟩ := gotd_start A HS.out w
 have HW := Lib.hid hW
 have HB := Lib.hid hB
 have A1 := Lib.hid h1
 have A2 := Lib.hid h2
 clear hW hB h1 h2
 go_enter Tryz.func104, Tryz.ntmps104
 go_upto_region 1 with ((with_reducible show wpList _ _ _ (⟨some 4, _, _, _, _, _⟩ :: _) _ _); refine wpList_alloc rfl 72 rfl zeroD ?_; rw [show (Value.agg zDsc.cells).cells = zDsc.cells from rfl])
 rw [show (w.alloc (.cells A 72)).alloc (.cells zDsc.cells 72) = W from HW.out.symm]
 try simp only [Act.put, List.setIfInBounds_toArray, List.set_cons_succ, List.set_cons_zero]
 clear HW
 go_wp2_with (first
  | (go_at_call 58; refine (must_ok _ _).mono ?_; rintro e w' ⟨rfl, rfl⟩)
  | ((with_reducible show wpList _ _ _ (⟨some 9, _, _, _, _, _⟩ :: _) _ _); refine wpList_loadA rfl A1.out 72 (.tmp 2) rfl (by first | rfl | simp [Act.eval, Act.put]) Tryz.underlying72 rfl HI.out ?_)
  | ((with_reducible show wpList _ _ _ (⟨none, .store _ (.tmp 4) _, _, _, _, _⟩ :: _) _ _); refine wpList_storeA rfl (b := w.heap.size + 1) (A := zDsc.cells) (A' := A) A2.out 72 (.tmp 4) (.tmp 9) rfl (by simp [Act.eval, Act.put]) (by simp [Act.eval, Act.put]) (sizeDs _) HS.out H1.out ?_))
 exact bodyPost_ret (results_c rfl _ _ _ (A2.out.store A HS.out) rfl Tryz.underlying72 rfl HI.out) rfl ⟨rfl, bstore HB.out _ (by omega) _ _⟩
/-- got: an error. -/
theorem got_dsc_bad (d : Dsc) (no : Int) (hn : (no == 0) = false) (w : World) : Calls Tryz.prog 104 #[.agg d.cells, .int .i64 no] w fun e w' => e = .panicked [pan no] ∧ Below w.heap.size w w' := by
 obtain ⟨A, hA⟩ : ∃ A : Array Value, A = d.cells := ⟨_, rfl⟩
 have HS := Lib.hid (show A.size = 4 by rw [hA]; rfl)
 rw [← hA]
 clear hA
 obtain ⟨W, hW, hB, -, -⟩ := gotd_start A HS.out w
 have HW := Lib.hid hW
 have HB := Lib.hid hB
 clear hW hB
 go_enter Tryz.func104, Tryz.ntmps104
 go_upto_region 1 with ((with_reducible show wpList _ _ _ (⟨some 4, _, _, _, _, _⟩ :: _) _ _); refine wpList_alloc rfl 72 rfl zeroD ?_; rw [show (Value.agg zDsc.cells).cells = zDsc.cells from rfl])
 rw [show (w.alloc (.cells A 72)).alloc (.cells zDsc.cells 72) = W from HW.out.symm]
 try simp only [Act.put, List.setIfInBounds_toArray, List.set_cons_succ, List.set_cons_zero]
 clear HW
 go_wp2_with (go_at_call 58; refine (must_bad _ _).mono ?_; rintro e w' ⟨rfl, rfl⟩)
 exact ⟨rfl, rfl, HB.out⟩
theorem got_words_bad (A : Array Value) (hs : A.size = 2) (no : Int) (hn : (no == 0) = false) (w : World) : Calls Tryz.prog 60 #[.agg A, .int .i64 no] w fun e w' => e = .panicked [pan no] ∧ Below w.heap.size w w' := by
 go_enter Tryz.func60, Tryz.ntmps60
 go_upto_region 1 with ((with_reducible show wpList _ _ _ (⟨some 4, _, _, _, _, _⟩ :: _) _ _); refine wpList_alloc rfl 25 rfl zero2 ?_; rw [show (Value.agg zer2).cells = zer2 from rfl])
 obtain ⟨W, hW⟩ : ∃ W, W = (w.alloc (.cells A 25)).alloc (.cells zer2 25) := ⟨_, rfl⟩
 rw [← hW]
 have HB := Lib.hid (show Below w.heap.size w W by rw [hW]; exact ((Below.refl _ w).alloc (Nat.le_refl _) _).alloc (by simp) _)
 clear hW
 try simp only [Act.put, List.setIfInBounds_toArray, List.set_cons_succ, List.set_cons_zero]
 go_wp2_with (go_at_call 58; refine (must_bad _ _).mono ?_; rintro e w' ⟨rfl, rfl⟩)
 exact ⟨rfl, rfl, HB.out⟩
end Go.Proofs.YtfmabknhfehdcaaGreat
namespace Go.Proofs.YtfmabknhfehdcaaGreat
set_option linter.unusedSimpArgs false
set_option linter.unusedVariables false
open Go.RowKit
/-- what clears the result, and what lies there then -/
structure sClears (f : Nat) (cb : Nat) (C C' : World → Prop) : Prop where
 enter : ∀ args w, (callFunc f args).run Tryz.prog w = .ok (.enter f args) w
 call : ∀ w, C w → Calls Tryz.prog f #[.pointer (some ⟨cb, 0, none⟩)] w fun e w' => e = .returned (.tuple #[]) ∧ Keeps (One cb) w w' ∧ C' w'
set_option maxRecDepth 100000 in
set_option maxHeartbeats 4000000 in
theorem scaught_panicking (f cb eb : Nat) (C C' : World → Prop) (x no : Int) (w : World) (hcl : sClears f cb C C') (hC : C w) (he : w.cell? ⟨eb, 0, none⟩ = some (.int .i64 x)) (hz : w.frozen? ⟨eb, 0, none⟩ = false) (hne : eb ≠ cb)
  (hC' : ∀ a b, C' a → Keeps (One eb) a b → C' b) :
  CallsD Tryz.prog 56 #[.pointer (some ⟨eb, 0, none⟩), .func (.func f) #[] #[.pointer (some ⟨cb, 0, none⟩)]] (.panicking [pan no]) w fun e u' w' =>
   e = .returned (.tuple #[]) ∧ u' = .panicking [{ pan no with recovered := true }] ∧ Keeps (Two cb eb) w w' ∧ C' w' ∧ w'.cell? ⟨eb, 0, none⟩ = some (.int .i64 no) := by
 have HCL := Lib.hid hcl
 have HC := Lib.hid hC
 have HC' := Lib.hid hC'
 have HE := Lib.hid he
 have HZ := Lib.hid hz
 unfold pan
 refine callsD_of_wpS Tryz.func56 rfl fun c₀ cs hu => ?_
 apply wpS_seq
 apply wpS_region
 simp [wpOpsS, go_sem, recoverD, hu, Tryz.ntmps56, Exit.thenS]
 refine wpS_of_wp ?_
 have HU := Lib.hid hu
 clear hcl hC hC' he hz hu
 generalize hq : (bodyPostS Tryz.prog Tryz.f56 c₀ cs _) = Q
 have HQ := Lib.hid hq
 clear hq
 have hfr : (#[Value.pointer (some ⟨eb, 0, none⟩), Value.func (.func f) #[] #[.pointer (some ⟨cb, 0, none⟩)]] ++ ((Array.replicate 21 undef).setIfInBounds 5 (Value.iface 38 (.int .i64 no))).setIfInBounds 2 (Value.iface 38 (.int .i64 no)) : Array Value) = #[.pointer (some ⟨eb, 0, none⟩), .func (.func f) #[] #[.pointer (some ⟨cb, 0, none⟩)], undef, undef, .iface 38 (.int .i64 no), undef, undef, .iface 38 (.int .i64 no), undef, undef, undef, undef, undef, undef, undef, undef, undef, undef, undef, undef, undef, undef, undef] := by kernel_rfl
 rw [hfr]
 clear hfr
 go_upto_region 2 with (fail)
 have hta : ∀ w, (Instr.typeAssert (.iface 38 (.int .i64 no)) 20 38 true).run Tryz.prog w = .ok (.tuple #[.int .i64 no, .bool true]) w := fun w => by kernel_rfl
 go_upto_region 3 with (fail)
 go_upto_region 5 with (fail)
 have hen := HCL.out.enter
 have hcall := Lib.hid (HCL.out.call w HC.out)
 go_upto_region 6 with ((with_reducible refine hcall.out.mono ?_); rintro e w1 ⟨rfl, hk, hc1⟩)
 have he1 := hk.cell HE.out (fun e => by have e : eb = cb := e; omega)
 have hz1 : w1.frozen? ⟨eb, 0, none⟩ = false := (World.frozen?_of_block (w := w) (hk.block eb (World.block_lt_of_cell? _ _ HE.out) (fun e => by have e : eb = cb := e; omega))).trans HZ.out
 have HK := Lib.hid hk
 have HC1 := Lib.hid hc1
 clear hk hc1 hen hcall
 go_wp2_with fail
 rw [← HQ.out]
 refine ⟨rfl, _, rfl, .tuple #[], ?_, rfl, rfl, HK.out.two1.trans ((Keeps.refl (One eb) w1).set1 0 (.int .i64 no)).two2, HC'.out _ _ HC1.out ((Keeps.refl (One eb) w1).set1 0 (.int .i64 no)), World.cell?_setCell_same _ _ _ he1⟩
 simp [results, Tryz.results56]
theorem scaught_idle (u v : Value) (w : World) :
  CallsD Tryz.prog 56 #[u, v] .returning w fun e u' w' => e = .returned (.tuple #[]) ∧ u' = .returning ∧ w' = w := by
 refine callsD_of_wpS Tryz.func56 rfl fun c₀ cs hu => ?_
 apply wpS_seq
 apply wpS_region
 simp [wpOpsS, go_sem, recoverD, hu, Tryz.ntmps56, Exit.thenS]
 apply wpS_seq
 apply wpS_region
 simp [wpOpsS, go_sem, recoverD, hu, Tryz.ntmps56, Exit.thenS]
 refine wpS_cond (t := false) (by simp [Act.eval, Array.replicate]) ?_
 simp only [Bool.false_eq_true, if_false]
 refine wpS_of_wp (wp_skip ?_)
 cases c₀
 simp_all [bodyPostS, results, Tryz.results56]
/-- the spans cleared -/
theorem sclears_spans (cb : Nat) : sClears 96 cb (fun w => (∃ v, w.cell? ⟨cb, 0, none⟩ = some v) ∧ w.frozen? ⟨cb, 0, none⟩ = false) (fun w => w.cell? ⟨cb, 0, none⟩ = some (.slice none 0 0)) := by
 refine ⟨fun args w => by simp [go_sem], fun w h => ?_⟩
 obtain ⟨⟨v, hc⟩, hf⟩ := h
 go_enter Tryz.func96, Tryz.ntmps96
 go_wp2_with fail
 go_end0
 exact ⟨rfl, (Keeps.refl _ _).set1 _ _, World.cell?_setCell_same _ _ _ hc⟩
/-- the descriptor cleared -/
theorem sclears_build (cb : Nat) : sClears 57 cb (fun w => ∃ d : Dsc, ArrAt w cb d.cells) (fun w => ArrAt w cb zDsc.cells) := by
 refine ⟨fun args w => by simp [go_sem], fun w h => ?_⟩
 obtain ⟨d, ha⟩ := h
 have HA := Lib.hid ha
 clear ha
 go_enter Tryz.func57, Tryz.ntmps57
 go_wp2_with (first
  | ((with_reducible show wpList _ _ _ (⟨some _, .build _ _, _, _, _, _⟩ :: _) _ _); refine wpList_build0 rfl 72 rfl (buildDz _) ?_)
  | ((with_reducible show wpList _ _ _ (⟨none, .store _ (.tmp 0) _, _, _, _, _⟩ :: _) _ _); refine wpList_storeA rfl (b := cb) (A := d.cells) (A' := zDsc.cells) HA.out 72 (.tmp 0) _ rfl (by simp [Act.eval, Act.put]) (by simp [Act.eval, Act.put]) (sizeDs _) rfl (Dsc.one _) ?_))
 go_end0
 exact ⟨rfl, Keeps.setCells _ (Keeps.refl _ _) _, HA.out.store zDsc.cells rfl⟩
end Go.Proofs.YtfmabknhfehdcaaGreat
