/- transfer: made, without given cells; is. -/
import Derived.Test.YtfmabknhfehdcaaGreatZP42
import Derived.Test.YtfmabknhfehdcaaGreatZP29
import Derived.ChangeKeysEq
import Derived.Test.YtfmabknhfehdcaaGreatZP36
namespace Go.Proofs.YtfmabknhfehdcaaGreat
set_option linter.unusedSimpArgs false
set_option linter.unusedVariables false
open Go.ChangeShapes Go.WideShapes Go.ChangeAt Go.RowKit Go.Deep
section
variable (pg : Int) (w : World) (hp0 : 0 ≤ pg) (hp1 : pg ≤ 255)
include hp0 hp1
set_option maxRecDepth 100000 in
set_option maxHeartbeats 8000000 in
theorem made_nil (N : Nat) (hN : N = 1 + pg.toNat % 8) : Calls Tryz.prog 4 #[.int .u8 pg, .slice none 0 0] w (MadePost w 0 (N * 4096)) := by
 obtain ⟨q, hq⟩ : ∃ q : Nat, q = pg.toNat % 8 := ⟨_, rfl⟩
 have htm : pg.tmod 8 = (q : Int) := by rw [Int.tmod_eq_emod_of_nonneg hp0]; omega
 have hq3 : q ≤ 7 := by omega
 have hN1 : 1 ≤ N := by omega
 have hN4 : N ≤ 8 := by omega
 have hNI : (1 : Int) + (q : Int) = (N : Int) := by omega
 have HNI := Lib.hid hNI
 obtain ⟨sz, hsz⟩ : ∃ z : Nat, z = N * 4096 := ⟨_, rfl⟩
 have hmk : ∀ w, (Instr.makeSlice 31 (.int .i64 (4096 * (N : Int))) (.int .i64 (4096 * (N : Int)))).run Tryz.prog w = .ok (.slice (some ⟨w.heap.size, 0, none⟩) sz sz) (w.alloc (.cells (madeCells #[.int .u8 0] sz) 5)) := fun w => by
  have h := run_make_row' (P := Tryz.prog) 31 5 (.int .u8 0) 1 Tryz.underlying31 infoU8 rfl .i64 .i64 sz (by omega) (by omega) w
  rw [show ((sz : Nat) : Int) = 4096 * (N : Int) by omega] at h
  exact h
 rw [← hsz]
 have HSZ := Lib.hid hsz
 clear hq hNI hsz hN
 go_enter Tryz.func4, Tryz.ntmps4
 go_upto_region 2 with ((with_reducible show wpList _ _ _ (⟨some 5, _, _, _, _, _⟩ :: _) _ _); refine wpList_alloc rfl 34 rfl zeroRM ?_; rw [show (Value.agg zRM).cells = zRM from rfl])
 rw [HNI.out]
 obtain ⟨W0, hW⟩ : ∃ z, z = w.alloc (.cells zRM 34) := ⟨_, rfl⟩
 have B0 := Lib.hid (show Below w.heap.size w W0 by rw [hW]; exact (Below.refl _ _).alloc (Nat.le_refl _) _)
 have A5 := Lib.hid (show ArrAt W0 w.heap.size zRM by rw [hW]; exact ArrAt.fresh w zRM _ (by decide))
 rw [← hW]
 have HNW := Lib.hid (show ∀ W, Calls Tryz.prog 10 #[.int .i64 (N : Nat)] W fun e w' => ∃ b B, e = .returned (.tuple #[.pointer (some ⟨b, 0, none⟩), .int .i64 0]) ∧ W.heap.size ≤ b ∧ W.heap.size ≤ B ∧ Below W.heap.size W w' ∧ MemAt w' b B sz (fun _ => 0) [] from fun W => by rw [HSZ.out]; exact new_ok N W hN1 (by omega))
 have hw0 : w.heap.size < W0.heap.size := A5.out.lt
 clear hW
 go_upto_region 3 with (go_at_call 10; refine (HNW.out _).mono ?_; rintro e w1 ⟨b, B, rfl, hb, hB, hbl, hm⟩; have B1 := Lib.hid (B0.out.trans (hbl.mono B0.out.size)); have A51 := Lib.hid (A5.out.below hbl); have HM1 := Lib.hid hm; have hbs := hbl.size; clear hbl hm)
 go_upto_region 4 with fail
 obtain ⟨gb, hgb⟩ : ∃ z, z = w1.heap.size := ⟨_, rfl⟩
 obtain ⟨Wa, hW⟩ : ∃ z, z = w1.alloc (.cells (madeCells #[.int .u8 0] sz) 5) := ⟨_, rfl⟩
 have hba : Below gb w1 Wa := by rw [hW, hgb]; exact (Below.refl _ _).alloc (Nat.le_refl _) _
 have ROW0 := Lib.hid (show RowB Wa gb sz (fun _ => 0) from ⟨by rw [hW, hgb]; exact World.rowIs_made w1 (.int .u8 0) sz 5, bytes0⟩)
 have hgw : w.heap.size < gb := by omega
 have hbg : b < gb := by rw [hgb]; exact HM1.out.lt
 have hBg : B < gb := by rw [hgb]; exact HM1.out.lt'
 have hb1 : w.heap.size ≤ b := by omega
 have hB1 : w.heap.size ≤ B := by omega
 rw [hgb] at hba
 have Ba := Lib.hid (B1.out.trans (hba.mono B1.out.size))
 have Ma := Lib.hid (HM1.out.below hba)
 have A5a := Lib.hid (A51.out.below hba)
 rw [← hW, ← hgb]
 clear hW hba hgb B1 HM1 A51 HNW hmk hbs
 go_wp2_with fail
 go_loopw [11] (fun v11 wr => ∃ (k : Nat) (F : Nat → Int), v11 = .int .i64 (k : Nat) ∧ k ≤ sz ∧ RowB wr gb sz F ∧ Below gb Wa wr) (fun v11 _ => sz - (intOf v11).toNat)
 case atStart => exact ⟨0, _, rfl, by omega, ROW0.out, Below.refl _ _⟩
 case round =>
  obtain ⟨k, F, rfl, hk, hrow, hbr⟩ := hrel
  have ROW := Lib.hid hrow
  have BR := Lib.hid hbr
  have hszb : sz ≤ 32768 := by have := HSZ.out; omega
  clear hrow hbr
  by_cases hkn : k < sz
  case pos =>
   have q1 : decide ((k : Int) < (sz : Int)) = true := decide_eq_true (by omega)
   have q2 : decide (k < sz) = true := decide_eq_true hkn
   have y9 : wr.cell? ⟨gb, k, none⟩ = some (.int .u8 (F k)) := ROW.out.1.cell (by omega)
   have yf : wr.frozen? ⟨gb, k, none⟩ = false := ROW.out.1.frozen _
   have tm : (k : Int).tmod 251 = ((k % 251 : Nat) : Int) := by rw [Int.tmod_eq_emod_of_nonneg (by omega)]; omega
   have tb : 0 ≤ ((k % 251 : Nat) : Int) ∧ ((k % 251 : Nat) : Int) ≤ 255 := by omega
   have TB := Lib.hid tb
   obtain ⟨z, hz⟩ : ∃ z : Int, z = ((k % 251 : Nat) : Int) := ⟨_, rfl⟩
   rw [← hz] at tm TB tb
   obtain ⟨tb0, tb1⟩ := tb
   clear hz
   go_wp2_with fail
   go_roundw
   case rel => exact ⟨k + 1, _, by go_num, by omega, rowB_set ROW.out k z TB.out, BR.out.setCell (p := ⟨gb, k, none⟩) (Nat.le_refl gb) _⟩
   case measure => simp [intOf]; omega
  case neg =>
   have q1 : decide ((k : Int) < (sz : Int)) = false := decide_eq_false (by omega)
   have q2 : decide (k < sz) = false := decide_eq_false hkn
   have hbs := BR.out.size
   have hgs := ROW.out.1.lt
   have BW := Lib.hid (Ba.out.trans (BR.out.mono (by omega)))
   have A5r := Lib.hid (A5a.out.kept (S := fun j => gb ≤ j) (keeps_from BR.out) (fun e => by have e : gb ≤ w.heap.size := e; omega))
   have Mr := Lib.hid (Ma.out.kept (S := fun j => gb ≤ j) (keeps_from BR.out) (fun e => by have e : gb ≤ b := e; omega) (fun e => by have e : gb ≤ B := e; omega))
   have HF := Lib.hid ROW.out.2
   have hsrc : Src (Two b B) wr (some ⟨gb, 0, none⟩) sz F := ⟨by have := HSZ.out; omega, fun _ => ⟨gb, 0, rfl, fun e => by rcases e with e | e <;> omega, fun i hi => by rw [Nat.zero_add]; exact ROW.out.1.cell hi⟩⟩
   have HWR := Lib.hid (write_ok' b B sz (fun _ => 0) [] 0 sz sz (some ⟨gb, 0, none⟩) F 0 wr Mr.out (by simp) (by omega) hsrc rfl)
   have hb3 : (b : Nat) < wr.heap.size := by omega
   have hz3 : w.heap.size < wr.heap.size := by omega
   clear hsrc
   obtain ⟨MC, hMC⟩ : ∃ A : Array Value, A = #[.slice (some ⟨gb, 0, none⟩) sz sz, .slice none 0 0] := ⟨_, rfl⟩
   have HBLD := Lib.hid (show ∀ w, (Instr.build 34 #[(0, .slice (some ⟨gb, 0, none⟩) sz sz)]).run Tryz.prog w = .ok (.agg MC) w from fun w => by rw [hMC]; kernel_rfl)
   have SMC := Lib.hid (show MC.size = 2 by rw [hMC]; rfl)
   have OMC := Lib.hid (show MC.all (·.oneCell') = true by rw [hMC]; simp [Value.oneCell'])
   have HMC := Lib.hid hMC
   clear hMC
   go_wp2
   refine wp_loop_rounds 1 ?_
   rw [rounds_succ]
   go_wp2_with (first
    | (go_at_call 11; refine HWR.out.mono ?_; rintro e w5 ⟨rfl, hk5, hm5⟩; have A55 := Lib.hid (A5r.out.kept hk5 (fun e => by rcases e with e | e <;> omega)); have K5 := Lib.hid hk5; have M5 := Lib.hid hm5; clear hk5 hm5)
    | (go_at_call 8; refine (num16_any _ _).mono ?_; rintro e w' ⟨rfl, rfl⟩)
    | ((with_reducible show wpList _ _ _ (⟨some 85, _, _, _, _, _⟩ :: _) _ _); refine wpList_build1 rfl 34 0 (.tmp 84) rfl (.slice (some ⟨gb, 0, none⟩) sz sz) (by first | rfl | simp [Act.eval, Act.put]) (HBLD.out _) ?_)
    | ((with_reducible show wpList _ _ _ (⟨none, .store _ (.tmp 5) _, _, _, _, _⟩ :: _) _ _); refine wpList_storeA rfl (b := w.heap.size) (A := zRM) (A' := MC) A55.out 34 (.tmp 5) (.tmp 85) rfl (by simp [Act.eval, Act.put]) (by simp [Act.eval, Act.put]) sizeRMz (by rw [SMC.out]; rfl) OMC.out ?_))
   have aE := A55.out.store MC (by rw [SMC.out]; rfl)
   have kE : Keeps (One w.heap.size) w5 (w5.setCells w.heap.size 0 MC.toList) := Keeps.store (S := One w.heap.size) (Keeps.refl _ _) (fun _ => rfl) _ _
   have row5 := K5.out.rowIs ROW.out.1 (fun e => by rcases e with e | e <;> omega)
   have rowE := kE.rowIs row5 (fun e => by have e : gb = w.heap.size := e; omega)
   refine bodyPost_ret (results_tct rfl _ _ _ aE rfl Tryz.underlying34 rfl (by rw [SMC.out]; exact sizeRM)) rfl ?_
   refine ⟨b, B, gb, upd (fun _ => 0) 0 sz F, ?_, by omega, by omega, by omega, by omega, by omega, ?_, ?_, ?_, bytes_upd bytes0 HF.out⟩
   ·rw [← HMC.out]; rfl
   ·exact bstore (BW.out.trans (K5.out.below (B := w.heap.size) (by omega) (fun j hj e => by rcases e with e | e <;> omega))) _ (Nat.le_refl _) _ _
   ·have hlog : logged [] 0 sz = [(0, sz)] := by unfold logged; rw [if_neg (by have := HSZ.out; omega)]; rfl
    rw [← hlog]
    exact M5.out.kept kE (fun e => by have e : b = w.heap.size := e; omega) (fun e => by have e : B = w.heap.size := e; omega)
   ·refine ⟨⟨gb, 0, none⟩, sz, none, 0, rfl, Nat.le_refl _, by have := HSZ.out; omega, Nat.le_refl _, by omega, fun _ => ⟨rfl, rfl⟩, ⟨by have := HSZ.out; omega, fun _ => ⟨gb, 0, rfl, fun e => e rfl, fun i hi => ?_⟩⟩, fun h => absurd h (by simp)⟩
    rw [Nat.zero_add, rowE.cell hi]
    unfold upd
    rw [if_pos (by omega)]
    rfl
end
end Go.Proofs.YtfmabknhfehdcaaGreat
namespace Go.Proofs.YtfmabknhfehdcaaGreat
set_option linter.unusedSimpArgs false
set_option linter.unusedVariables false
open Go.RowKit
theorem isstr_ok {S : Nat → Prop} {w : World} {ao : Option Addr} {n c : Nat} {f : Nat → Int} (h : Src S w ao n f) (h0 : 0 < n) : (convert 31 9 (.slice ao n c)).run Tryz.prog w = .ok (.string (strOf n f)) w := by
 obtain ⟨g, o, rfl, -, hx⟩ := h.at' h0
 exact conv_str w _ n c f fun j hj => by rw [Addr.add_mid]; exact hx j hj
set_option maxRecDepth 100000 in
set_option maxHeartbeats 2000000 in
theorem is_any (b B size : Nat) (f : Nat → Int) (L L2 : List (Nat × Nat)) (S : Nat → Prop) (v : Value) (w : World) (hM : MemAt w b B size f L) (hs : 0 < size) (hR : RefAt S w v size f L2) :
  Calls Tryz.prog 9 #[.pointer (some ⟨b, 0, none⟩), v] w fun e w' => e = .returned (.bool true) ∧ Below w.heap.size w w' := by
 obtain ⟨A, rfl, hA2, -⟩ := refAt_form hR
 have HM := Lib.hid hM
 have HRR := Lib.hid hR
 obtain ⟨ao, c, al, cl, hv, -, -, -, -, -, hsrc, -⟩ := hR
 have hA0 : A[0]? = some (.slice (some ao) size c) := by injection hv with hv; rw [hv]; rfl
 have HA0 := Lib.hid hA0
 have HA2 := Lib.hid hA2
 have HSR := Lib.hid hsrc
 obtain ⟨sz, hsz⟩ : ∃ z : Int, z = size := ⟨_, rfl⟩
 have HZ := Lib.hid hsz
 have HRD := Lib.hid (show ∀ W, Below w.heap.size w W → Calls Tryz.prog 15 #[.pointer (some ⟨b, 0, none⟩), .int .u64 0, .int .i64 sz] W fun e w' => ∃ ng nc, e = .returned (.tuple #[.slice (some ⟨ng, 0, none⟩) size nc, .int .i64 0]) ∧ (∀ W2, Below w'.heap.size w' W2 → (convert 31 9 (.slice (some ⟨ng, 0, none⟩) size nc)).run Tryz.prog W2 = .ok (.string (strOf size f)) W2) ∧ Below W.heap.size W w' from fun W hb => by
  rw [hsz]
  refine (read_ok b B size f L 0 size W (hM.below hb) (by omega)).mono fun e w' ⟨v, h1, h2, h3⟩ => ?_
  have h2' := h2
  obtain ⟨ng, nc, nF, hv, -⟩ := h2'
  subst hv
  refine ⟨ng, nc, h1, fun W2 hb2 => ?_, h3⟩
  rw [newBytes_str (h2.kept (Keeps.of_below (S := fun _ => False) hb2) (fun _ _ e => e))]
  rw [strOf_congr (f := fun i => f (0 + i)) (g := f) (fun i _ => by rw [Nat.zero_add])])
 clear hM hsz hv hA0 hA2 hsrc
 go_enter Tryz.func9, Tryz.ntmps9
 go_upto_region 1 with fail
 obtain ⟨W0, hW0⟩ : ∃ W0, W0 = w.alloc (.cells A 34) := ⟨_, rfl⟩
 rw [← hW0]
 have AC := Lib.hid (show ArrAt W0 w.heap.size A by rw [hW0]; exact ArrAt.fresh w A _ (by rw [HA2.out]; decide))
 have HB0 := Lib.hid (show Below w.heap.size w W0 by rw [hW0]; exact (Below.refl _ _).alloc (Nat.le_refl _) _)
 clear hW0
 go_upto_region 2 with (first
  | (go_at_call 19; refine (size_is b B size f L sz _ (HM.out.below HB0.out) HZ.out).mono ?_; rintro e w' ⟨rfl, rfl⟩)
  | (go_at_call 15; refine (HRD.out W0 HB0.out).mono ?_; rintro e w1 ⟨ng, nc, rfl, hcv, hb⟩; have HB1 := Lib.hid (HB0.out.trans (hb.mono HB0.out.size)); have AC1 := Lib.hid (AC.out.below hb); have HCV := Lib.hid hcv; clear hb hcv))
 have hc1 := HCV.out w1 (Below.refl _ _)
 have hc2 := isstr_ok (c := c) (HSR.out.kept (Keeps.of_below (S := fun _ => False) HB1.out) (fun _ e => e.elim)) hs
 have c0 := AC1.out.cell HA0.out
 go_wp2_with (go_at_call 8; refine (num16_any _ _).mono ?_; rintro e w' ⟨rfl, rfl⟩)
 go_ret
 exact ⟨rfl, HB1.out⟩
end Go.Proofs.YtfmabknhfehdcaaGreat
namespace Go.Proofs.YtfmabknhfehdcaaGreat
set_option linter.unusedSimpArgs false
set_option linter.unusedVariables false
open Go.ChangeShapes Go.WideShapes Go.ChangeAt Go.RowKit Go.Deep
/-- A command. -/
structure Cmd where
 op : Int
 fused : Int
 sgl : Bool
 id : Int
 nsid : Int
 c2 : Int
 c3 : Int
 mt : Int
 d0 : Int
 d1 : Int
 w0 : Int
 w1 : Int
 w2 : Int
 w3 : Int
 w4 : Int
 w5 : Int
def Cmd.cells (c : Cmd) : Array Value := #[.int .u8 c.op, .int .u8 c.fused, .bool c.sgl, .int .u16 c.id, .int .u32 c.nsid, .int .u32 c.c2, .int .u32 c.c3, .int .u64 c.mt, .int .u64 c.d0, .int .u64 c.d1, .int .u32 c.w0, .int .u32 c.w1, .int .u32 c.w2, .int .u32 c.w3, .int .u32 c.w4, .int .u32 c.w5]
def Cmd.v (c : Cmd) : Value := .agg c.cells
structure Cmd.Ok (c : Cmd) : Prop where
 op : 0 ≤ c.op ∧ c.op ≤ 255
 fused : 0 ≤ c.fused ∧ c.fused ≤ 255
 id : 0 ≤ c.id ∧ c.id ≤ 65535
 nsid : 0 ≤ c.nsid ∧ c.nsid ≤ 4294967295
 c2 : 0 ≤ c.c2 ∧ c.c2 ≤ 4294967295
 c3 : 0 ≤ c.c3 ∧ c.c3 ≤ 4294967295
 mt : 0 ≤ c.mt ∧ c.mt ≤ 18446744073709551615
 d0 : 0 ≤ c.d0 ∧ c.d0 ≤ 18446744073709551615
 d1 : 0 ≤ c.d1 ∧ c.d1 ≤ 18446744073709551615
 w0 : 0 ≤ c.w0 ∧ c.w0 ≤ 4294967295
 w1 : 0 ≤ c.w1 ∧ c.w1 ≤ 4294967295
 w2 : 0 ≤ c.w2 ∧ c.w2 ≤ 4294967295
 w3 : 0 ≤ c.w3 ∧ c.w3 ≤ 4294967295
 w4 : 0 ≤ c.w4 ∧ c.w4 ≤ 4294967295
 w5 : 0 ≤ c.w5 ∧ c.w5 ≤ 4294967295
namespace Cmv
set_option linter.unusedSimpArgs false
set_option linter.unusedVariables false
theorem flArr1 {P : Program} {t e : TypeId} {n : Nat} {l : Leaf} (ht : P.underlying t = some (.array n e)) (he : FlatT P e [l]) (hc : P.cellsOf t = n) : FlatT P t (List.replicate n l) :=
 FlatT.array (n := n) ht he (by simpa using hc) (by simp) (by simp) (fun j hj => by
  simp only [List.length_replicate] at hj
  simp [hj, Nat.mod_one])
def lI64 : Leaf := some (some .i64)
def lU8 : Leaf := some (some .u8)
def lU16 : Leaf := some (some .u16)
def lU32 : Leaf := some (some .u32)
def lU64 : Leaf := some (some .u64)
def lB : Leaf := some none
theorem flI64 : FlatT Tryz.prog 3 [lI64] := FlatT.int Tryz.underlying3 (by kernel_rfl)
theorem flU8 : FlatT Tryz.prog 5 [lU8] := FlatT.int Tryz.underlying5 (by kernel_rfl)
theorem flU16 : FlatT Tryz.prog 22 [lU16] := FlatT.int Tryz.underlying22 (by kernel_rfl)
theorem flU32 : FlatT Tryz.prog 23 [lU32] := FlatT.int Tryz.underlying23 (by kernel_rfl)
theorem flU64 : FlatT Tryz.prog 24 [lU64] := FlatT.int Tryz.underlying24 (by kernel_rfl)
theorem flB : FlatT Tryz.prog 4 [lB] := FlatT.bool Tryz.underlying4 (by kernel_rfl)
theorem flA2 : FlatT Tryz.prog 25 (List.replicate 2 lU64) := flArr1 Tryz.underlying25 flU64 (by kernel_rfl)
theorem flA6 : FlatT Tryz.prog 26 (List.replicate 6 lU32) := flArr1 Tryz.underlying26 flU32 (by kernel_rfl)
def lsCmd : List Leaf := [lU8, lU8, lB, lU16, lU32, lU32, lU32, lU64, lU64, lU64, lU32, lU32, lU32, lU32, lU32, lU32]
theorem flCmd : FlatT Tryz.prog 28 lsCmd :=
 FlatT.struct [(0, [lU8]), (1, [lU8]), (2, [lB]), (3, [lU16]), (4, [lU32]), (5, [lU32]), (6, [lU32]), (7, [lU64]), (8, List.replicate 2 lU64), (10, List.replicate 6 lU32)] Tryz.underlying28 (by kernel_rfl)
  (fun i s hs => by
   match i, hs with
   | 0, hs => cases hs; exact ⟨_, rfl, rfl, flU8⟩
   | 1, hs => cases hs; exact ⟨_, rfl, rfl, flU8⟩
   | 2, hs => cases hs; exact ⟨_, rfl, rfl, flB⟩
   | 3, hs => cases hs; exact ⟨_, rfl, rfl, flU16⟩
   | 4, hs => cases hs; exact ⟨_, rfl, rfl, flU32⟩
   | 5, hs => cases hs; exact ⟨_, rfl, rfl, flU32⟩
   | 6, hs => cases hs; exact ⟨_, rfl, rfl, flU32⟩
   | 7, hs => cases hs; exact ⟨_, rfl, rfl, flU64⟩
   | 8, hs => cases hs; exact ⟨_, rfl, rfl, flA2⟩
   | 9, hs => cases hs; exact ⟨_, rfl, rfl, flA6⟩
   | n + 10, hs => simp at hs) (by decide)
def vN (v : Value) : Int := match v with | .int _ n => n | _ => 0
def vB (v : Value) : Bool := match v with | .bool b => b | _ => false
theorem leaf_int {k : IntKind} {v : Value} (h : leafOk (some (some k)) v) : v = .int k (vN v) ∧ (Lit.int k (vN v)).wf = true := by
 obtain ⟨n, rfl, hw⟩ := h
 exact ⟨rfl, hw⟩
theorem leaf_bool {v : Value} (h : leafOk (some none) v) : v = .bool (vB v) := by
 obtain ⟨b, rfl⟩ := h
 rfl
/-- the command of 16 cells -/
def cmdOf (V : Nat → Value) : Cmd := { op := vN (V 0), fused := vN (V 1), sgl := vB (V 2), id := vN (V 3), nsid := vN (V 4), c2 := vN (V 5), c3 := vN (V 6), mt := vN (V 7), d0 := vN (V 8), d1 := vN (V 9), w0 := vN (V 10), w1 := vN (V 11), w2 := vN (V 12), w3 := vN (V 13), w4 := vN (V 14), w5 := vN (V 15) }
theorem cmdOf_spec {V : Nat → Value} (h : ∀ (j : Nat) l, lsCmd[j]? = some l → leafOk l (V j)) : (∀ j, j < 16 → (cmdOf V).cells[j]? = some (V j)) ∧ (cmdOf V).Ok := by
 have h0 := leaf_int (h 0 lU8 rfl)
 have h1 := leaf_int (h 1 lU8 rfl)
 have h2 := leaf_bool (h 2 lB rfl)
 have h3 := leaf_int (h 3 lU16 rfl)
 have h4 := leaf_int (h 4 lU32 rfl)
 have h5 := leaf_int (h 5 lU32 rfl)
 have h6 := leaf_int (h 6 lU32 rfl)
 have h7 := leaf_int (h 7 lU64 rfl)
 have h8 := leaf_int (h 8 lU64 rfl)
 have h9 := leaf_int (h 9 lU64 rfl)
 have h10 := leaf_int (h 10 lU32 rfl)
 have h11 := leaf_int (h 11 lU32 rfl)
 have h12 := leaf_int (h 12 lU32 rfl)
 have h13 := leaf_int (h 13 lU32 rfl)
 have h14 := leaf_int (h 14 lU32 rfl)
 have h15 := leaf_int (h 15 lU32 rfl)
 refine ⟨fun j hj => ?_, ⟨wf_u8 h0.2, wf_u8 h1.2, wf_u16 h3.2, wf_u32 h4.2, wf_u32 h5.2, wf_u32 h6.2, wf_u64 h7.2, wf_u64 h8.2, wf_u64 h9.2, wf_u32 h10.2, wf_u32 h11.2, wf_u32 h12.2, wf_u32 h13.2, wf_u32 h14.2, wf_u32 h15.2⟩⟩
 match j, hj with
 | 0, _ => exact congrArg some h0.1.symm
 | 1, _ => exact congrArg some h1.1.symm
 | 2, _ => exact congrArg some h2.symm
 | 3, _ => exact congrArg some h3.1.symm
 | 4, _ => exact congrArg some h4.1.symm
 | 5, _ => exact congrArg some h5.1.symm
 | 6, _ => exact congrArg some h6.1.symm
 | 7, _ => exact congrArg some h7.1.symm
 | 8, _ => exact congrArg some h8.1.symm
 | 9, _ => exact congrArg some h9.1.symm
 | 10, _ => exact congrArg some h10.1.symm
 | 11, _ => exact congrArg some h11.1.symm
 | 12, _ => exact congrArg some h12.1.symm
 | 13, _ => exact congrArg some h13.1.symm
 | 14, _ => exact congrArg some h14.1.symm
 | 15, _ => exact congrArg some h15.1.symm
 | n + 16, h => exact absurd h (by omega)
theorem arr_eq {A : Array Value} {n : Nat} {V : Nat → Value} (hs : A.size = n) (h : ∀ j, j < n → A[j]? = some (V j)) : arr n V = A := by
 apply Array.ext_getElem?
 intro i
 by_cases hi : i < n
 ·rw [arr_get n V i hi, h i hi]
 ·rw [Array.getElem?_eq_none (by rw [arr_size]; omega), Array.getElem?_eq_none (by omega)]
set_option maxRecDepth 100000 in
theorem cmd_view {H : Type} {enc : TypeId × Value → H} {base : Nat} (W : World) (u : Value) (d : DataW H) (p : List MemPlace) (hok : Value.okWide Tryz.prog W .any base 28 u)
  (h : DataW.Trod enc Tryz.prog W 0 (fun _ => true) true 28 u d p) : ∃ c : Cmd, u = c.v ∧ c.Ok := by
 obtain ⟨cs, rfl, -⟩ := okWide_struct Tryz.underlying28 hok
 obtain ⟨V, e, hV⟩ := flCmd.view W _ d p ⟨_, rfl⟩ h
 obtain ⟨h1, h2⟩ := cmdOf_spec hV
 exact ⟨cmdOf V, by rw [e]; exact congrArg Value.agg (arr_eq rfl h1), h2⟩
theorem info_u64 : ∃ i, Tryz.prog.info? 24 = some i := Option.isSome_iff_exists.1 (by kernel_rfl)
theorem plain_u64 : Tryz.prog.plainKey 24 = true := by kernel_rfl
theorem cells_u64 : Tryz.prog.cellsOf 24 = 1 := by kernel_rfl
theorem info_u32 : ∃ i, Tryz.prog.info? 23 = some i := Option.isSome_iff_exists.1 (by kernel_rfl)
theorem plain_u32 : Tryz.prog.plainKey 23 = true := by kernel_rfl
theorem cells_u32 : Tryz.prog.cellsOf 23 = 1 := by kernel_rfl
theorem eqD2 (a b : Int) (w : World) : (Op.equalIn 9999 25 (.agg #[.int .u64 a, .int .u64 b]) (.agg #[.int .u64 a, .int .u64 b])).run Tryz.prog w = .ok true w := by
 obtain ⟨i, hi⟩ := info_u64
 refine (run_equalIn_array (P := Tryz.prog) (w := w) 9998 #[.int .u64 a, .int .u64 b] #[.int .u64 a, .int .u64 b] Tryz.underlying25 hi).trans ?_
 have e1 : (part 24 #[.int .u64 a, .int .u64 b] 0).run Tryz.prog w = .ok (.int .u64 a) w := run_part_plain (P := Tryz.prog) (w := w) plain_u64 rfl
 have e2 : (part 24 #[.int .u64 a, .int .u64 b] 1).run Tryz.prog w = .ok (.int .u64 b) w := run_part_plain (P := Tryz.prog) (w := w) plain_u64 rfl
 have e3 : ∀ x : Int, (Op.equalIn 9998 24 (.int .u64 x) (.int .u64 x)).run Tryz.prog w = .ok (x == x) w := fun x => run_equalIn_int (P := Tryz.prog) w 9997 24 .u64 _ x x Tryz.underlying24
 rw [cells_u64]
 rw [show List.range 2 = [0, 1] from rfl]
 simp [Op.eqItems, e1, e2, e3]
theorem eqC6 (a b c d e f : Int) (w : World) : (Op.equalIn 9999 26 (.agg #[.int .u32 a, .int .u32 b, .int .u32 c, .int .u32 d, .int .u32 e, .int .u32 f]) (.agg #[.int .u32 a, .int .u32 b, .int .u32 c, .int .u32 d, .int .u32 e, .int .u32 f])).run Tryz.prog w = .ok true w := by
 obtain ⟨i, hi⟩ := info_u32
 refine (run_equalIn_array (P := Tryz.prog) (w := w) 9998 _ _ Tryz.underlying26 hi).trans ?_
 have hp : ∀ (A : Array Value) (i : Nat) (v : Value), A[i]? = some v → (part 23 A i).run Tryz.prog w = .ok v w := fun A i v h => run_part_plain (P := Tryz.prog) (w := w) plain_u32 h
 have e3 : ∀ x : Int, (Op.equalIn 9998 23 (.int .u32 x) (.int .u32 x)).run Tryz.prog w = .ok (x == x) w := fun x => run_equalIn_int (P := Tryz.prog) w 9997 23 .u32 _ x x Tryz.underlying23
 rw [cells_u32]
 rw [show List.range 6 = [0, 1, 2, 3, 4, 5] from rfl]
 simp [Op.eqItems, hp _ 0 (.int .u32 a), hp _ 1 (.int .u32 b), hp _ 2 (.int .u32 c), hp _ 3 (.int .u32 d), hp _ 4 (.int .u32 e), hp _ 5 (.int .u32 f), e3]
set_option maxHeartbeats 2000000 in
theorem eqCmd (c : Cmd) (w : World) : (binOp .eql 28 c.v c.v).run Tryz.prog w = .ok (.bool true) w := by
 obtain ⟨op, fused, sgl, id, nsid, c2, c3, mt, d0, d1, w0, w1, w2, w3, w4, w5⟩ := c
 unfold Cmd.v Cmd.cells
 simp only []
 simp [go_sem, eqD2, eqC6]
end Cmv
theorem Cmd.cm (c : Cmd) (h : c.Ok) : Cm c.cells c.sgl c.mt c.d0 c.d1 := ⟨rfl, by simp [Cmd.cells, Value.oneCell'], rfl, rfl, rfl, rfl, h.mt, h.d0, h.d1⟩
end Go.Proofs.YtfmabknhfehdcaaGreat
namespace Go.Proofs.YtfmabknhfehdcaaGreat
set_option linter.unusedSimpArgs false
set_option linter.unusedVariables false
open Go.RowKit
/-- the memory's blocks, the arrays' -/
def Bk (b B : Nat) (S : List (Nat × Array Value)) (j : Nat) : Prop := j = b ∨ j = B ∨ ∃ x ∈ S, x.1 = j
theorem Bk.two {b B j : Nat} {S : List (Nat × Array Value)} (h : Two b B j) : Bk b B S j := h.elim Or.inl fun h => .inr (.inl h)
/-- A memory, its specification's, arrays that lie whole. -/
structure UMk (w : World) (b B sz : Nat) (F : Nat → Int) (MC : Array Value) (G : Nat → Int) (S : List (Nat × Array Value)) (W : World) (K : Nat := 900) : Prop where
 below : Below w.heap.size w W
 mem : ∃ L, L.length ≤ 1000 ∧ MemAt W b B sz F L
 ref : ∃ L, L.length ≤ K ∧ RefAt (Bk b B S) W (.agg MC) sz G L
 bl : w.heap.size ≤ b
 Bl : w.heap.size ≤ B
 arr : ∀ x ∈ S, ArrAt W x.1 x.2 ∧ x.1 ≠ b ∧ x.1 ≠ B ∧ w.heap.size ≤ x.1
namespace UMk
set_option linter.unusedSimpArgs false
set_option linter.unusedVariables false
variable {w W W' : World} {b B sz : Nat} {F F' G G' : Nat → Int} {MC MC' : Array Value} {S : List (Nat × Array Value)} {K : Nat}
theorem bk (h : UMk w b B sz F MC G S W K) {j : Nat} (e : Bk b B S j) : w.heap.size ≤ j := by
 rcases e with rfl | rfl | ⟨x, hx, rfl⟩
 ·exact h.bl
 ·exact h.Bl
 ·exact (h.arr x hx).2.2.2
theorem go (h : UMk w b B sz F MC G S W K) (hb : Below W.heap.size W W') : UMk w b B sz F MC G S W' K := by
 obtain ⟨L, h1, h2⟩ := h.mem
 obtain ⟨L2, h3, h4⟩ := h.ref
 exact ⟨h.below.trans (hb.mono h.below.size), ⟨L, h1, h2.below hb⟩, ⟨L2, h3, h4.below hb⟩, h.bl, h.Bl, fun x hx => ⟨(h.arr x hx).1.below hb, (h.arr x hx).2⟩⟩
theorem two (h : UMk w b B sz F MC G S W K) {T : Nat → Prop} (k : Keeps T W W') (hT : ∀ j, T j → w.heap.size ≤ j) : Below w.heap.size w W' := h.below.trans (k.below h.below.size (fun j hj e => by have := hT j e; omega))
theorem put (h : UMk w b B sz F MC G S W K) (k : Keeps (Two b B) W W') (hm : ∃ L, L.length ≤ 1000 ∧ MemAt W' b B sz F' L) : UMk w b B sz F' MC G S W' K := by
 obtain ⟨L2, h3, h4⟩ := h.ref
 exact ⟨h.two k (fun j e => by have := h.bl; have := h.Bl; rcases e with e | e <;> omega), hm, ⟨L2, h3, h4.kept k (fun _ e => Bk.two e)⟩, h.bl, h.Bl, fun x hx => ⟨(h.arr x hx).1.kept k (fun e => by have := (h.arr x hx).2; rcases e with e | e <;> omega), (h.arr x hx).2⟩⟩
theorem mlt (h : UMk w b B sz F MC G S W K) : b < W.heap.size ∧ B < W.heap.size := by
 obtain ⟨L, -, hm⟩ := h.mem
 exact ⟨hm.lt, hm.lt'⟩
/-- A new array. -/
theorem var (h : UMk w b B sz F MC G S W K) (T : TypeId) {Z A : Array Value} (hz : 0 < Z.size) (hA : A.size = Z.size) (hW : W' = (W.alloc (.cells Z T)).setCells W.heap.size 0 A.toList) : UMk w b B sz F MC G ((W.heap.size, A) :: S) W' K := by
 obtain ⟨hb, ha⟩ := stored_at hz hA hW
 have hm := h.mlt
 have h' := h.go hb
 obtain ⟨L2, h3, h4⟩ := h.ref
 refine ⟨h'.below, h'.mem, ⟨L2, h3, ?_⟩, h.bl, h.Bl, fun x hx => ?_⟩
 ·refine (h4.more (T := Bk b B ((W.heap.size, A) :: S)) fun j hj e => ?_).below hb
  rcases e with e | e | ⟨x, hx, e⟩
  ·exact .inl e
  ·exact .inr (.inl e)
  ·rcases List.mem_cons.1 hx with rfl | hx
   ·simp only at e; omega
   ·exact .inr (.inr ⟨x, hx, e⟩)
 ·rcases List.mem_cons.1 hx with rfl | hx
  ·exact ⟨ha, by simp only []; omega, by simp only []; omega, h.below.size⟩
  ·exact h'.arr x hx
/-- An array laid over. -/
theorem over (h : UMk w b B sz F MC G S W K) {g : Nat} {A A' : Array Value} (hm : (g, A) ∈ S) (hs : A'.size = A.size) (S' : List (Nat × Array Value)) (hS : ∀ x ∈ S', x = (g, A') ∨ (x ∈ S ∧ x.1 ≠ g)) (hW : W' = W.setCells g 0 A'.toList)
  {K' : Nat} (hr : ∃ L, L.length ≤ K' ∧ RefAt (Bk b B S) W (.agg MC') sz G' L) : UMk w b B sz F MC' G' S' W' K' := by
 obtain ⟨h1, h2, h3, h4⟩ := h.arr _ hm
 subst hW
 have k : Keeps (One g) W (W.setCells g 0 A'.toList) := Keeps.store (S := One g) (Keeps.refl _ _) (fun _ => rfl) _ _
 obtain ⟨L, hl, hM⟩ := h.mem
 obtain ⟨L2, hl2, hr⟩ := hr
 have hg : Bk b B S g := .inr (.inr ⟨_, hm, rfl⟩)
 refine ⟨h.two k (fun j e => by have e : j = g := e; rw [e]; exact h4), ⟨L, hl, hM.kept k (fun e => h2 (Eq.symm e)) (fun e => h3 (Eq.symm e))⟩, ⟨L2, hl2, (hr.kept k fun j e => by have e : j = g := e; rw [e]; exact hg).more fun j _ e => ?_⟩, h.bl, h.Bl, fun x hx => ?_⟩
 ·rcases e with e | e | ⟨x, hx, e⟩
  ·exact .inl e
  ·exact .inr (.inl e)
  ·rcases hS x hx with rfl | ⟨hx1, hx2⟩
   ·rw [← e]; exact hg
   ·exact .inr (.inr ⟨x, hx1, e⟩)
 rcases hS x hx with rfl | ⟨hx1, hx2⟩
 ·exact ⟨h1.store A' hs, h2, h3, h4⟩
 ·have := h.arr x hx1
  exact ⟨this.1.kept k (fun e => hx2 e), this.2⟩
/-- The data's bytes lie elsewhere. -/
theorem src (h : UMk w b B sz F MC G S W K) {ao : Option Addr} {n : Nat} {z : Nat → Int} (hz : BAt w ao n z) (hn : n ≤ 4611686018427387904) : Src (Bk b B S) W ao n z := by
 refine ⟨hn, fun h0 => ?_⟩
 obtain ⟨g, o, e, hc0⟩ := hz 0 h0
 refine ⟨g, o, e, fun ht => ?_, fun i hi => ?_⟩
 ·have h1 : g < w.heap.size := World.block_lt_of_cell? _ _ hc0
  have h2 := h.bk ht
  omega
 ·obtain ⟨g', o', e', hc'⟩ := hz i hi
  rw [e] at e'
  injection e' with e'
  injection e' with e1 e2
  subst e1 e2
  exact (h.below.cell (p := ⟨g, o + i, none⟩) (World.block_lt_of_cell? _ _ hc')).trans hc'
end UMk
/-- what GatherMeta's bytes are as a string -/
def gmS (c n : Int) (g : Nat → Int) : ByteArray := if c = 0 ∧ 0 < n then strOf n.toNat g else ByteArray.empty
theorem conv_none (w : World) (l c : Nat) : (convert 31 9 (.slice none l c)).run Tryz.prog w = .ok (.string ByteArray.empty) w := by
 rw [run_convert_bytes_string w 31 9 5 none l c Tryz.underlying31 Tryz.underlying5 Tryz.underlying9]
 rfl
theorem TgmPost.form {w w' : World} {c n : Int} {g : Nat → Int} {e : Ending} (h : TgmPost w c n g e w') (hn : c = 0 → 0 ≤ n) : ∃ x m k, e = .returned (.tuple #[.slice x m k, .agg (stC c)]) ∧ Below w.heap.size w w' ∧ ∀ W, Below w'.heap.size w' W → (convert 31 9 (.slice x m k)).run Tryz.prog W = .ok (.string (gmS c n g)) W := by
 obtain ⟨h1, h2⟩ := h
 unfold stC gmS
 by_cases hc : c = 0
 ·rw [if_neg (fun e => e hc)] at h2
  by_cases hz : n = 0
  ·rw [if_pos hz] at h2
   refine ⟨none, 0, 0, by rw [h2, if_pos hc], h1, fun W _ => ?_⟩
   rw [if_neg (fun e => by omega)]
   exact conv_none W 0 0
  ·rw [if_neg hz] at h2
   obtain ⟨v, he, hv⟩ := h2
   have hv' := hv
   obtain ⟨ng, nc, nF, hvv, -⟩ := hv'
   subst hvv
   refine ⟨_, _, _, by rw [he, if_pos hc], h1, fun W hb => ?_⟩
   rw [newBytes_str (hv.kept (Keeps.of_below (S := fun _ => False) hb) (fun _ _ e => e)), if_pos ⟨hc, by have := hn hc; omega⟩]
 ·rw [if_pos hc] at h2
  refine ⟨none, 0, 0, by rw [h2, if_neg hc], h1, fun W _ => ?_⟩
  rw [if_neg (fun e => hc e.1)]
  exact conv_none W 0 0
/-- the memory behind ScatterMeta -/
def smF (c : Int) (f : Nat → Int) (a : Nat) (n : Nat) (g : Nat → Int) : Nat → Int := if c = 0 then upd f a n g else f
section
variable {w : World} {b B sz : Nat} {F : Nat → Int} {MC : Array Value} {G : Nat → Int} {S : List (Nat × Array Value)} {x : World} (h : UMk w b B sz F MC G S x) (hs : 0 < sz) {C : Array Value} {sgl : Bool} {mt d0 d1 : Int} (hC : Cm C sgl mt d0 d1)
include h hs hC
end
end Go.Proofs.YtfmabknhfehdcaaGreat
