/- transfer: Prepare, of a scatter gather list. -/
import Derived.Test.YtfmabknhfehdcaaGreatZP33
import Derived.Test.YtfmabknhfehdcaaGreatZP32
import Derived.Test.YtfmabknhfehdcaaGreatZP21
import Derived.Test.YtfmabknhfehdcaaGreatZP29
namespace Go.Proofs.YtfmabknhfehdcaaGreat
set_option linter.unusedSimpArgs false
set_option linter.unusedVariables false
open Go.RowKit
theorem wpList_storeN {P : Program} {ops : Array Oper} {Q : Exit → Act → World → Prop} {a : Act} {w : World} {rest : List Oper} {op : Oper} (hgd : op.guard = none) (ty : TypeId) (x y : Operand) (ho : op.op = .store ty x y) (hd : op.dst = none)
  (b o : Nat) (cells : Array Value) (hx : a.eval x = .pointer (some ⟨b, o, none⟩)) (hy : a.eval y = .agg cells)
  (ht : w.there b o cells.size) (hi : (P.info? ty).map (·.size) = some cells.size) (h1 : cells.all (·.oneCell') = true)
  (h : wpList P ops Q rest a (w.setCells b o cells.toList)) : wpList P ops Q (op :: rest) a w :=
 wpList_plain hgd fun K hK => wp_storeN ty x y ho hd b o cells hx hy ht hi h1 (hK _ _ h)
theorem size2u : (Tryz.prog.info? 25).map (·.size) = some 2 := by kernel_rfl
set_option maxRecDepth 100000 in
set_option maxHeartbeats 8000000 in
theorem prep_s {C : Array Value} {mt d0 d1 : Int} (b B size : Nat) (f : Nat → Int) (L : List (Nat × Nat)) (la pa : Option Addr) (nl lc np pc : Nat) (l p : Nat → Int) (o N : Int) (T : Nat → Prop) (Post : Dsc → Int → World → World → Prop) (w : World) (hC : Cm C true mt d0 d1) (hM : MemAt w b B size f L) (hs : 0 < size)
  (hl : UAt w la nl l) (hp : UAt w pa np p) (hup : U64 np p) (hA : TArg np p o N) (hnl : np ≤ 1 ∨ nl ≠ 0)
  (hB : ∀ W v base, Below w.heap.size w W → w.heap.size ≤ base → W.ownsRow base 72 4 v (blkF p o N np).length (dC (blkF p o N np)) → Calls Tryz.prog 22 #[.pointer (some ⟨b, 0, none⟩), .int .u64 (if nl = 0 then 0 else l 0), v] W fun e w' => ∃ d r, e = .returned (.tuple #[.agg d.cells, .int .i64 r]) ∧ Keeps T W w' ∧ Post d r W w' ∧ (r = 0 → d.Ok ∧ Vld d))
  (hT : ∀ j, T j → j < w.heap.size) (hPk : ∀ d r W a c, Post d r W a → Keeps (fun j => w.heap.size ≤ j) a c → Post d r W c) :
  Calls Tryz.prog 6 #[.pointer (some ⟨b, 0, none⟩), .agg C, .slice la nl lc, .slice pa np pc, .int .i64 o, .int .i64 N] w fun e w' => ∃ d r W, Below w.heap.size w W ∧ Post d r W w' ∧ Keeps T w w' ∧ e = .returned (.tuple #[.agg (if r = 0 then cmD C d.a (word1 d) else zCm), .int .i64 r]) := by
 have hk0 := pgs_le o N
 have HNP := Lib.hid (show np ≤ 258 by have := hA.k; omega)
 have HB := Lib.hid hB
 have HPK := Lib.hid hPk
 have HT := Lib.hid hT
 have HM := Lib.hid hM
 have HC := Lib.hid hC
 have HL := Lib.hid hl
 have HP := Lib.hid hp
 have HUP := Lib.hid hup
 have HA := Lib.hid hA
 obtain ⟨sz, hsz⟩ : ∃ z : Int, z = size := ⟨_, rfl⟩
 have dz : (sz == 0) = false := beq_eq_false_iff_ne.2 (by omega)
 have HSZ := Lib.hid hsz
 have HCZ := Lib.hid (show (Tryz.prog.info? 28).map (·.size) = some C.size by rw [hC.z]; exact sizeCm)
 have HZ := Lib.hid zeroCm
 have HBZ := Lib.hid build_cm0
 have HZZ := Lib.hid (show (Tryz.prog.info? 28).map (·.size) = some zCm.size from sizeCm)
 have HZ1 := Lib.hid (show zCm.all (·.oneCell') = true by simp [zCm, Value.oneCell'])
 have HZ0 := Lib.hid (show zCm.size = 16 from rfl)
 obtain ⟨at', hat⟩ : ∃ z : Int, z = if nl = 0 then 0 else l 0 := ⟨_, rfl⟩
 rw [← hat] at HB
 have HAT := Lib.hid hat
 have hq : ((decide ((1 : Int) < (np : Int)) = true ∧ decide (1 < np) = true) ∧ ((nl : Int) == 0) = false ∧ (nl == 0) = false) ∨ (decide ((1 : Int) < (np : Int)) = false ∧ decide (1 < np) = false) := by
  rcases Nat.lt_or_ge 1 np with h | h
  ·exact .inl ⟨⟨decide_eq_true (by omega), decide_eq_true h⟩, beq_eq_false_iff_ne.2 (by omega), beq_eq_false_iff_ne.2 (by omega)⟩
  ·exact .inr ⟨decide_eq_false (by omega), decide_eq_false (by omega)⟩
 clear hB hPk hT hM hC hsz hl hp hup hA hat hnl hk0
 obtain ⟨Z, hZ⟩ : ∃ Z, Z = zCm := ⟨_, rfl⟩
 rw [← hZ] at HZ HBZ HZZ HZ1 HZ0 ⊢
 clear hZ
 go_enter Tryz.func6, Tryz.ntmps6
 go_upto_region 1 with ((with_reducible show wpList _ _ _ (⟨some 12, _, _, _, _, _⟩ :: _) _ _); refine wpList_alloc rfl 28 rfl HZ.out ?_; rw [show (Value.agg Z).cells = Z from rfl])
 obtain ⟨W0, hW0⟩ : ∃ W0, W0 = (w.alloc (.cells C 28)).alloc (.cells Z 28) := ⟨_, rfl⟩
 rw [← hW0]
 have AC := Lib.hid (show ArrAt W0 w.heap.size C by rw [hW0]; exact (ArrAt.fresh w C _ (by rw [HC.out.z]; decide)).alloc _)
 have AZ := Lib.hid (show ArrAt W0 (w.heap.size + 1) Z by rw [hW0]; simpa using ArrAt.fresh (w.alloc (.cells C 28)) Z 28 (by rw [HZ0.out]; decide))
 have B0 := Lib.hid (show Below w.heap.size w W0 by rw [hW0]; exact ((Below.refl _ _).alloc (Nat.le_refl _) _).alloc (by simp) _)
 have HS0 := Lib.hid (show W0.heap.size = w.heap.size + 2 by rw [hW0]; simp)
 clear hW0
 have c2 := AC.out.cell HC.out.g2
 have HV := Lib.hid (tvalid_any pa np pc p o N true W0 (HP.out.below B0.out) HUP.out (by have := HNP.out; omega) (by have := HA.out.o0; omega) (by have := HA.out.o1; omega) (by have := HA.out.n0; omega) (by have := HA.out.n1; omega) ⟨fun _ => HA.out, fun _ => rfl⟩)
 rcases hq with ⟨⟨q1, q2⟩, q3, q4⟩ | ⟨q1, q2⟩
 all_goals
  go_upto_region 3 with (first
   | (go_at_call 19; refine (size_is b B size f L sz _ (HM.out.below B0.out) HSZ.out).mono ?_; rintro e w' ⟨rfl, rfl⟩)
   | (go_at_call 21; refine HV.out.mono ?_; rintro e w' ⟨rfl, rfl⟩)
   | ((with_reducible show wpList _ _ _ (⟨some 15, _, _, _, _, _⟩ :: _) _ _); refine wpList_alloc rfl 72 rfl zeroD ?_; rw [show (Value.agg zDsc.cells).cells = zDsc.cells from rfl]))
  obtain ⟨W1, hW1⟩ : ∃ z, z = W0.alloc (.cells zDsc.cells 72) := ⟨_, rfl⟩
  rw [← hW1]
  have hb1 : Below W0.heap.size W0 W1 := by rw [hW1]; exact (Below.refl _ _).alloc (Nat.le_refl _) _
  have AC1 := Lib.hid (AC.out.below hb1)
  have AZ1 := Lib.hid (AZ.out.below hb1)
  have AD1 := Lib.hid (show ArrAt W1 (w.heap.size + 2) zDsc.cells by rw [hW1, ← HS0.out]; exact ArrAt.fresh W0 zDsc.cells _ (by decide))
  have B1 := Lib.hid (B0.out.trans (hb1.mono B0.out.size))
  rw [HS0.out]
  clear hW1 hb1 HV c2 AC AZ B0 HS0
  have HFI := Lib.hid (first_any la nl lc l at' W1 (HL.out.below B1.out) HAT.out)
  have HBK := Lib.hid (blocks_any pa np pc p o N W1 (HP.out.below B1.out) HUP.out HA.out)
  go_upto_region 4 with (first
   | (go_at_call 23; refine HFI.out.mono ?_; rintro e w' ⟨rfl, rfl⟩)
   | (go_at_call 24; refine HBK.out.mono ?_; rintro e w2 ⟨v, rfl, hown, hb⟩; have O2 := Lib.hid hown; have AC2 := Lib.hid (AC1.out.below hb); have AZ2 := Lib.hid (AZ1.out.below hb); have AD2 := Lib.hid (AD1.out.below hb); have B2 := Lib.hid (B1.out.trans (hb.mono B1.out.size)); clear hown hb)
   | (go_at_call 22; refine (HB.out w2 v _ B2.out B1.out.size O2.out).mono ?_; rintro e w3 ⟨d, r, rfl, hk, hp, hd⟩; have K3 := Lib.hid hk; have P3 := Lib.hid hp; have HD3 := Lib.hid hd; have AC3 := Lib.hid (AC2.out.kept hk (fun e => by have := HT.out _ e; omega)); have AZ3 := Lib.hid (AZ2.out.kept hk (fun e => by have := HT.out _ e; omega)); have AD3 := Lib.hid (AD2.out.kept hk (fun e => by have := HT.out _ e; omega)); obtain ⟨DD, hDD⟩ : ∃ DD : Array Value, DD = d.cells := ⟨_, rfl⟩; have HDS := Lib.hid (show DD.size = 4 by rw [hDD]; rfl); have HDO := Lib.hid (show DD.all (·.oneCell') = true by rw [hDD]; exact Dsc.one d); have HDD := Lib.hid hDD; rw [← hDD]; clear hk hp hd hDD)
   | ((with_reducible show wpList _ _ _ (⟨none, .store _ _ _, _, _, _, _⟩ :: _) _ _); refine wpList_storeA rfl (b := w.heap.size + 2) (A := zDsc.cells) (A' := DD) AD3.out 72 (.tmp 15) (.tmp 25) rfl (by simp [Act.eval, Act.put]) (by simp [Act.eval, Act.put]) (sizeDs _) (by rw [HDS.out]; rfl) HDO.out ?_))
  obtain ⟨W4, hW4⟩ : ∃ z, z = w3.setCells (w.heap.size + 2) 0 DD.toList := ⟨_, rfl⟩
  rw [← hW4]
  have k4 : Keeps (One (w.heap.size + 2)) w3 W4 := by rw [hW4]; exact Keeps.store (S := One (w.heap.size + 2)) (Keeps.refl _ _) (fun _ => rfl) _ _
  have AC4 := Lib.hid (AC3.out.kept k4 (fun e => by have e : w.heap.size = w.heap.size + 2 := e; omega))
  have AZ4 := Lib.hid (AZ3.out.kept k4 (fun e => by have e : w.heap.size + 1 = w.heap.size + 2 := e; omega))
  have AD4 := Lib.hid (show ArrAt W4 (w.heap.size + 2) DD by rw [hW4]; exact AD3.out.store DD (by rw [HDS.out]; rfl))
  have K4 := Lib.hid (show Keeps (fun j => w.heap.size ≤ j) w3 W4 from k4.mono (fun j _ e => by have e : j = w.heap.size + 2 := e; omega))
  have HDZ := Lib.hid (show (Tryz.prog.info? 72).map (·.size) = some DD.size by rw [HDS.out]; exact sizeD)
  clear hW4 k4 AD3 AC3 AZ3 AC2 AZ2 AD2 AC1 AZ1 AD1
  have HK := Lib.hid (show ∀ (W : World), Keeps (fun j => w.heap.size ≤ j) W4 W → Keeps T w W ∧ Post d r w2 W from fun W k => by
   have k5 := K4.out.trans k
   refine ⟨?_, HPK.out _ _ _ _ _ P3.out k5⟩
   have k6 : Keeps (fun j => T j ∨ w.heap.size ≤ j) w W := ((Keeps.of_below B2.out).trans (K3.out.mono fun _ _ e => Or.inl e)).trans (k5.mono fun _ _ e => Or.inr e)
   exact ⟨k6.os, k6.tape, k6.output, k6.size, fun k hk hS => k6.block k hk (fun e => e.elim hS (fun e => by omega))⟩)
  have hws : w.heap.size + 2 < W4.heap.size := AD4.out.lt
  by_cases hr : r = 0
  ·have q : (r == 0) = true := by simp [hr]
   have HR := Lib.hid hr
   obtain ⟨hok, hv⟩ := HD3.out hr
   have HE := Lib.hid (encode_ok d W4 hok hv)
   rw [← HDD.out] at HE
   obtain ⟨x, hx⟩ : ∃ z, z = d.a := ⟨_, rfl⟩
   obtain ⟨y, hy⟩ : ∃ z, z = word1 d := ⟨_, rfl⟩
   rw [← hx, ← hy] at HE
   have HX := Lib.hid hx
   have HY := Lib.hid hy
   clear hr hok hv hx hy
   go_upto_region 14 with (first
    | ((with_reducible show wpList _ _ _ (⟨some 30, _, _, _, _, _⟩ :: _) _ _); refine wpList_loadA rfl AD4.out 72 (.tmp 15) rfl (by first | rfl | simp [Act.eval, Act.put]) Tryz.underlying72 rfl HDZ.out ?_)
    | (go_at_call 25; refine HE.out.mono ?_; rintro e w5 ⟨rfl, hb⟩; have B5 := Lib.hid hb; have AC5 := Lib.hid (AC4.out.below hb); have AZ5 := Lib.hid (AZ4.out.below hb); clear hb)
    | ((with_reducible show wpList _ _ _ (⟨none, .store _ _ _, _, _, _, _⟩ :: _) _ _); refine wpList_storeN rfl 25 (.tmp 34) (.tmp 32) rfl rfl w.heap.size 8 #[.int .u64 x, .int .u64 y] (by simp [Act.eval, Act.put]) (by simp [Act.eval, Act.put]) (fun j hj => by have h := AC5.out.th (8 + j) (by rw [HC.out.z]; simp at hj; omega); simpa using h) size2u (by simp [Value.oneCell']) ?_))
   obtain ⟨W6, hW6⟩ : ∃ z, z = w5.setCells w.heap.size 8 (#[Value.int .u64 x, .int .u64 y] : Array Value).toList := ⟨_, rfl⟩
   rw [← hW6]
   have hW6' : W6 = (w5.setCell ⟨w.heap.size, 8, none⟩ (.int .u64 x)).setCell ⟨w.heap.size, 9, none⟩ (.int .u64 y) := hW6
   have k6 : Keeps (One w.heap.size) w5 W6 := by rw [hW6']; exact ((Keeps.refl (One w.heap.size) w5).setCell (p := ⟨w.heap.size, 8, none⟩) (fun _ => rfl) _).setCell (p := ⟨w.heap.size, 9, none⟩) (fun _ => rfl) _
   have AC6 := Lib.hid (show ArrAt W6 w.heap.size (cmD C x y) by
    rw [hW6']
    exact (AC5.out.set 8 (.int .u64 x) (by rw [HC.out.z]; omega)).set 9 (.int .u64 y) (by rw [Array.size_setIfInBounds, HC.out.z]; omega))
   have AZ6 := Lib.hid (AZ5.out.kept k6 (fun e => by have e : w.heap.size + 1 = w.heap.size := e; omega))
   have K6 := Lib.hid (show Keeps (fun j => w.heap.size ≤ j) W4 W6 from (Keeps.of_below B5.out).trans (k6.mono (fun j _ e => Nat.le_of_eq (Eq.symm e))))
   have HDC := Lib.hid (show (Tryz.prog.info? 28).map (·.size) = some (cmD C x y).size by rw [show (cmD C x y).size = C.size by simp [cmD]]; exact HCZ.out)
   have HD1 := Lib.hid (show (cmD C x y).all (·.oneCell') = true from all_set (all_set HC.out.o 8 _ rfl) 9 _ rfl)
   have HD16 := Lib.hid (show (cmD C x y).size = 16 by rw [show (cmD C x y).size = C.size by simp [cmD]]; exact HC.out.z)
   obtain ⟨D, hD⟩ : ∃ D, D = cmD C x y := ⟨_, rfl⟩
   rw [← hD] at AC6 HDC HD1 HD16
   have HDE := Lib.hid hD
   clear hD hW6 hW6' k6 AC5 AZ5
   go_wp2_with (first
    | ((with_reducible show wpList _ _ _ (⟨some 77, _, _, _, _, _⟩ :: _) _ _); refine wpList_loadA rfl AC6.out 28 (.tmp 7) rfl (by first | rfl | simp [Act.eval, Act.put]) Tryz.underlying28 rfl HDC.out ?_)
    | ((with_reducible show wpList _ _ _ (⟨none, .store _ _ _, _, _, _, _⟩ :: _) _ _); refine wpList_storeA rfl (b := w.heap.size + 1) (A := Z) (A' := D) AZ6.out 28 (.tmp 12) (.tmp 77) rfl (by simp [Act.eval, Act.put]) (by simp [Act.eval, Act.put]) HZZ.out (by rw [HD16.out, HZ0.out]) HD1.out ?_))
   obtain ⟨h1, h2⟩ := HK.out _ (K6.out.trans (Keeps.store (S := fun j => w.heap.size ≤ j) (Keeps.refl _ _) (b := w.heap.size + 1) (fun _ => by show w.heap.size ≤ _; omega) D.toList 0))
   have hs := AZ6.out.store D (by rw [HD16.out, HZ0.out])
   refine bodyPost_ret (v := .tuple #[.agg D, .int .i64 0]) (results_cm2 Tryz.results6 hs HDC.out rfl rfl) rfl ⟨d, r, w2, B2.out, h2, h1, by rw [if_pos HR.out, HDE.out, HX.out, HY.out, HR.out]⟩
  ·have q : (r == 0) = false := by simp [hr]
   have q' : (r != 0) = true := by simp [hr]
   have HR := Lib.hid hr
   clear hr
   go_wp2_with (first
    | ((with_reducible show wpList _ _ _ (⟨some 75, _, _, _, _, _⟩ :: _) _ _); refine wpList_build0 rfl 28 rfl (HBZ.out _) ?_)
    | ((with_reducible show wpList _ _ _ (⟨none, .store _ _ _, _, _, _, _⟩ :: _) _ _); refine wpList_storeA rfl (b := w.heap.size + 1) (A := Z) (A' := Z) AZ4.out 28 (.tmp 12) (.tmp 75) rfl (by simp [Act.eval, Act.put]) (by simp [Act.eval, Act.put]) HZZ.out rfl HZ1.out ?_))
   obtain ⟨h1, h2⟩ := HK.out _ (Keeps.store (S := fun j => w.heap.size ≤ j) (Keeps.refl _ _) (b := w.heap.size + 1) (fun _ => by show w.heap.size ≤ _; omega) Z.toList 0)
   have hs := AZ4.out.store Z rfl
   refine bodyPost_ret (v := .tuple #[.agg Z, .int .i64 r]) (results_cm2 Tryz.results6 hs HZZ.out rfl rfl) rfl ⟨d, r, w2, B2.out, h2, h1, by rw [if_neg HR.out]⟩
end Go.Proofs.YtfmabknhfehdcaaGreat
namespace Go.Proofs.YtfmabknhfehdcaaGreat
set_option linter.unusedSimpArgs false
set_option linter.unusedVariables false
open Go.RowKit
/-- a plain command; a command with a list -/
def cC (x y : Int) : Array Value := #[.int .u8 0, .int .u8 0, .bool false, .int .u16 0, .int .u32 0, .int .u32 0, .int .u32 0, .int .u64 0, .int .u64 x, .int .u64 y, .int .u32 0, .int .u32 0, .int .u32 0, .int .u32 0, .int .u32 0, .int .u32 0]
def cD (m x y : Int) : Array Value := #[.int .u8 0, .int .u8 0, .bool true, .int .u16 0, .int .u32 0, .int .u32 0, .int .u32 0, .int .u64 m, .int .u64 x, .int .u64 y, .int .u32 0, .int .u32 0, .int .u32 0, .int .u32 0, .int .u32 0, .int .u32 0]
theorem cC_cm (x y : Int) (hx : 0 ≤ x ∧ x ≤ 18446744073709551615) (hy : 0 ≤ y ∧ y ≤ 18446744073709551615) : Cm (cC x y) false 0 x y := ⟨rfl, by simp [cC, Value.oneCell'], rfl, rfl, rfl, rfl, by omega, hx, hy⟩
theorem cD_cm (m x y : Int) (hm : 0 ≤ m ∧ m ≤ 18446744073709551615) (hx : 0 ≤ x ∧ x ≤ 18446744073709551615) (hy : 0 ≤ y ∧ y ≤ 18446744073709551615) : Cm (cD m x y) true m x y := ⟨rfl, by simp [cD, Value.oneCell'], rfl, rfl, rfl, rfl, hm, hx, hy⟩
theorem build2W (x y : Int) (w : World) : (Instr.build 25 #[(0, .int .u64 x), (1, .int .u64 y)]).run Tryz.prog w = .ok (.agg #[.int .u64 x, .int .u64 y]) w := by kernel_rfl
theorem buildCC (x y : Int) (w : World) : (Instr.build 28 #[(8, .agg #[.int .u64 x, .int .u64 y])]).run Tryz.prog w = .ok (.agg (cC x y)) w := by kernel_rfl
theorem buildCD (x y : Int) (w : World) : (Instr.build 28 #[(2, .bool true), (8, .agg #[.int .u64 x, .int .u64 y])]).run Tryz.prog w = .ok (.agg (cD 0 x y)) w := by kernel_rfl
/-- bytes by their number -/
def gB (L : List Int) (i : Nat) : Int := L.getD i 0
def wl6 : List Int := [97, 98, 99, 100, 101, 102]
def wl5 : List Int := [104, 101, 108, 108, 111]
def wF1 : Nat → Int := scatF (gB wl6) [⟨4092, 4, false⟩, ⟨8192, 2, false⟩] 0 (fun _ => 0)
def wF2 : Nat → Int := scatF (gB wl5) [⟨100, 5, false⟩] 0 wF1
theorem bytes_gB (L : List Int) (h : ∀ x ∈ L, 0 ≤ x ∧ x ≤ 255) : Bytes (gB L) := fun i => by
 unfold gB
 by_cases hi : i < L.length
 ·simp only [List.getD_eq_getElem?_getD, List.getElem?_eq_getElem hi, Option.getD_some]
  exact h _ (List.getElem_mem hi)
 ·simp only [List.getD_eq_getElem?_getD, List.getElem?_eq_none (Nat.le_of_not_lt hi), Option.getD_none]
  omega
theorem bytes_wF1 : Bytes wF1 := bytes_scat (bytes_gB _ (by simp [wl6])) _ _ _ bytes0
theorem bytes_wF2 : Bytes wF2 := bytes_scat (bytes_gB _ (by simp [wl5])) _ _ _ bytes_wF1
theorem tw1 (f : Nat → Int) : dataT f 16384 false 4092 8192 6 true = .ok [⟨4092, 4, false⟩, ⟨8192, 2, false⟩] := by rfl
theorem tw2 (f : Nat → Int) : dataT f 16384 false 4092 8192 5 false = .ok [⟨4092, 4, false⟩, ⟨8192, 1, false⟩] := by rfl
theorem tw3 (f : Nat → Int) : dataT f 16384 false 4093 8192 6 true = .error 19 := by rfl
theorem tw4 (f : Nat → Int) : dataT f 16384 false 4092 8193 6 true = .error 19 := by rfl
theorem tw5 (f : Nat → Int) : dataT f 16384 true 100 5 5 true = .ok [⟨100, 5, false⟩] := by rfl
theorem tw6 (f : Nat → Int) : dataT f 16384 true 100 5 6 false = .error 15 := by rfl
theorem tw7 (f : Nat → Int) : dataT f 16384 true 100 72057594037927941 1 false = .error 17 := by rfl
theorem tw8 (f : Nat → Int) : dataT f 16384 true 100 5 3 true = .ok [⟨100, 3, false⟩] := by rfl
theorem tw9 : metaT 16384 6 1 = 2 := by rfl
theorem tw10 : metaT 16384 6 0 = 0 := by rfl
theorem tw11 : gWant wF1 (.ok [⟨4092, 4, false⟩, ⟨8192, 1, false⟩]) = ⟨#[97, 98, 99, 100, 101]⟩ := by rfl
theorem tw12 : strOf 2 (fun i => wF1 (8192 + i)) = ⟨#[101, 102]⟩ := by rfl
/-- What holds while the examples run: nothing older is touched; the memory; arrays that lie whole. -/
structure TWk (w : World) (b B : Nat) (F : Nat → Int) (n : Nat) (S : List (Nat × Array Value)) (W : World) : Prop where
 below : Below w.heap.size w W
 mem : ∃ L, L.length ≤ n ∧ MemAt W b B 16384 F L
 bl : w.heap.size ≤ b
 Bl : w.heap.size ≤ B
 arr : ∀ x ∈ S, ArrAt W x.1 x.2 ∧ x.1 ≠ b ∧ x.1 ≠ B ∧ w.heap.size ≤ x.1
namespace TWk
set_option linter.unusedSimpArgs false
set_option linter.unusedVariables false
variable {w W W' : World} {b B n n' : Nat} {F F' : Nat → Int} {S : List (Nat × Array Value)}
theorem go (h : TWk w b B F n S W) (hb : Below W.heap.size W W') : TWk w b B F n S W' := by
 obtain ⟨L, h1, h2⟩ := h.mem
 exact ⟨h.below.trans (hb.mono h.below.size), ⟨L, h1, h2.below hb⟩, h.bl, h.Bl, fun x hx => ⟨(h.arr x hx).1.below hb, (h.arr x hx).2⟩⟩
theorem two (h : TWk w b B F n S W) {T : Nat → Prop} (k : Keeps T W W') (hT : ∀ j, T j → w.heap.size ≤ j) : Below w.heap.size w W' := h.below.trans (k.below h.below.size (fun j hj e => by have := hT j e; omega))
theorem put (h : TWk w b B F n S W) (k : Keeps (Two b B) W W') (hm : ∃ L, L.length ≤ n' ∧ MemAt W' b B 16384 F' L) : TWk w b B F' n' S W' :=
 ⟨h.two k (fun j e => by have := h.bl; have := h.Bl; rcases e with e | e <;> omega), hm, h.bl, h.Bl, fun x hx => ⟨(h.arr x hx).1.kept k (fun e => by have := (h.arr x hx).2; rcases e with e | e <;> omega), (h.arr x hx).2⟩⟩
theorem add (h : TWk w b B F n S W) {g : Nat} {A : Array Value} (ha : ArrAt W g A) (h1 : w.heap.size ≤ g) (h2 : g ≠ b) (h3 : g ≠ B) : TWk w b B F n ((g, A) :: S) W :=
 ⟨h.below, h.mem, h.bl, h.Bl, fun x hx => by
  rcases List.mem_cons.1 hx with rfl | hx
  ·exact ⟨ha, h2, h3, h1⟩
  ·exact h.arr x hx⟩
/-- A new array. -/
theorem var (h : TWk w b B F n S W) (T : TypeId) {Z A : Array Value} (hz : 0 < Z.size) (hA : A.size = Z.size) (hW : W' = (W.alloc (.cells Z T)).setCells W.heap.size 0 A.toList) : TWk w b B F n ((W.heap.size, A) :: S) W' := by
 obtain ⟨hb, ha⟩ := stored_at hz hA hW
 obtain ⟨L, -, hm⟩ := h.mem
 exact (h.go hb).add ha h.below.size (fun e => by have := hm.lt; omega) (fun e => by have := hm.lt'; omega)
/-- One cell of an array turned. -/
theorem cell (h : TWk w b B F n S W) {g i : Nat} {A : Array Value} (hm : (g, A) ∈ S) (v : Value) (hi : i < A.size) (hd : ∀ x ∈ S, x ≠ (g, A) → x.1 ≠ g) : TWk w b B F n ((g, A.setIfInBounds i v) :: S.filter (fun x => x.1 != g)) (W.setCell ⟨g, i, none⟩ v) := by
 obtain ⟨h1, h2, h3, h4⟩ := h.arr _ hm
 have k : Keeps (One g) W (W.setCell ⟨g, i, none⟩ v) := (Keeps.refl _ _).set1 i v
 obtain ⟨L, hl, hM⟩ := h.mem
 refine ⟨h.two k (fun j e => by have e : j = g := e; rw [e]; exact h4), ⟨L, hl, hM.kept k (fun e => h2 (Eq.symm e)) (fun e => h3 (Eq.symm e))⟩, h.bl, h.Bl, fun x hx => ?_⟩
 rcases List.mem_cons.1 hx with rfl | hx
 ·exact ⟨h1.set i v hi, h2, h3, h4⟩
 ·obtain ⟨hx1, hx2⟩ := List.mem_filter.1 hx
  have := h.arr x hx1
  exact ⟨this.1.kept k (fun e => by have e : x.1 = g := e; simp [e] at hx2), this.2⟩
end TWk
/-- A slice of bytes just made. -/
theorem restNew (b B : Nat) (x : World) (hb : b < x.heap.size) (hB : B < x.heap.size) (l : List Int) (n : Nat) (hn : n = l.length) (hl : l.length ≤ 100) (fr : Nat × Nat) : RestAt (Two b B) (x.alloc (.cells (byV l).toArray 5 fr)) (.slice (some ⟨x.heap.size, 0, none⟩) n n) n (gB l) :=
 .inr ⟨⟨x.heap.size, 0, none⟩, n, rfl, Nat.le_refl _, by omega, by omega, fun _ => ⟨x.heap.size, 0, rfl, fun e => by rcases e with e | e <;> omega, fun i hi => by
  subst hn
  rw [Nat.zero_add, World.cell?_alloc_mark]
  unfold byV gB
  simp [hi]⟩⟩
theorem read_okT {w : World} {b B n : Nat} {F : Nat → Int} {S : List (Nat × Array Value)} {x : World} (h : TWk w b B F n S x) (a k : Nat) (hk : a + k ≤ 16384) :
  Calls Tryz.prog 15 #[.pointer (some ⟨b, 0, none⟩), .int .u64 a, .int .i64 k] x fun e w' => ∃ v, e = .returned (.tuple #[v, .int .i64 0]) ∧ NewBytes x.heap.size w' v k (fun i => F (a + i)) ∧ TWk w b B F n S w' := by
 obtain ⟨L, hL, hM⟩ := h.mem
 exact (read_ok b B 16384 F L a k x hM hk).mono fun e w' ⟨v, h1, h2, h3⟩ => ⟨v, h1, h2, h.go h3⟩
theorem read_w {w : World} {b B n : Nat} {S : List (Nat × Array Value)} {x : World} (h : TWk w b B wF1 n S x) :
  Calls Tryz.prog 15 #[.pointer (some ⟨b, 0, none⟩), .int .u64 8192, .int .i64 2] x fun e w' => ∃ ng nc, e = .returned (.tuple #[.slice (some ⟨ng, 0, none⟩) 2 nc, .int .i64 0]) ∧ (convert 31 9 (.slice (some ⟨ng, 0, none⟩) 2 nc)).run Tryz.prog w' = .ok (.string ⟨#[101, 102]⟩) w' ∧ TWk w b B wF1 n S w' :=
 (read_okT h 8192 2 (by omega)).mono fun e w' ⟨v, h1, h2, h3⟩ => by
  have hs := newBytes_str h2
  obtain ⟨ng, nc, nF, hv, -⟩ := h2
  subst hv
  rw [tw12] at hs
  exact ⟨ng, nc, h1, hs, h3⟩
/-- What Scatter leaves in the examples. -/
def ScEnd (w : World) (b B : Nat) (F : Nat → Int) (n : Nat) (S : List (Nat × Array Value)) (l : List Int) (e : Ending) (w' : World) : Except Int (List Spn) → Prop
 | .error c => e = .returned (.agg (stA c)) ∧ TWk w b B F n S w'
 | .ok s => e = .returned (.agg st0) ∧ TWk w b B (scatF (gB l) s 0 F) (n + s.length) S w'
section
variable {w : World} {b B n : Nat} {F : Nat → Int} {S : List (Nat × Array Value)} {x : World} (h : TWk w b B F n S x) (hF : Bytes F)
include h hF
theorem twSc {C : Array Value} {sgl : Bool} {mt d0 d1 : Int} (hC : Cm C sgl mt d0 d1) (l : List Int) (k : Nat) (hk : k = l.length) (hl : l.length ≤ 100) (hn : n ≤ 500000) (R : Except Int (List Spn)) (hR : dataT F 16384 sgl d0 d1 (k : Nat) true = R) (fr : Nat × Nat) :
  Calls Tryz.prog 13 #[.pointer (some ⟨b, 0, none⟩), .agg C, .slice (some ⟨x.heap.size, 0, none⟩) k k] (x.alloc (.cells (byV l).toArray 5 fr)) fun e w' => ScEnd w b B F n S l e w' R := by
 obtain ⟨L, hL, hM⟩ := h.mem
 have ha : Below x.heap.size x (x.alloc (.cells (byV l).toArray 5 fr)) := (Below.refl _ _).alloc (Nat.le_refl _) _
 have h2 := h.go ha
 refine (trSc hC b B 16384 F L _ (hM.below ha) (by omega) hF (some ⟨x.heap.size, 0, none⟩) k k (gB l) (by omega) (restNew b B x hM.lt hM.lt' l k hk hl fr) (by omega)).mono ?_
 rw [hR]
 cases R with
 | error c =>
  rintro e w' ⟨rfl, hb⟩
  exact ⟨rfl, h2.go hb⟩
 | ok s =>
  rintro e w' ⟨rfl, hk2, L2, hl2, hm2⟩
  exact ⟨rfl, h2.put hk2 ⟨L2, by omega, hm2⟩⟩
theorem twScE {C : Array Value} {sgl : Bool} {mt d0 d1 : Int} (hC : Cm C sgl mt d0 d1) (l : List Int) (k : Nat) (hk : k = l.length) (hl : l.length ≤ 100) (hn : n ≤ 500000) (R : Except Int (List Spn)) (hR : dataT F 16384 sgl d0 d1 (k : Nat) true = R) (g : Nat) (y : World) (fr : Nat × Nat) (hg : g = x.heap.size) (hy : y = x.alloc (.cells (byV l).toArray 5 fr)) :
  Calls Tryz.prog 13 #[.pointer (some ⟨b, 0, none⟩), .agg C, .slice (some ⟨g, 0, none⟩) k k] y fun e w' => ScEnd w b B F n S l e w' R := by
 subst hg hy
 exact twSc h hF hC l k hk hl hn R hR fr
theorem twGa {C : Array Value} {sgl : Bool} {mt d0 d1 : Int} (hC : Cm C sgl mt d0 d1) (k : Int) (R : Except Int (List Spn)) (hR : dataT F 16384 sgl d0 d1 k false = R) (hR2 : ∀ c, R = .error c → 1 ≤ c) (s : ByteArray) (hs : gWant F R = s) (c : Int) (hc : gCode R = c) :
  Calls Tryz.prog 14 #[.pointer (some ⟨b, 0, none⟩), .agg C, .int .i64 k, .string s, .int .i64 c] x fun e w' => e = .returned (.bool true) ∧ TWk w b B F n S w' := by
 obtain ⟨L, hL, hM⟩ := h.mem
 subst hs hc
 refine (gath_of _ C k F R x hC.z (fun c e => ⟨hR2 c e, ?_⟩) fun W hb => ?_).mono fun e w' ⟨h1, h2⟩ => ⟨h1, h.go h2⟩
 ·rw [← hR] at e
  exact (dataT_bd e).2
 ·rw [← hR]
  exact trGa hC b B 16384 F L W (hM.below hb) (by omega) hF k
end
theorem arr_owned {w : World} {base g sc : Nat} {x : Spn} (h : w.ownsRow base 65 3 (.slice (some ⟨g, 0, none⟩) 1 sc) 1 (spC [x])) : ArrAt w g x.cells := by
 obtain ⟨g1, o1, e1, hr⟩ := spAt_owns (l := [x]) h 0 (by simp)
 cases e1
 refine ⟨by rw [Nat.zero_add, Nat.zero_mul] at hr; exact hr, ?_, by show 0 < 3; omega⟩
 obtain ⟨-, ⟨e, -⟩ | ⟨g', cap, cur, e, hb, hg, hc, hm, hs, hx⟩⟩ := h
 ·cases e
 ·cases e
  have hrow : w.rowIs g 65 (sc * 3) (fun i => cur[i]?.getD undef) := ⟨cur, hg, hs, fun i hi => by
   rw [← hs] at hi
   show cur[i]? = some (cur[i]?.getD undef)
   rw [Array.getElem?_eq_getElem hi]; rfl⟩
  exact rowIs_there hrow 0 3 (by omega)
def spA : Array Value := #[.int .u64 100, .int .i64 3, .bool false]
theorem spA_at {w : World} {g : Nat} (h : ArrAt w g spA) : SpAt w (some ⟨g, 0, none⟩) [⟨100, 3, false⟩] := fun i hi => by
 have hi : i = 0 := by simpa using hi
 subst hi
 exact ⟨g, 0, rfl, by rw [Nat.zero_add, Nat.zero_mul]; exact h.rng⟩
theorem sp_w {w : World} {b B n : Nat} {F : Nat → Int} {S : List (Nat × Array Value)} {x : World} (h : TWk w b B F n S x) (hF : Bytes F) :
  Calls Tryz.prog 16 #[.pointer (some ⟨b, 0, none⟩), .agg (cD 0 100 5), .int .i64 3, .bool true] x fun e w' => ∃ g sc, e = .returned (.tuple #[.slice (some ⟨g, 0, none⟩) 1 sc, .agg st0]) ∧ x.heap.size ≤ g ∧ TWk w b B F n ((g, spA) :: S) w' := by
 obtain ⟨L, hL, hM⟩ := h.mem
 refine (trSp (cD_cm 0 100 5 (by decide) (by decide) (by decide)) b B 16384 F L x hM (by omega) hF 3 true).mono ?_
 rw [tw8]
 rintro e w' ⟨hb, v, rfl, ho⟩
 obtain ⟨g, cap, rfl⟩ : ∃ g cap, v = .slice (some ⟨g, 0, none⟩) 1 cap := by
  rcases ho.2 with ⟨_, h0⟩ | ⟨g, cap, _, hv, _⟩
  ·cases h0
  ·exact ⟨g, cap, hv⟩
 have hg := own_ge ho g 0 rfl
 exact ⟨g, cap, rfl, hg, (h.go hb).add (arr_owned ho) (by have := h.below.size; omega) (fun e => by have := hM.lt; omega) (fun e => by have := hM.lt'; omega)⟩
theorem same_lit {w : World} {b B n : Nat} {F : Nat → Int} {S : List (Nat × Array Value)} {x : World} {p11 ps sc p13 p15 : Nat} (h : TWk w b B F n ((p15, st0) :: (p13, stA 2) :: (p11, st0) :: (ps, spA) :: S) x) :
  Calls Tryz.prog 18 #[.slice (some ⟨ps, 0, none⟩) 1 sc, .slice (some ⟨x.heap.size, 0, none⟩) 1 1] (x.alloc (.cells #[.int .u64 100, .int .i64 3, .bool false] 65)) fun e w' => e = .returned (.bool true) ∧ TWk w b B F n ((p15, st0) :: (p13, stA 2) :: (p11, st0) :: (ps, spA) :: S) w' := by
 have ha : Below x.heap.size x (x.alloc (.cells #[.int .u64 100, .int .i64 3, .bool false] 65)) := (Below.refl _ _).alloc (Nat.le_refl _) _
 have h2 := h.go ha
 exact (same_ok (some ⟨ps, 0, none⟩) (some ⟨x.heap.size, 0, none⟩) [⟨100, 3, false⟩] sc 1 _ (spA_at (h2.arr (ps, spA) (by simp)).1) (spAt_fresh x [⟨100, 3, false⟩] _) (by simp)).mono fun e w' ⟨h3, h4⟩ => ⟨h3, h2.go h4⟩
theorem gm_w1 {w : World} {b B n : Nat} {F : Nat → Int} {S : List (Nat × Array Value)} {x : World} (h : TWk w b B F n S x) :
  Calls Tryz.prog 17 #[.pointer (some ⟨b, 0, none⟩), .agg (cD 6 100 5), .int .i64 1] x fun e w' => e = .returned (.tuple #[.slice none 0 0, .agg (stA 2)]) ∧ TWk w b B F n S w' := by
 obtain ⟨L, hL, hM⟩ := h.mem
 refine (trGm (cD_cm 6 100 5 (by decide) (by decide) (by decide)) b B 16384 F L x hM (by omega) 1).mono ?_
 rw [tw9]
 rintro e w' ⟨hb, he⟩
 exact ⟨he, h.go hb⟩
theorem gm_w0 {w : World} {b B n : Nat} {F : Nat → Int} {S : List (Nat × Array Value)} {x : World} (h : TWk w b B F n S x) :
  Calls Tryz.prog 17 #[.pointer (some ⟨b, 0, none⟩), .agg (cD 6 100 5), .int .i64 0] x fun e w' => e = .returned (.tuple #[.slice none 0 0, .agg st0]) ∧ TWk w b B F n S w' := by
 obtain ⟨L, hL, hM⟩ := h.mem
 refine (trGm (cD_cm 6 100 5 (by decide) (by decide) (by decide)) b B 16384 F L x hM (by omega) 0).mono ?_
 rw [tw10]
 rintro e w' ⟨hb, he⟩
 exact ⟨he, h.go hb⟩
end Go.Proofs.YtfmabknhfehdcaaGreat
namespace Go.Proofs.YtfmabknhfehdcaaGreat
set_option linter.unusedSimpArgs false
set_option linter.unusedVariables false
open Go.RowKit
theorem bytesL_succ (v : Int) (k : Nat) : bytesL v k ++ [.int .u8 (byteOf v k)] = bytesL v (k + 1) := by
 unfold bytesL
 rw [List.range_succ, List.map_append]
 rfl
/-- Eight bytes of a number, in a new block. -/
def BytesPost (v : Int) (w : World) (e : Ending) (w' : World) : Prop := ∃ g c, e = .returned (.slice (some ⟨g, 0, none⟩) 8 c) ∧ Below w.heap.size w w' ∧ w.heap.size ≤ g ∧ ∀ j u, (bytesL v 8)[j]? = some u → w'.cell? ((⟨g, 0, none⟩ : Addr).add j) = some u
set_option maxRecDepth 100000 in
set_option maxHeartbeats 2000000 in
theorem rbytes_any (v : Int) (w : World) (h0 : 0 ≤ v) (h1 : v ≤ 18446744073709551615) : Calls Tryz.prog 67 #[.int .u64 v] w (BytesPost v w) := by
 obtain ⟨bs, hbs⟩ : ∃ z, z = w.heap.size := ⟨_, rfl⟩
 have HBS := Lib.hid hbs
 unfold BytesPost
 rw [← hbs]
 clear hbs
 go_enter Tryz.func67, Tryz.ntmps67
 go_wp2_with fail
 go_loopw [3, 4] (fun v3 v4 wr => ∃ k : Nat, k ≤ 8 ∧ v4 = .int .i64 (k : Nat) ∧ wr.ownsRow bs 5 1 v3 k (bytesL v k) ∧ Below bs w wr) (fun _ v4 _ => 8 - (intOf v4).toNat)
 case atStart => exact ⟨0, by omega, rfl, World.ownsRow_nil _ _ _ _, Below.refl _ _⟩
 case round =>
  obtain ⟨k, hk, rfl, hown, hb⟩ := hrel
  have HO := Lib.hid hown
  have HB := Lib.hid hb
  have hwr : bs ≤ wr.heap.size := by rw [HBS.out]; exact hb.size
  clear hown hb
  by_cases hk8 : k < 8
  ·have q1 : decide ((k : Int) < 8) = true := decide_eq_true (by omega)
   have e1 : IntKind.i64.wrap (8 * (k : Int)) = 8 * (k : Int) := IntWalk.i64_in _ (by omega)
   obtain ⟨i0, hi0, hz0, hz1, hz2⟩ := info_parts infoU8
   have HS := Lib.hid (show bytesL v k ++ [.int .u8 (v / 2 ^ (8 * k) % 256)] = bytesL v (k + 1) from bytesL_succ v k)
   go_wp2_with (at_builtin; refine wpList_append_lies _ rfl _ _ 31 rfl bs 5 i0 _ 1 1 Tryz.underlying31 hi0 hz0 hz1 hz2 rfl (by decide) u3 k (bytesL v k) rfl (HO.out.alloc _) ⟨wr.heap.size, 0, none⟩ 1 1 [.int .u8 (v / 2 ^ (8 * k) % 256)] rfl rfl (World.news_of_block (cs := #[.int .u8 (v / 2 ^ (8 * k) % 256)]) (t := 5) (fr := (0, 0)) (heap_alloc_new wr _)) (by simp [Value.oneCell']) (by decide) (by unfold maxLen; omega) (by omega) (by simp; omega) (wr.heap.size + 1) (by simp) ?_; intro gg cap w6 hown6 hgr6 hat6 hlt6; rw [HS.out] at hown6; have O6 := Lib.hid hown6; have K6 := Lib.hid (grown_keeps ((Below.refl _ wr).alloc (Nat.le_refl _) _) HO.out hwr hgr6); clear hown6 hgr6 hat6)
   exact ⟨⟨k + 1, by omega, by go_num, O6.out, HB.out.trans (K6.out.below (B := bs) hwr (fun j hj e => by have e : bs ≤ j := e; omega))⟩, by simp [intOf]; omega⟩
  ·obtain rfl : k = 8 := by omega
   obtain ⟨g, cap, rfl, hg, hc⟩ := own_form HO.out (by omega)
   go_wp2_with fail
   go_ret
   refine ⟨g, cap, rfl, HB.out, hg, fun j u hj => ?_⟩
   rw [Addr.add_mid, Nat.zero_add]
   exact hc j u (by have := (List.getElem?_eq_some_iff.1 hj).1; rw [bytesL_length] at this; exact this) hj
set_option maxRecDepth 100000 in
set_option maxHeartbeats 2000000 in
theorem rlists_any (l n K : Int) (w : World) (h0 : 0 ≤ l) (h1 : l ≤ 18446744073709551615) (hn0 : -9223372036854775808 ≤ n) (hn1 : n ≤ 9223372036854775807) (hk : lstsP l n = K) :
  Calls Tryz.prog 66 #[.int .u64 l, .int .i64 n] w fun e w' => e = .returned (.int .i64 K) ∧ w = w' := by
 unfold lstsP at hk
 by_cases c1 : n < 3
 ·rw [if_pos (.inl c1)] at hk
  subst hk
  have q : decide (n ≤ 2) = true := decide_eq_true (by omega)
  go_enter Tryz.func66, Tryz.ntmps66
  go_wp2_with fail
  go_ret
  exact ⟨rfl, rfl⟩
 ·have q : decide (n ≤ 2) = false := decide_eq_false (by omega)
  by_cases c2 : 257 < n
  ·rw [if_pos (.inr c2)] at hk
   subst hk
   have q2 : decide (257 < n) = true := decide_eq_true c2
   go_enter Tryz.func66, Tryz.ntmps66
   go_wp2_with fail
   go_ret
   exact ⟨rfl, rfl⟩
  ·rw [if_neg (by omega)] at hk
   have q2 : decide (257 < n) = false := decide_eq_false c2
   obtain ⟨R, hR⟩ : ∃ z, z = roomP l := ⟨_, rfl⟩
   obtain ⟨r0, r1⟩ := roomP_bd l
   rw [← hR] at hk r0 r1
   have HR := Lib.hid (show (4096 - l % 4096 + 7) / 8 = R by rw [hR]; rfl)
   clear hR
   by_cases c3 : n - 1 ≤ R
   ·rw [if_pos c3] at hk
    subst hk
    have q3 : decide (R < n - 1) = false := decide_eq_false (by omega)
    go_enter Tryz.func66, Tryz.ntmps66
    go_upto_region 5 with fail
    rw [HR.out]
    refine wp_loop_rounds 3 ?_
    rw [rounds_succ]
    go_wp2_with fail
    go_ret
    exact ⟨rfl, rfl⟩
   ·rw [if_neg c3] at hk
    subst hk
    have q3 : decide (R < n - 1) = true := decide_eq_true (by omega)
    have q4 : decide (512 < n - 1 - (R - 1)) = false := decide_eq_false (by omega)
    go_enter Tryz.func66, Tryz.ntmps66
    go_upto_region 5 with fail
    rw [HR.out]
    refine wp_loop_rounds 3 ?_
    rw [rounds_succ]
    go_wp2_with fail
    rw [rounds_succ]
    go_wp2_with fail
    go_ret
    exact ⟨rfl, rfl⟩
end Go.Proofs.YtfmabknhfehdcaaGreat
