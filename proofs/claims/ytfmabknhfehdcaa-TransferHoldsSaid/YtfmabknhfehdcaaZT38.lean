/- transfer: Prepare, of a scatter gather list. -/
import Derived.Test.YtfmabknhfehdcaaZT37
namespace Go.Proofs.Ytfmabknhfehdcaa
set_option linter.unusedVariables false
set_option linter.unusedSimpArgs false
open Go.RowKit

theorem wpList_storeN {P : Program} {ops : Array Oper} {Q : Exit → Act → World → Prop} {a : Act} {w : World} {rest : List Oper} {op : Oper} (hgd : op.guard = none) (ty : TypeId) (x y : Operand) (ho : op.op = .store ty x y) (hd : op.dst = none)
    (b o : Nat) (cells : Array Value) (hx : a.eval x = .pointer (some ⟨b, o, none⟩)) (hy : a.eval y = .agg cells)
    (ht : w.there b o cells.size) (hi : (P.info? ty).map (·.size) = some cells.size) (h1 : cells.all (·.oneCell') = true)
    (h : wpList P ops Q rest a (w.setCells b o cells.toList)) : wpList P ops Q (op :: rest) a w :=
  wpList_plain hgd fun K hK => wp_storeN ty x y ho hd b o cells hx hy ht hi h1 (hK _ _ h)
theorem size2u : (Try.prog.info? 25).map (·.size) = some 2 := by kernel_rfl
set_option maxRecDepth 100000 in
set_option maxHeartbeats 8000000 in
theorem prep_s {C : Array Value} {mt d0 d1 : Int} (b B size : Nat) (f : Nat → Int) (L : List (Nat × Nat)) (la pa : Option Addr) (nl lc np pc : Nat) (l p : Nat → Int) (o N : Int) (T : Nat → Prop) (Post : Dsc → Int → World → World → Prop) (w : World) (hC : Cm C true mt d0 d1) (hM : MemAt w b B size f L) (hs : 0 < size)
    (hl : UAt w la nl l) (hp : UAt w pa np p) (hup : U64 np p) (hA : TArg np p o N) (hnl : np ≤ 1 ∨ nl ≠ 0)
    (hB : ∀ W v base, Below w.heap.size w W → w.heap.size ≤ base → W.ownsRow base 66 4 v (blkF p o N np).length (dC (blkF p o N np)) → Calls Try.prog 38 #[.pointer (some ⟨b, 0, none⟩), .int .u64 (if nl = 0 then 0 else l 0), v] W fun e w' => ∃ d r, e = .returned (.tuple #[.agg d.cells, .int .i64 r]) ∧ Keeps T W w' ∧ Post d r W w' ∧ (r = 0 → d.Ok ∧ Vld d))
    (hT : ∀ j, T j → j < w.heap.size) (hPk : ∀ d r W a c, Post d r W a → Keeps (fun j => w.heap.size ≤ j) a c → Post d r W c) :
    Calls Try.prog 17 #[.pointer (some ⟨b, 0, none⟩), .agg C, .slice la nl lc, .slice pa np pc, .int .i64 o, .int .i64 N] w fun e w' => ∃ d r W, Below w.heap.size w W ∧ Post d r W w' ∧ Keeps T w w' ∧ e = .returned (.tuple #[.agg (if r = 0 then cmD C d.a (word1 d) else zCm), .int .i64 r]) := by
  have hk0 := pgs_le o N
  have HNP := Lib.hid (show np ≤ 258 by have := hA.k; omega)
  have HB := Lib.hid hB
  have HPK := Lib.hid hPk
  have HT := Lib.hid hT
  have HM := Lib.hid hM
  have HC := Lib.hid hC
  have HL := Lib.hid hl
  have HP := Lib.hid hp
  have HUP := Lib.hid hup
  have HA := Lib.hid hA
  obtain ⟨sz, hsz⟩ : ∃ z : Int, z = size := ⟨_, rfl⟩
  have dz : (sz == 0) = false := beq_eq_false_iff_ne.2 (by omega)
  have HSZ := Lib.hid hsz
  have HCZ := Lib.hid (show (Try.prog.info? 28).map (·.size) = some C.size by rw [hC.z]; exact sizeCm)
  have HZ := Lib.hid zeroCm
  have HBZ := Lib.hid build_cm0
  have HZZ := Lib.hid (show (Try.prog.info? 28).map (·.size) = some zCm.size from sizeCm)
  have HZ1 := Lib.hid (show zCm.all (·.oneCell') = true by simp [zCm, Value.oneCell'])
  have HZ0 := Lib.hid (show zCm.size = 16 from rfl)
  obtain ⟨at', hat⟩ : ∃ z : Int, z = if nl = 0 then 0 else l 0 := ⟨_, rfl⟩
  rw [← hat] at HB
  have HAT := Lib.hid hat
  have hq : ((decide ((1 : Int) < (np : Int)) = true ∧ decide (1 < np) = true) ∧ ((nl : Int) == 0) = false ∧ (nl == 0) = false) ∨ (decide ((1 : Int) < (np : Int)) = false ∧ decide (1 < np) = false) := by
    rcases Nat.lt_or_ge 1 np with h | h
    · exact .inl ⟨⟨decide_eq_true (by omega), decide_eq_true h⟩, beq_eq_false_iff_ne.2 (by omega), beq_eq_false_iff_ne.2 (by omega)⟩
    · exact .inr ⟨decide_eq_false (by omega), decide_eq_false (by omega)⟩
  clear hB hPk hT hM hC hsz hl hp hup hA hat hnl hk0
  obtain ⟨Z, hZ⟩ : ∃ Z, Z = zCm := ⟨_, rfl⟩
  rw [← hZ] at HZ HBZ HZZ HZ1 HZ0 ⊢
  clear hZ
  go_enter Try.func17, Try.ntmps17
  go_upto_region 1 with ((with_reducible show wpList _ _ _ (⟨some 12, _, _, _, _, _⟩ :: _) _ _); refine wpList_alloc rfl 28 rfl HZ.out ?_; rw [show (Value.agg Z).cells = Z from rfl])
  obtain ⟨W0, hW0⟩ : ∃ W0, W0 = (w.alloc (.cells C 28)).alloc (.cells Z 28) := ⟨_, rfl⟩
  rw [← hW0]
  have AC := Lib.hid (show ArrAt W0 w.heap.size C by rw [hW0]; exact (ArrAt.fresh w C _ (by rw [HC.out.z]; decide)).alloc _)
  have AZ := Lib.hid (show ArrAt W0 (w.heap.size + 1) Z by rw [hW0]; simpa using ArrAt.fresh (w.alloc (.cells C 28)) Z 28 (by rw [HZ0.out]; decide))
  have B0 := Lib.hid (show Below w.heap.size w W0 by rw [hW0]; exact ((Below.refl _ _).alloc (Nat.le_refl _) _).alloc (by simp) _)
  have HS0 := Lib.hid (show W0.heap.size = w.heap.size + 2 by rw [hW0]; simp)
  clear hW0
  have c2 := AC.out.cell HC.out.g2
  have HV := Lib.hid (tvalid_any pa np pc p o N true W0 (HP.out.below B0.out) HUP.out (by have := HNP.out; omega) (by have := HA.out.o0; omega) (by have := HA.out.o1; omega) (by have := HA.out.n0; omega) (by have := HA.out.n1; omega) ⟨fun _ => HA.out, fun _ => rfl⟩)
  rcases hq with ⟨⟨q1, q2⟩, q3, q4⟩ | ⟨q1, q2⟩
  all_goals
    go_upto_region 3 with (first
      | (go_at_call 34; refine (size_is b B size f L sz _ (HM.out.below B0.out) HSZ.out).mono ?_; rintro e w' ⟨rfl, rfl⟩)
      | (go_at_call 37; refine HV.out.mono ?_; rintro e w' ⟨rfl, rfl⟩)
      | ((with_reducible show wpList _ _ _ (⟨some 15, _, _, _, _, _⟩ :: _) _ _); refine wpList_alloc rfl 66 rfl zeroD ?_; rw [show (Value.agg zDsc.cells).cells = zDsc.cells from rfl]))
    obtain ⟨W1, hW1⟩ : ∃ z, z = W0.alloc (.cells zDsc.cells 66) := ⟨_, rfl⟩
    rw [← hW1]
    have hb1 : Below W0.heap.size W0 W1 := by rw [hW1]; exact (Below.refl _ _).alloc (Nat.le_refl _) _
    have AC1 := Lib.hid (AC.out.below hb1)
    have AZ1 := Lib.hid (AZ.out.below hb1)
    have AD1 := Lib.hid (show ArrAt W1 (w.heap.size + 2) zDsc.cells by rw [hW1, ← HS0.out]; exact ArrAt.fresh W0 zDsc.cells _ (by decide))
    have B1 := Lib.hid (B0.out.trans (hb1.mono B0.out.size))
    rw [HS0.out]
    clear hW1 hb1 HV c2 AC AZ B0 HS0
    have HFI := Lib.hid (first_any la nl lc l at' W1 (HL.out.below B1.out) HAT.out)
    have HBK := Lib.hid (blocks_any pa np pc p o N W1 (HP.out.below B1.out) HUP.out HA.out)
    go_upto_region 4 with (first
      | (go_at_call 39; refine HFI.out.mono ?_; rintro e w' ⟨rfl, rfl⟩)
      | (go_at_call 40; refine HBK.out.mono ?_; rintro e w2 ⟨v, rfl, hown, hb⟩; have O2 := Lib.hid hown; have AC2 := Lib.hid (AC1.out.below hb); have AZ2 := Lib.hid (AZ1.out.below hb); have AD2 := Lib.hid (AD1.out.below hb); have B2 := Lib.hid (B1.out.trans (hb.mono B1.out.size)); clear hown hb)
      | (go_at_call 38; refine (HB.out w2 v _ B2.out B1.out.size O2.out).mono ?_; rintro e w3 ⟨d, r, rfl, hk, hp, hd⟩; have K3 := Lib.hid hk; have P3 := Lib.hid hp; have HD3 := Lib.hid hd; have AC3 := Lib.hid (AC2.out.kept hk (fun e => by have := HT.out _ e; omega)); have AZ3 := Lib.hid (AZ2.out.kept hk (fun e => by have := HT.out _ e; omega)); have AD3 := Lib.hid (AD2.out.kept hk (fun e => by have := HT.out _ e; omega)); obtain ⟨DD, hDD⟩ : ∃ DD : Array Value, DD = d.cells := ⟨_, rfl⟩; have HDS := Lib.hid (show DD.size = 4 by rw [hDD]; rfl); have HDO := Lib.hid (show DD.all (·.oneCell') = true by rw [hDD]; exact Dsc.one d); have HDD := Lib.hid hDD; rw [← hDD]; clear hk hp hd hDD)
      | ((with_reducible show wpList _ _ _ (⟨none, .store _ _ _, _, _, _, _⟩ :: _) _ _); refine wpList_storeA rfl (b := w.heap.size + 2) (A := zDsc.cells) (A' := DD) AD3.out 66 (.tmp 15) (.tmp 25) rfl (by simp [Act.eval, Act.put]) (by simp [Act.eval, Act.put]) (sizeDs _) (by rw [HDS.out]; rfl) HDO.out ?_))
    obtain ⟨W4, hW4⟩ : ∃ z, z = w3.setCells (w.heap.size + 2) 0 DD.toList := ⟨_, rfl⟩
    rw [← hW4]
    have k4 : Keeps (One (w.heap.size + 2)) w3 W4 := by rw [hW4]; exact Keeps.store (S := One (w.heap.size + 2)) (Keeps.refl _ _) (fun _ => rfl) _ _
    have AC4 := Lib.hid (AC3.out.kept k4 (fun e => by have e : w.heap.size = w.heap.size + 2 := e; omega))
    have AZ4 := Lib.hid (AZ3.out.kept k4 (fun e => by have e : w.heap.size + 1 = w.heap.size + 2 := e; omega))
    have AD4 := Lib.hid (show ArrAt W4 (w.heap.size + 2) DD by rw [hW4]; exact AD3.out.store DD (by rw [HDS.out]; rfl))
    have K4 := Lib.hid (show Keeps (fun j => w.heap.size ≤ j) w3 W4 from k4.mono (fun j _ e => by have e : j = w.heap.size + 2 := e; omega))
    have HDZ := Lib.hid (show (Try.prog.info? 66).map (·.size) = some DD.size by rw [HDS.out]; exact sizeD)
    clear hW4 k4 AD3 AC3 AZ3 AC2 AZ2 AD2 AC1 AZ1 AD1
    have HK := Lib.hid (show ∀ (W : World), Keeps (fun j => w.heap.size ≤ j) W4 W → Keeps T w W ∧ Post d r w2 W from fun W k => by
      have k5 := K4.out.trans k
      refine ⟨?_, HPK.out _ _ _ _ _ P3.out k5⟩
      have k6 : Keeps (fun j => T j ∨ w.heap.size ≤ j) w W := ((Keeps.of_below B2.out).trans (K3.out.mono fun _ _ e => Or.inl e)).trans (k5.mono fun _ _ e => Or.inr e)
      exact ⟨k6.os, k6.tape, k6.output, k6.size, fun k hk hS => k6.block k hk (fun e => e.elim hS (fun e => by omega))⟩)
    have hws : w.heap.size + 2 < W4.heap.size := AD4.out.lt
    by_cases hr : r = 0
    · have q : (r == 0) = true := by simp [hr]
      have HR := Lib.hid hr
      obtain ⟨hok, hv⟩ := HD3.out hr
      have HE := Lib.hid (encode_ok d W4 hok hv)
      rw [← HDD.out] at HE
      obtain ⟨x, hx⟩ : ∃ z, z = d.a := ⟨_, rfl⟩
      obtain ⟨y, hy⟩ : ∃ z, z = word1 d := ⟨_, rfl⟩
      rw [← hx, ← hy] at HE
      have HX := Lib.hid hx
      have HY := Lib.hid hy
      clear hr hok hv hx hy
      go_upto_region 14 with (first
        | ((with_reducible show wpList _ _ _ (⟨some 30, _, _, _, _, _⟩ :: _) _ _); refine wpList_loadA rfl AD4.out 66 (.tmp 15) rfl (by first | rfl | simp [Act.eval, Act.put]) Try.underlying66 rfl HDZ.out ?_)
        | (go_at_call 41; refine HE.out.mono ?_; rintro e w5 ⟨rfl, hb⟩; have B5 := Lib.hid hb; have AC5 := Lib.hid (AC4.out.below hb); have AZ5 := Lib.hid (AZ4.out.below hb); clear hb)
        | ((with_reducible show wpList _ _ _ (⟨none, .store _ _ _, _, _, _, _⟩ :: _) _ _); refine wpList_storeN rfl 25 (.tmp 34) (.tmp 32) rfl rfl w.heap.size 8 #[.int .u64 x, .int .u64 y] (by simp [Act.eval, Act.put]) (by simp [Act.eval, Act.put]) (fun j hj => by have h := AC5.out.th (8 + j) (by rw [HC.out.z]; simp at hj; omega); simpa using h) size2u (by simp [Value.oneCell']) ?_))
      obtain ⟨W6, hW6⟩ : ∃ z, z = w5.setCells w.heap.size 8 (#[Value.int .u64 x, .int .u64 y] : Array Value).toList := ⟨_, rfl⟩
      rw [← hW6]
      have hW6' : W6 = (w5.setCell ⟨w.heap.size, 8, none⟩ (.int .u64 x)).setCell ⟨w.heap.size, 9, none⟩ (.int .u64 y) := hW6
      have k6 : Keeps (One w.heap.size) w5 W6 := by rw [hW6']; exact ((Keeps.refl (One w.heap.size) w5).setCell (p := ⟨w.heap.size, 8, none⟩) (fun _ => rfl) _).setCell (p := ⟨w.heap.size, 9, none⟩) (fun _ => rfl) _
      have AC6 := Lib.hid (show ArrAt W6 w.heap.size (cmD C x y) by
        rw [hW6']
        exact (AC5.out.set 8 (.int .u64 x) (by rw [HC.out.z]; omega)).set 9 (.int .u64 y) (by rw [Array.size_setIfInBounds, HC.out.z]; omega))
      have AZ6 := Lib.hid (AZ5.out.kept k6 (fun e => by have e : w.heap.size + 1 = w.heap.size := e; omega))
      have K6 := Lib.hid (show Keeps (fun j => w.heap.size ≤ j) W4 W6 from (Keeps.of_below B5.out).trans (k6.mono (fun j _ e => Nat.le_of_eq (Eq.symm e))))
      have HDC := Lib.hid (show (Try.prog.info? 28).map (·.size) = some (cmD C x y).size by rw [show (cmD C x y).size = C.size by simp [cmD]]; exact HCZ.out)
      have HD1 := Lib.hid (show (cmD C x y).all (·.oneCell') = true from all_set (all_set HC.out.o 8 _ rfl) 9 _ rfl)
      have HD16 := Lib.hid (show (cmD C x y).size = 16 by rw [show (cmD C x y).size = C.size by simp [cmD]]; exact HC.out.z)
      obtain ⟨D, hD⟩ : ∃ D, D = cmD C x y := ⟨_, rfl⟩
      rw [← hD] at AC6 HDC HD1 HD16
      have HDE := Lib.hid hD
      clear hD hW6 hW6' k6 AC5 AZ5
      go_wp2_with (first
        | ((with_reducible show wpList _ _ _ (⟨some 77, _, _, _, _, _⟩ :: _) _ _); refine wpList_loadA rfl AC6.out 28 (.tmp 7) rfl (by first | rfl | simp [Act.eval, Act.put]) Try.underlying28 rfl HDC.out ?_)
        | ((with_reducible show wpList _ _ _ (⟨none, .store _ _ _, _, _, _, _⟩ :: _) _ _); refine wpList_storeA rfl (b := w.heap.size + 1) (A := Z) (A' := D) AZ6.out 28 (.tmp 12) (.tmp 77) rfl (by simp [Act.eval, Act.put]) (by simp [Act.eval, Act.put]) HZZ.out (by rw [HD16.out, HZ0.out]) HD1.out ?_))
      obtain ⟨h1, h2⟩ := HK.out _ (K6.out.trans (Keeps.store (S := fun j => w.heap.size ≤ j) (Keeps.refl _ _) (b := w.heap.size + 1) (fun _ => by show w.heap.size ≤ _; omega) D.toList 0))
      have hs := AZ6.out.store D (by rw [HD16.out, HZ0.out])
      refine bodyPost_ret (v := .tuple #[.agg D, .int .i64 0]) (results_cm2 Try.results17 hs HDC.out rfl rfl) rfl ⟨d, r, w2, B2.out, h2, h1, by rw [if_pos HR.out, HDE.out, HX.out, HY.out, HR.out]⟩
    · have q : (r == 0) = false := by simp [hr]
      have q' : (r != 0) = true := by simp [hr]
      have HR := Lib.hid hr
      clear hr
      go_wp2_with (first
        | ((with_reducible show wpList _ _ _ (⟨some 75, _, _, _, _, _⟩ :: _) _ _); refine wpList_build0 rfl 28 rfl (HBZ.out _) ?_)
        | ((with_reducible show wpList _ _ _ (⟨none, .store _ _ _, _, _, _, _⟩ :: _) _ _); refine wpList_storeA rfl (b := w.heap.size + 1) (A := Z) (A' := Z) AZ4.out 28 (.tmp 12) (.tmp 75) rfl (by simp [Act.eval, Act.put]) (by simp [Act.eval, Act.put]) HZZ.out rfl HZ1.out ?_))
      obtain ⟨h1, h2⟩ := HK.out _ (Keeps.store (S := fun j => w.heap.size ≤ j) (Keeps.refl _ _) (b := w.heap.size + 1) (fun _ => by show w.heap.size ≤ _; omega) Z.toList 0)
      have hs := AZ4.out.store Z rfl
      refine bodyPost_ret (v := .tuple #[.agg Z, .int .i64 r]) (results_cm2 Try.results17 hs HZZ.out rfl rfl) rfl ⟨d, r, w2, B2.out, h2, h1, by rw [if_neg HR.out]⟩

end Go.Proofs.Ytfmabknhfehdcaa

namespace Go.Proofs.Ytfmabknhfehdcaa
open Go.RowKit

theorem coded_ok {R : Except Int (List Spn)} {l : List Spn} (h : R = .ok l) : coded R = .ok l := by rw [h]; rfl
/-- What Prepare leaves. -/
def PhPost (b B size l0 ll : Nat) (C : Array Value) (sgl : Bool) (p : Nat → Int) (o N : Int) (K : Nat) (w : World) (e : Ending) (w' : World) : Prop :=
  ∃ (x y : Int) (F : Nat → Int) (L' : List (Nat × Nat)), e = .returned (.tuple #[.agg (cmD C x y), .int .i64 0]) ∧ (0 ≤ x ∧ x ≤ 18446744073709551615) ∧ (0 ≤ y ∧ y ≤ 18446744073709551615) ∧ Keeps (Two b B) w w' ∧ MemAt w' b B size F L' ∧ L'.length ≤ ll + 2 ∧ Bytes F ∧
    (∀ F2 : Nat → Int, (∀ j, l0 ≤ j → F2 j = F j) → ∀ th, dataT F2 size sgl x y N th = .ok (outP p o N K)) ∧ (sgl = true → K = 0 → x = 0 ∧ y = word1 ⟨1, 0, 0, 0⟩)
theorem prep_hp {size l0 l1 R K : Nat} {p : Nat → Int} {o N : Int} (hA : TArg K p o N) (hBt : 1 ≤ N → Bt size l0 l1 R K p o N) (hl01 : l0 ≤ l1) (hl0 : l0 % 8 = 0) (hl1 : l1 % 4096 = 0) (hlb : l1 ≤ 18446744073709551615) (hz : size ≤ 4194304) (hs : 0 < size) {C : Array Value} {mt d0 d1 : Int} (hC : Cm C false mt d0 d1) (b B : Nat) (f : Nat → Int) (hf : Bytes f) (L : List (Nat × Nat)) (hL : L.length < 1000) (la pa : Option Addr) (lc pc : Nat) (w : World) (hM : MemAt w b B size f L) (hp : UAt w pa K p) (hup : U64 K p) (hl : UAt w la 2 (ls2 l0 l1)) (hlm : ∀ a, la = some a → ¬ Two b B a.block) (hpc : K ≤ pc) (hpc2 : pc ≤ 9223372036854775807) :
    Calls Try.prog 17 #[.pointer (some ⟨b, 0, none⟩), .agg C, .slice la 2 lc, .slice pa K pc, .int .i64 o, .int .i64 N] w (PhPost b B size l0 L.length C false p o N K w) := by
  have hT : ∀ j, Two b B j → j < w.heap.size := fun j e => by have := hM.lt; have := hM.lt'; rcases e with e | e <;> omega
  refine (prep_p b B size f L la pa 2 lc K pc o N (Two b B) (fun x y r _ w' => r = 0 ∧ (0 ≤ x ∧ x ≤ 18446744073709551615) ∧ (0 ≤ y ∧ y ≤ 18446744073709551615) ∧ ∃ (F : Nat → Int) (L' : List (Nat × Nat)), MemAt w' b B size F L' ∧ L'.length ≤ L.length + 2 ∧ Bytes F ∧ ∀ F2 : Nat → Int, (∀ j, l0 ≤ j → F2 j = F j) → spansP F2 size x y N = .ok (outP p o N K)) w hC hM hs (fun W hb => ?_) hT fun x y r W a c h hk => ?_).mono ?_
  · by_cases hN : 1 ≤ N
    · have h := hBt hN
      obtain ⟨k1, -⟩ := bt_k h
      have hp0 := h.pg 0 (by omega)
      refine (built_any2 h hl01 b B f hf L hL la pa lc pc W (hM.below hb) (hp.below hb) (hl.below hb) hlm hpc hpc2).mono ?_
      rintro e w' ⟨second, F, L', rfl, hk, hm, hll, hbf, s0, s1, hsp⟩
      exact ⟨_, _, _, rfl, hk, rfl, ⟨by have := h.o0; omega, by have := h.o1; omega⟩, ⟨s0, s1⟩, F, L', hm, hll, hbf, hsp⟩
    · have hN0 : N = 0 := by have := hA.n0; omega
      have hK0 : K = 0 := by
        have h1 := hA.k
        unfold pgs at h1
        rw [if_pos (.inl (by omega))] at h1
        omega
      have hul : U64 2 (ls2 l0 l1) := fun i hi => by unfold ls2; split <;> omega
      have hv : VArg K 2 p (ls2 l0 l1) o N := ⟨hA.n0, hA.n1, hA.o0, hA.o1, hA.o4, hA.k, hA.pg, fun i hi => by
        unfold ls2
        split
        · exact ⟨by omega, .inl ‹_›⟩
        · exact ⟨by omega, .inr (by omega)⟩⟩
      refine (bld_0 la pa 2 K lc pc (ls2 l0 l1) p o N b B size f L W (hM.below hb) hs (hl.below hb) (hp.below hb) hul hup (by omega) (by omega) (by have := hA.o0; omega) (by have := hA.o1; omega) (by omega) (by omega) hv hK0).mono ?_
      rintro e w' ⟨rfl, hb'⟩
      subst hK0 hN0
      exact ⟨_, _, _, rfl, Keeps.of_below hb', rfl, ⟨by omega, by omega⟩, ⟨by omega, by omega⟩, f, L, (hM.below hb).below hb', by omega, hf, fun F2 _ => by unfold spansP; simp [outP]⟩
  · obtain ⟨h1, h2, h3, F, L', h4, h5⟩ := h
    have : (fun j => w.heap.size ≤ j) b → False := fun e => by have := hM.lt; omega
    exact ⟨h1, h2, h3, F, L', h4.kept hk (fun e => by have := hM.lt; omega) (fun e => by have := hM.lt'; omega), h5⟩
  · rintro e w' ⟨x, y, r, W, -, ⟨rfl, h2, h3, F, L', h4, h5, h6, h7⟩, hk, rfl⟩
    refine ⟨x, y, F, L', by rw [if_pos rfl], h2, h3, hk, h4, h5, h6, fun F2 hF th => ?_, fun e => by cases e⟩
    unfold dataT
    rw [if_neg (by have := hA.n0; have := hA.n1; omega)]
    exact coded_ok (h7 F2 hF)
theorem prep_hs {size l0 l1 K : Nat} {p : Nat → Int} {o N : Int} (hA : TArg K p o N) (hpg : ∀ i, i < K → 0 ≤ p i ∧ p i + 4096 ≤ size) (hl : l0 + 16 * K ≤ size) (hz : size ≤ 4194304) (hs : 0 < size) {C : Array Value} {mt d0 d1 : Int} (hC : Cm C true mt d0 d1) (b B : Nat) (f : Nat → Int) (hf : Bytes f) (L : List (Nat × Nat)) (hL : L.length < 1000) (la pa : Option Addr) (lc pc : Nat) (w : World) (hM : MemAt w b B size f L) (hp : UAt w pa K p) (hup : U64 K p) (hla : UAt w la 2 (ls2 l0 l1)) :
    Calls Try.prog 17 #[.pointer (some ⟨b, 0, none⟩), .agg C, .slice la 2 lc, .slice pa K pc, .int .i64 o, .int .i64 N] w (PhPost b B size l0 L.length C true p o N K w) := by
  have hT : ∀ j, Two b B j → j < w.heap.size := fun j e => by have := hM.lt; have := hM.lt'; rcases e with e | e <;> omega
  refine (prep_s b B size f L la pa 2 lc K pc (ls2 l0 l1) p o N (Two b B) (fun d r _ w' => SBPost b B size l0 L.length p o N K d r w' ∧ d.Ok ∧ Vld d) w hC hM hs hla hp hup hA (.inr (by omega)) (fun W v base hb hbase hv => ?_) hT fun d r W a c h hk => ?_).mono ?_
  · refine (sbuilt hA hz hs hpg hl b B f hf L hL W (hM.below hb) v base hv).mono ?_
    rintro e w' ⟨d, r, rfl, hk, hp, hd⟩
    exact ⟨d, r, rfl, hk, ⟨hp, hd hp.1⟩, hd⟩
  · obtain ⟨⟨h1, h2, h3, F, L', h4, h5⟩, h6⟩ := h
    exact ⟨⟨h1, h2, h3, F, L', h4.kept hk (fun e => by have := hM.lt; omega) (fun e => by have := hM.lt'; omega), h5⟩, h6⟩
  · rintro e w' ⟨d, r, W, -, ⟨⟨rfl, h2, h3, F, L', h4, h5, h6, h7⟩, hok, hv⟩, hk, rfl⟩
    obtain ⟨e1, e2⟩ := dec_enc d hv hok
    refine ⟨d.a, word1 d, F, L', by rw [if_pos rfl], ⟨h2, hok.a.2⟩, word1_bd hv hok, hk, h4, by omega, h6, fun F2 hF th => ?_, fun _ hK => by rw [h3 hK]; exact ⟨rfl, rfl⟩⟩
    unfold dataT
    rw [if_neg (by have := hA.n0; have := hA.n1; omega)]
    refine coded_ok ?_
    unfold spansT
    rw [if_pos rfl, if_pos e1, e2]
    exact h7 F2 hF th
end Go.Proofs.Ytfmabknhfehdcaa

namespace Go.Proofs.Ytfmabknhfehdcaa
open Go.RowKit

theorem sum_bN {K : Nat} {p : Nat → Int} {o N : Int} (h : TArg K p o N) (hN : 1 ≤ N) : ∀ k, k ≤ K → sumP o N k = N - bN o N k
  | 0, _ => by show (0 : Int) = N - N; omega
  | k + 1, hk => by
    have ih := sum_bN h hN k (by omega)
    have hl := len_eq h hN (by omega : k < K)
    show sumP o N k + lenP o N k = N - (bN o N k - min (bN o N k) (4096 - bO o k))
    omega
theorem strB_map (n : Nat) (g : Nat → Int) : strB ((List.range n).map g) = strOf n g := by
  unfold strB strOf
  congr 2
  rw [List.map_map]
  rfl
section
variable {K : Nat} {p : Nat → Int} {o : Int} {N : Nat} (h : TArg K p o (N : Int)) (hP : Pgs p o K)
include h hP
omit hP in
theorem hold_zero (hN : ¬ 1 ≤ N) : K = 0 := by
  have h1 := h.k
  unfold pgs at h1
  rw [if_pos (.inl (by omega))] at h1
  omega
theorem hold_gat (g F : Nat → Int) : gatF (scatF g (outP p o N K) 0 F) (outP p o N K) = (List.range N).map g := by
  rw [gat_scat g _ 0 F (out_apart hP K (Nat.le_refl _)) out_plain]
  have e : sumN (outP p o (N : Int) K) = N := by
    by_cases hN : 1 ≤ N
    · have hl : ∀ i, i < K → 0 ≤ lenP o (N : Int) i := fun i hi => by
        have h1 := len_eq h (by omega) hi
        have h2 := bN_pos h (by omega) hi
        have h3 : bO o i < 4096 := by have := h.o1; unfold bO; split <;> omega
        omega
      have h1 := out_sum (K := K) (p := p) (o := o) (N := (N : Int)) hl K (Nat.le_refl _)
      have h2 := sum_bN h (by omega) K (Nat.le_refl _)
      rw [bN_end h (by omega)] at h2
      omega
    · have hK := hold_zero h hN
      subst hK
      show (0 : Nat) = N
      omega
  rw [e]
  exact List.map_congr_left fun i _ => by rw [Nat.zero_add]
omit h in
theorem hold_off {l0 : Nat} (hl : ∀ i, i < K → p i + 4096 ≤ l0) (g F : Nat → Int) (j : Nat) (hj : l0 ≤ j) : scatF g (outP p o N K) 0 F j = F j :=
  scat_off g _ 0 F j (out_off hP (Nat.le_refl _) j fun i hi => by have := hl i hi; omega)
omit h in
theorem hold_page {q : Nat} (hq : ∀ i, i < K → p i ≠ 4096 * (q : Int)) (g F : Nat → Int) (j : Nat) (h1 : 4096 * q ≤ j) (h2 : j < 4096 * q + 4096) : scatF g (outP p o N K) 0 F j = F j :=
  scat_off g _ 0 F j (out_off hP (Nat.le_refl _) j fun i hi c => by
    have h3 := hq i hi
    have h4 := (hP.pg i hi).1
    have h5 : p i ≤ adP p o i := by
      unfold adP
      split
      · rename_i e; rw [e]; have := hP.o0; omega
      · omega
    omega)
omit h in
theorem hold_head (hK : 0 < K) (g F : Nat → Int) (j : Nat) (h1 : p 0 ≤ j) (h2 : (j : Int) < p 0 + o) : scatF g (outP p o N K) 0 F j = F j :=
  scat_off g _ 0 F j (out_off hP (Nat.le_refl _) j fun i hi c => by
    have h4 := hP.pg i hi
    have h5 := hP.pg 0 hK
    have ho := hP.o1
    by_cases e : i = 0
    · subst e
      unfold adP at c
      rw [if_pos rfl] at c
      omega
    · have h3 := hP.ne i 0 hi hK e
      unfold adP at c
      rw [if_neg e] at c
      omega)
theorem hold_want (g F : Nat → Int) : gWant (scatF g (outP p o N K) 0 F) (.ok (outP p o N K)) = strOf N g := by
  show strB (gatF (scatF g (outP p o N K) 0 F) (outP p o N K)) = _
  rw [hold_gat h hP, strB_map]
end
end Go.Proofs.Ytfmabknhfehdcaa

namespace Go.Proofs.Ytfmabknhfehdcaa
open Go.RowKit

section
variable {K size l0 : Nat} {p : Nat → Int} {o : Int} {N : Nat} (hA : TArg K p o (N : Int)) (hP : Pgs p o K) (hl : ∀ i, i < K → p i + 4096 ≤ l0) (hs : 0 < size) {D : Array Value} {sgl : Bool} {mt x y : Int} (hD : Cm D sgl mt x y) (b B : Nat) (F : Nat → Int) (hF : Bytes F)
  (hsp : ∀ F2 : Nat → Int, (∀ j, l0 ≤ j → F2 j = F j) → ∀ th, dataT F2 size sgl x y N th = .ok (outP p o N K)) (g : Nat → Int) (hg : Bytes g)
include hA hP hl hs hD hF hsp
omit hP hl in
/-- Scatter stores. -/
theorem hold_sc (L : List (Nat × Nat)) (hL : L.length < 1000000) (ao : Option Addr) (dc : Nat) (W : World) (hM : MemAt W b B size F L) (hR : RestAt (Two b B) W (.slice ao N dc) N g) :
    Calls Try.prog 19 #[.pointer (some ⟨b, 0, none⟩), .agg D, .slice ao N dc] W fun e w' => e = .returned (.agg (stC 0)) ∧ Keeps (Two b B) W w' ∧ ∃ L', L'.length ≤ L.length + K ∧ MemAt w' b B size (scatF g (outP p o N K) 0 F) L' := by
  have h := trSc hD b B size F L W hM hs hF ao N dc g (by have := hA.n1; omega) hR hL
  rw [hsp F (fun _ _ => rfl) true] at h
  refine h.mono ?_
  rintro e w' ⟨rfl, hk, L', h1, h2⟩
  rw [outP_length] at h1
  exact ⟨rfl, hk, L', h1, h2⟩
include hg
/-- What was stored is gathered. -/
theorem hold_ga (L : List (Nat × Nat)) (W : World) (hM : MemAt W b B size (scatF g (outP p o N K) 0 F) L) :
    Calls Try.prog 21 #[.pointer (some ⟨b, 0, none⟩), .agg D, .int .i64 N, .string (strOf N g), .int .i64 0] W fun e w' => e = .returned (.bool true) ∧ Below W.heap.size W w' := by
  have e := hsp (scatF g (outP p o N K) 0 F) (fun j hj => hold_off hP hl g F j hj) false
  have h := gath_of (some ⟨b, 0, none⟩) D N (scatF g (outP p o N K) 0 F) (.ok (outP p o N K)) W hD.z (fun c hc => by cases hc) (fun W' hb => by
    have h2 := trGa hD b B size _ L W' (hM.below hb) hs (bytes_scat hg _ 0 F hF) N
    rw [e] at h2
    exact h2)
  rw [hold_want hA hP] at h
  exact h
end
end Go.Proofs.Ytfmabknhfehdcaa

namespace Go.Proofs.Ytfmabknhfehdcaa
open Go.RowKit

def pgK (kk : Nat → Nat) (i : Nat) : Int := 4096 * (kk i : Nat)
section
variable {kk : Nat → Nat} {n dn s : Nat} {o : Int}
theorem hold_targ (hk : (n : Int) = pgs o dn) (h0 : 0 ≤ o) (h1 : o < 4096) (h4 : o % 4 = 0) (hd : dn ≤ 60000) : TArg n (pgK kk) o dn :=
  ⟨by omega, by omega, h0, h1, h4, hk, fun i _ => by unfold pgK; omega⟩
theorem hold_pgs (h0 : 0 ≤ o) (h1 : o < 4096) (hne : ∀ i j, i < n → j < n → i ≠ j → kk i ≠ kk j) : Pgs (pgK kk) o n :=
  ⟨h0, h1, fun i _ => by unfold pgK; omega, fun i j hi hj e h => hne i j hi hj e (by unfold pgK at h; omega)⟩
theorem hold_bt (hk : (n : Int) = pgs o dn) (h0 : 0 ≤ o) (h1 : o < 4096) (h4 : o % 4 = 0) (hd : dn ≤ 60000) (hkk : ∀ i, kk i < 16) (hs : s < 512) (hn : 1 ≤ (dn : Int)) : Bt 81920 (69632 + 8 * s) 77824 ((4096 - (69632 + 8 * s) % 4096) / 8) n (pgK kk) o dn :=
  ⟨hn, by omega, h0, h1, h4, hk.symm, fun i _ => by have := hkk i; unfold pgK; omega, by omega, by omega, rfl, by omega, by omega, by omega, by omega⟩
theorem hold_fit (hkk : ∀ i, kk i < 16) (i : Nat) : 0 ≤ pgK kk i ∧ pgK kk i + 4096 ≤ (81920 : Nat) := by have := hkk i; unfold pgK; omega
theorem hold_low (hkk : ∀ i, kk i < 16) (i : Nat) : pgK kk i + 4096 ≤ ((69632 + 8 * s : Nat) : Int) := by have := hkk i; unfold pgK; omega
theorem uAt_pV {W : World} {base n c : Nat} {ao : Option Addr} {kk : Nat → Nat} (h : W.ownsRow base 24 1 (.slice ao n c) n ((List.range n).map fun j => Value.int .u64 (4096 * (kk j : Nat) : Int))) : UAt W ao n (pgK kk) := fun h0 => by
  rcases h.2 with ⟨-, h1⟩ | ⟨b, cap, cur, e, hb, hc, rest⟩
  · omega
  · cases e
    refine ⟨b, 0, rfl, fun i hi => ?_⟩
    have hcs := h.cells (g := b) rfl
    have e1 := hcs i (.int .u64 (4096 * (kk i : Nat) : Int)) (by simp [hi])
    simp only [Addr.add_mid] at e1
    exact e1
end
/-- the page that an entry of the list names -/
def kkL (zl : List Int) (i : Nat) : Nat := (zl.getD i 0 % 16).toNat
def uF (kk : Nat → Nat) (k q : Nat) : Bool := (List.range k).any fun j => kk j == q
theorem uF_succ (kk : Nat → Nat) (k q : Nat) : uF kk (k + 1) q = (uF kk k q || kk k == q) := by unfold uF; rw [List.range_succ, List.any_append]; simp
theorem uF_true {kk : Nat → Nat} {k q : Nat} : uF kk k q = true ↔ ∃ j, j < k ∧ kk j = q := by unfold uF; simp
def pV (kk : Nat → Nat) (k : Nat) : List Value := (List.range k).map fun j => .int .u64 (4096 * (kk j : Nat) : Int)
theorem pV_succ (kk : Nat → Nat) (k : Nat) : pV kk (k + 1) = pV kk k ++ [.int .u64 (4096 * (kk k : Nat) : Int)] := by unfold pV; rw [List.range_succ, List.map_append]; rfl
/-- What holds while the pages are read. -/
structure L1 (w1 : World) (u : Nat) (kk : Nat → Nat) (k : Nat) (v : Value) (W : World) : Prop where
  below : Below w1.heap.size w1 W
  row : W.rowIs u 55 16 (fun q => .bool (uF kk k q))
  own : W.ownsRow (u + 1) 24 1 v k (pV kk k)
  dist : ∀ i j, i < k → j < k → i ≠ j → kk i ≠ kk j
end Go.Proofs.Ytfmabknhfehdcaa
