/- prp: Build: too few lists. -/
import Derived.Test.YtfploifafpifnaaBD
namespace Go.Proofs.Ytfploifafpifnaa
set_option linter.unusedVariables false
set_option linter.unusedSimpArgs false
open Go.RowKit

section
variable (la pa : Option Addr) (nl np lc pc : Nat) (l p : Nat → Int) (o N : Int) (b B size : Nat) (f : Nat → Int) (L : List (Nat × Nat)) (w : World) (hM : MemAt w b B size f L) (hs : 0 < size) (hl : UAt w la nl l) (hp : UAt w pa np p) (hul : U64 nl l) (hup : U64 np p) (hnl : nl ≤ 1000000) (hnp : np ≤ 1000000)
    (ho0 : -9223372036854775808 ≤ o) (ho1 : o ≤ 9223372036854775807) (hN0 : -9223372036854775808 ≤ N) (hN1 : N ≤ 9223372036854775807)
include hM hs hl hp hul hup hnl hnp ho0 ho1 hN0 hN1
set_option maxRecDepth 100000 in
set_option maxHeartbeats 4000000 in
theorem bld_full (hv : VArg np nl p l o N) (h : 3 ≤ np) (hfl : nl = 0 ∨ (nl : Int) < lstsP (l 0) np) : Calls Try.prog 10 #[.pointer (some ⟨b, 0, none⟩), .slice la nl lc, .slice pa np pc, .int .i64 o, .int .i64 N] w (BRes w 0 0 7) := by
  have q0 : ((np : Int) == 0) = false := beq_eq_false_iff_ne.2 (by omega)
  have q1 : ((np : Int) == 1) = false := beq_eq_false_iff_ne.2 (by omega)
  have q2 : ((np : Int) == 2) = false := beq_eq_false_iff_ne.2 (by omega)
  have hpos : (0 : Int) < (np : Int) := by omega
  have HFL := Lib.hid hfl
  clear h hfl
  have HM := Lib.hid hM
  obtain ⟨sz, hsz⟩ : ∃ z : Int, z = size := ⟨_, rfl⟩
  have dz : decide (0 < sz) = true := decide_eq_true (by omega)
  have HZ := Lib.hid hsz
  have HL := Lib.hid hl
  have HP := Lib.hid hp
  have HUP := Lib.hid hup
  have HUL := Lib.hid hul
  have HVL := Lib.hid (fun W (hb : Below w.heap.size w W) => valid_any la pa nl np lc pc l p o N W (hl.below hb) (hp.below hb) hul hup hnl hnp ho0 ho1 hN0 hN1)
  clear hM hs hsz hl hp hul hup
  have hmf : ∀ (fn : Fn) (first cap : Array Value) (w : World), (Instr.makeFunc fn first cap).run Try.prog w = .ok (.func fn first cap) w := fun _ _ _ _ => rfl
  go_enter_defers Try.func10, Try.ntmps10
  go_upto_region 2 with (fail)
  obtain ⟨W0, hW0⟩ : ∃ W0, W0 = (((w.alloc (.cells #[.pointer (some ⟨b, 0, none⟩)] 23)).alloc (.cells #[.int .u64 0] 31)).alloc (.cells #[.int .u64 0] 31)).alloc (.cells #[.int .i64 0] 32) := ⟨_, rfl⟩
  rw [← hW0]
  have S0 := Lib.hid (show BSt w (.pointer (some ⟨b, 0, none⟩)) 0 W0 by rw [hW0]; exact bst_start w _)
  clear hW0
  have c0 := S0.out.m
  go_upto_region 3 with (first
    | (go_at_call 13; refine (size_is b B size f L sz _ (HM.out.below S0.out.below) HZ.out).mono ?_; rintro e w' ⟨rfl, rfl⟩)
    | (go_at_call 27; (with_reducible refine (must1_ok' _ _ _ (by simp)).mono ?_); rintro e w' ⟨rfl, rfl⟩))
  have S1 := Lib.hid (S0.out.go ((Below.refl _ _).alloc (Nat.le_refl _) (.cells #[.bool true] 4)))
  obtain ⟨W1, hW1⟩ : ∃ z, z = W0.alloc (.cells #[.bool true] 4) := ⟨_, rfl⟩
  rw [← hW1] at S1 ⊢
  have HV1 := Lib.hid (HVL.out W1 S1.out.below)
  clear hW1 S0 HVL c0
  have HVA := Lib.hid hv
  clear hv
  have HV2 := Lib.hid (show Calls Try.prog 28 #[.slice la nl lc, .slice pa np pc, .int .i64 o, .int .i64 N] W1 fun e w' => e = .returned (.tuple #[]) ∧ Below W1.heap.size W1 w' from HV1.out.mono fun e w' h => by
    rcases h with ⟨⟨-, rfl⟩ | ⟨hno, -⟩, hb⟩
    · exact ⟨rfl, hb⟩
    · exact absurd HVA.out hno)
  clear HV1
  go_upto_region 4 with (go_at_call 28; refine HV2.out.mono ?_; rintro e w2 ⟨rfl, hb⟩; have S2 := Lib.hid (S1.out.go hb); clear hb)
  have s1 := S2.out.r1.cell (i := 0) (by omega)
  have f1 := S2.out.r1.frozen 0
  have s2 := S2.out.r2.cell (i := 0) (by omega)
  have f2 := S2.out.r2.frozen 0
  have s3 := S2.out.r3.cell (i := 0) (by omega)
  have f3 := S2.out.r3.frozen 0
  have ho0' := HVA.out.o0
  have ho1' := HVA.out.o1
  obtain ⟨g, oo, hpa, hc⟩ := HP.out (by omega)
  subst hpa
  have hg : g < w.heap.size := World.block_lt_of_cell? _ _ (hc 0 (by omega))
  have k0 := (S2.out.below.cell (p := ⟨g, oo + 0, none⟩) hg).trans (hc 0 (by omega))
  rw [Nat.add_zero] at k0
  have u0 := HUP.out 0 (by omega)
  have v0 := HVA.out.pg 0 (by omega)
  have HC := Lib.hid hc
  obtain ⟨p0, hp0⟩ : ∃ z, z = p 0 := ⟨_, rfl⟩
  rw [← hp0] at k0 u0 v0
  have HP0 := Lib.hid hp0
  have p00 := u0.1
  have p01 := u0.2
  have p0o : p0 + o ≤ 18446744073709551615 := by omega
  have V0 := Lib.hid v0
  clear hc hp0 v0 u0
  go_upto_region 12 with fail
  obtain ⟨W3, hW3⟩ : ∃ z, z = w2.setCell ⟨w.heap.size + 1, 0, none⟩ (.int .u64 (p0 + o)) := ⟨_, rfl⟩
  rw [← hW3]
  have S3 := Lib.hid (show BSt w (.pointer (some ⟨b, 0, none⟩)) (p0 + o) W3 by rw [hW3]; exact S2.out.set1 (p0 + o))
  have K3 := Lib.hid (show Keeps (One (w.heap.size + 1)) w2 W3 by rw [hW3]; exact (Keeps.refl _ _).set1 _ _)
  clear hW3 s1 f1 s2 f2 s3 f3 k0
  by_cases hn0 : nl = 0
  · have qn : decide (0 < (nl : Int)) = false := decide_eq_false (by omega)
    have qm : decide (0 < nl) = false := decide_eq_false (by omega)
    clear hn0
    go_wp2_with fail
    refine (must1_bad' _ _ _ (by first | rfl | simp)).mono ?_
    rintro e w' ⟨rfl, rfl⟩
    exact bl_bad' (S3.out.go ((Below.refl _ _).alloc (Nat.le_refl _) _)) rfl rfl rfl
  · have qn : decide (0 < (nl : Int)) = true := decide_eq_true (by omega)
    have qm : decide (0 < nl) = true := decide_eq_true (by omega)
    have qp : 0 < nl := by omega
    have hnp0 : (0 : Int) < (nl : Int) := by omega
    obtain ⟨gl, ol, hla, hcl⟩ := HL.out (by omega)
    subst hla
    have hgl : gl < w.heap.size := World.block_lt_of_cell? _ _ (hcl 0 (by omega))
    have l0 := (S3.out.below.cell (p := ⟨gl, ol + 0, none⟩) hgl).trans (hcl 0 (by omega))
    rw [Nat.add_zero] at l0
    have ul := HUL.out 0 (by omega)
    have hlt := HFL.out.resolve_left hn0
    obtain ⟨v, hv⟩ : ∃ z, z = l 0 := ⟨_, rfl⟩
    rw [← hv] at l0 ul hlt
    have ul0 := ul.1
    have ul1 := ul.2
    obtain ⟨K, hK⟩ : ∃ z, lstsP v np = z := ⟨_, rfl⟩
    rw [hK] at hlt
    have qk : decide (K ≤ (nl : Int)) = false := decide_eq_false (by omega)
    have HK := Lib.hid hK
    have HCL := Lib.hid hcl
    clear hK hcl ul hlt hn0 hv
    go_wp2_with (go_at_call 24; refine (lists_any v np K _ ul0 ul1 (by omega) (by omega) HK.out).mono ?_; rintro e w' ⟨rfl, rfl⟩)
    refine (must1_bad' _ _ _ (by first | rfl | simp)).mono ?_
    rintro e w' ⟨rfl, rfl⟩
    exact bl_bad' (S3.out.go ((Below.refl _ _).alloc (Nat.le_refl _) _)) rfl rfl rfl
end
end Go.Proofs.Ytfploifafpifnaa
