/- prp: the plan of Build is the memory that is known. -/
import Derived.Test.YtfmabknhfehdcaaGreatZP24
import Derived.Test.YtfmabknhfehdcaaGreatZP20
import Derived.Test.YtfmabknhfehdcaaGreatZP21
import Derived.Test.YtfmabknhfehdcaaGreatZP12
import Derived.Test.YtfmabknhfehdcaaGreatZP13
import Derived.Test.YtfmabknhfehdcaaGreatZP18
namespace Go.Proofs.YtfmabknhfehdcaaGreat
set_option linter.unusedSimpArgs false
set_option linter.unusedVariables false
open Go.RowKit
end Go.Proofs.YtfmabknhfehdcaaGreat
namespace Go.Proofs.YtfmabknhfehdcaaGreat
set_option linter.unusedSimpArgs false
set_option linter.unusedVariables false
open Go.RowKit
theorem spans_all (x y n : Int) (b B size : Nat) (f : Nat → Int) (L : List (Nat × Nat)) (w : World) (hM : MemAt w b B size f L) (hs : 0 < size) (hx0 : 0 ≤ x) (hx1 : x ≤ 18446744073709551615) (hy0 : 0 ≤ y) (hy1 : y ≤ 18446744073709551615) (hby : Bytes f) :
  Calls Tryz.prog 87 #[.pointer (some ⟨b, 0, none⟩), .int .u64 x, .int .u64 y, .int .i64 n] w (SpPost w (spansP f size x y n)) := by
 by_cases h0 : n < 0 ∨ 1048576 < n
 ·have e : spansP f size x y n = .error 2 := by unfold spansP; rw [if_pos h0]
  rw [e]
  exact spans_arg x y n b B size f L w hM hs h0
 ·by_cases hz : n = 0
  ·have e : spansP f size x y n = .ok [] := by unfold spansP; rw [if_neg h0, if_pos hz]
   rw [e]
   exact spans_zero x y n b B size f L w hM hs hz
  ·exact spans_pos x y n b B size f L w hM hs hx0 hx1 hy0 hy1 hby (by omega) (by omega) _ rfl
theorem new4 (w : World) : Calls Tryz.prog 10 #[.int .i64 4] w fun e w' => ∃ b B, e = .returned (.tuple #[.pointer (some ⟨b, 0, none⟩), .int .i64 0]) ∧ w.heap.size ≤ b ∧ w.heap.size ≤ B ∧ Below w.heap.size w w' ∧ MemAt w' b B 16384 (fun _ => 0) [] := by
 have h := new_ok 4 w (by omega) (by omega)
 rw [show 4 * 4096 = 16384 by omega] at h
 exact h
/-- the pages of the examples -/
def wkP (i : Nat) : Int := if i = 1 then 4096 else if i = 2 then 8192 else if i = 3 then 4096 else 0
def wkF : Nat → Int := upd (fun _ => 0) 12272 16 (wB fun e => wkP (1 + e))
/-- The examples so far: nothing older is touched, the memory is there. -/
structure Wk (w : World) (b B : Nat) (f : Nat → Int) (L : List (Nat × Nat)) (W : World) : Prop where
 below : Below w.heap.size w W
 mem : MemAt W b B 16384 f L
theorem Wk.go {w : World} {b B : Nat} {f : Nat → Int} {L : List (Nat × Nat)} {W W' : World} (h : Wk w b B f L W) (hb : Below W.heap.size W W') : Wk w b B f L W' := ⟨h.below.trans (hb.mono h.below.size), h.mem.below hb⟩
end Go.Proofs.YtfmabknhfehdcaaGreat
namespace Go.Proofs.YtfmabknhfehdcaaGreat
set_option linter.unusedSimpArgs false
set_option linter.unusedVariables false
open Go.RowKit
theorem SpPost.lift {w w0 w' : World} {R : Except Int (List Spn)} {e : Ending} (hb : Below w.heap.size w w0) (h : SpPost w0 R e w') : SpPost w R e w' := by
 obtain ⟨h1, h2⟩ := h
 refine ⟨hb.trans (h1.mono hb.size), ?_⟩
 cases R with
 | error no => exact h2
 | ok l => obtain ⟨v, he, ho⟩ := h2; exact ⟨v, he, owns_less ho hb.size⟩
theorem SpPost.form {w w' : World} {R : Except Int (List Spn)} {e : Ending} (h : SpPost w R e w') : ∃ v no, e = .returned (.tuple #[v, .int .i64 no]) ∧ Below w.heap.size w w' := by
 obtain ⟨h1, h2⟩ := h
 cases R with
 | error no => exact ⟨_, _, h2, h1⟩
 | ok l => obtain ⟨v, he, ho⟩ := h2; exact ⟨_, _, he, h1⟩
/-- What the mover's spans leave. -/
def MsPost (w : World) (r : Except Int (List Spn)) (e : Ending) (w' : World) : Prop :=
 Below w.heap.size w w' ∧ match r with
 | .error c => e = .panicked [panT c]
 | .ok l => ∃ v, e = .returned v ∧ w'.ownsRow w.heap.size 65 3 v l.length (spC l)
section
variable (M C : Array Value) (d0 d1 n : Int) (th : Bool) (b B size : Nat) (f : Nat → Int) (L : List (Nat × Nat)) (w : World) (hV : Mv M (some ⟨b, 0, none⟩) C) (hM : MemAt w b B size f L) (hs : 0 < size) (hby : Bytes f)
 (g8 : C[8]? = some (.int .u64 d0)) (g9 : C[9]? = some (.int .u64 d1)) (h0 : 0 ≤ d0 ∧ d0 ≤ 18446744073709551615) (h1 : 0 ≤ d1 ∧ d1 ≤ 18446744073709551615)
include hV hM hs hby g8 g9 h0 h1
set_option maxRecDepth 100000 in
set_option maxHeartbeats 4000000 in
theorem tpages_any : Calls Tryz.prog 75 #[.agg M, .int .i64 n, .bool th] w (SpPost w (spansP f size d0 d1 n)) := by
 have HM := Lib.hid hM
 have HV := Lib.hid hV
 have HBY := Lib.hid hby
 have HS := Lib.hid hs
 obtain ⟨h00, h01⟩ := h0
 obtain ⟨h10, h11⟩ := h1
 have m9 := (HV.out.gs 8).trans g8
 have m10 := (HV.out.gs 9).trans g9
 obtain ⟨R, hR⟩ : ∃ R, R = spansP f size d0 d1 n := ⟨_, rfl⟩
 have HR := Lib.hid hR
 rw [← hR]
 clear hM hV hby hs g8 g9 hR
 go_enter Tryz.func75, Tryz.ntmps75
 go_upto_region 1 with fail
 obtain ⟨W0, hW0⟩ : ∃ W0, W0 = w.alloc (.cells M 96) := ⟨_, rfl⟩
 rw [← hW0]
 have AM := Lib.hid (show ArrAt W0 w.heap.size M by rw [hW0]; exact ArrAt.fresh w M _ (by rw [HV.out.size]; omega))
 have HB0 := Lib.hid (show Below w.heap.size w W0 by rw [hW0]; exact (Below.refl _ _).alloc (Nat.le_refl _) _)
 have c0 := AM.out.cell HV.out.g0
 have c9 := AM.out.cell m9
 have c10 := AM.out.cell m10
 clear hW0 m9 m10
 go_wp2_with (go_at_call 87; refine (spans_all d0 d1 n b B size f L _ (HM.out.below HB0.out) HS.out h00 h01 h10 h11 HBY.out).mono ?_; rw [← HR.out]; intro e w1 hp; have HP := Lib.hid (hp.lift HB0.out); obtain ⟨v, no, rfl, hb⟩ := hp.form; clear hb hp)
 go_ret2
 exact HP.out
set_option maxRecDepth 100000 in
set_option maxHeartbeats 4000000 in
theorem tlist_any : Calls Tryz.prog 76 #[.agg M, .int .i64 n, .bool th] w (SpPost w (if decE d1 = 0 then spansM f size (decD d0 d1) n th else .error (decE d1))) := by
 have HM := Lib.hid hM
 have HV := Lib.hid hV
 have HBY := Lib.hid hby
 have HS := Lib.hid hs
 have HOK := Lib.hid (decD_ok d0 d1 h0 h1)
 obtain ⟨h00, h01⟩ := h0
 obtain ⟨h10, h11⟩ := h1
 have m9 := (HV.out.gs 8).trans g8
 have m10 := (HV.out.gs 9).trans g9
 have HM9 := Lib.hid m9
 have HM10 := Lib.hid m10
 obtain ⟨D, hD⟩ : ∃ D, D = decD d0 d1 := ⟨_, rfl⟩
 obtain ⟨er, her⟩ : ∃ er, er = decE d1 := ⟨_, rfl⟩
 have HDE := Lib.hid fun w => decode_any d0 d1 w h10 h11
 rw [← hD, ← her] at HDE
 rw [← hD] at HOK
 rw [← hD, ← her]
 obtain ⟨A, hA⟩ : ∃ A, A = D.cells := ⟨_, rfl⟩
 have HA1 := Lib.hid (show A.all (·.oneCell') = true by rw [hA]; exact Dsc.one D)
 have HA4 := Lib.hid (show A.size = 4 by rw [hA]; rfl)
 have HAD := Lib.hid hA
 rw [← hA] at HDE
 clear hM hV hby hs g8 g9 hD m9 m10 hA her
 go_enter Tryz.func76, Tryz.ntmps76
 go_upto_region 1 with fail
 obtain ⟨W0, hW0⟩ : ∃ W0, W0 = w.alloc (.cells M 96) := ⟨_, rfl⟩
 rw [← hW0]
 have AM := Lib.hid (show ArrAt W0 w.heap.size M by rw [hW0]; exact ArrAt.fresh w M _ (by rw [HV.out.size]; omega))
 have HB0 := Lib.hid (show Below w.heap.size w W0 by rw [hW0]; exact (Below.refl _ _).alloc (Nat.le_refl _) _)
 have c0 := AM.out.cell HV.out.g0
 have HRG := Lib.hid (show W0.rangeAt w.heap.size 9 (#[Value.int .u64 d0, .int .u64 d1] : Array Value).toList from fun j v hv => by
  match j, hv with
  | 0, hv => simp at hv; subst hv; exact AM.out.cell HM9.out
  | 1, hv => simp at hv; subst hv; exact AM.out.cell HM10.out)
 clear hW0
 go_upto_region 2 with (first
  | ((with_reducible show wpList _ _ _ (⟨some 13, _, _, _, _, _⟩ :: _) _ _); refine wpList_loadR rfl HRG.out 25 (.tmp 12) rfl (by first | rfl | simp [Act.eval, Act.put]) Tryz.underlying25 rfl size2z ?_)
  | (go_at_call 88; refine (HDE.out _).mono ?_; rintro e w1 ⟨rfl, hb⟩; have HB1 := Lib.hid hb; have HF1 := Lib.hid (ArrAt.fresh w1 zDsc.cells 72 (by decide)); clear hb)
  | ((with_reducible show wpList _ _ _ (⟨some 8, _, _, _, _, _⟩ :: _) _ _); refine wpList_alloc rfl 72 rfl zeroD ?_; rw [show (Value.agg zDsc.cells).cells = zDsc.cells from rfl])
  | ((with_reducible show wpList _ _ _ (⟨none, .store _ _ _, _, _, _, _⟩ :: _) _ _); refine wpList_storeA rfl (b := w1.heap.size) (A := zDsc.cells) (A' := A) HF1.out 72 (.tmp 8) (.tmp 15) rfl (by simp [Act.eval, Act.put]) (by simp [Act.eval, Act.put]) sizeD HA4.out HA1.out ?_))
 obtain ⟨W2, hW2⟩ : ∃ z, z = (w1.alloc (.cells zDsc.cells 72)).setCells w1.heap.size 0 A.toList := ⟨_, rfl⟩
 rw [← hW2]
 obtain ⟨hb2, ha2⟩ := stored_at (y := w1) (T := 72) (Z := zDsc.cells) (A := A) (by decide) HA4.out hW2
 have HB2 := Lib.hid (HB1.out.trans (hb2.mono HB1.out.size))
 have HA2 := Lib.hid ha2
 have c0' : W2.cell? ⟨w.heap.size, 0, none⟩ = some (.pointer (some ⟨b, 0, none⟩)) := (HB2.out.cell (p := ⟨w.heap.size, 0, none⟩) AM.out.lt).trans c0
 clear hW2 hb2 ha2 c0
 by_cases hz : er = 0
 ·have qz : (er != 0) = false := by rw [hz]; rfl
  have HZ := Lib.hid hz
  clear hz
  have HAZ := Lib.hid (show (Tryz.prog.info? 72).map (·.size) = some A.size by rw [HA4.out]; exact sizeD)
  go_wp2_with (first
   | ((with_reducible show wpList _ _ _ (⟨some 22, _, _, _, _, _⟩ :: _) _ _); refine wpList_loadA rfl HA2.out 72 (.tmp 8) rfl (by first | rfl | simp [Act.eval, Act.put]) Tryz.underlying72 rfl HAZ.out ?_; rw [HAD.out])
   | (go_at_call 89; refine (spans_any D n th b B size f L _ (HM.out.below (HB0.out.trans (HB2.out.mono HB0.out.size))) HS.out HOK.out HBY.out).mono ?_; intro e w3 hp; have HP := Lib.hid (hp.lift (HB0.out.trans (HB2.out.mono HB0.out.size))); obtain ⟨v, no, rfl, hb⟩ := hp.form; clear hb hp))
  go_ret2
  try rw [if_pos HZ.out]
  exact HP.out
 ·have qz : (er != 0) = true := bne_iff_ne.2 hz
  have HZ := Lib.hid hz
  clear hz
  go_wp2_with fail
  go_ret2
  try rw [if_neg HZ.out]
  exact ⟨HB0.out.trans (HB2.out.mono HB0.out.size), rfl⟩
end
/-- the two ways to the spans -/
def kd (M : Array Value) : Array Value := #[.func (.func 75) #[.agg M] #[], .func (.func 76) #[.agg M] #[]]
def kd0 : Array Value := #[.nilFunc, .nilFunc]
theorem sizeKd : (Tryz.prog.info? 131).map (·.size) = some 2 := by kernel_rfl
theorem zeroKd (w : World) : (zeroValue 131).run Tryz.prog w = .ok (.agg kd0) w := by kernel_rfl
theorem buildKd (M : Array Value) (w : World) : (Instr.build 131 #[(0, .func (.func 75) #[.agg M] #[]), (1, .func (.func 76) #[.agg M] #[])]).run Tryz.prog w = .ok (.agg (kd M)) w := by kernel_rfl
theorem kd_one (M : Array Value) : (kd M).all (·.oneCell') = true := by simp [kd, Value.oneCell']
section
variable (M C : Array Value) (sgl : Bool) (d0 d1 n : Int) (th : Bool) (b B size : Nat) (f : Nat → Int) (L : List (Nat × Nat)) (w : World) (hV : Mv M (some ⟨b, 0, none⟩) C) (hM : MemAt w b B size f L) (hs : 0 < size) (hby : Bytes f)
 (g2 : C[2]? = some (.bool sgl)) (g8 : C[8]? = some (.int .u64 d0)) (g9 : C[9]? = some (.int .u64 d1)) (h0 : 0 ≤ d0 ∧ d0 ≤ 18446744073709551615) (h1 : 0 ≤ d1 ∧ d1 ≤ 18446744073709551615)
include hV hM hs hby g2 g8 g9 h0 h1
set_option maxRecDepth 100000 in
set_option maxHeartbeats 8000000 in
theorem tspans_any : Calls Tryz.prog 35 #[.agg M, .int .i64 n, .bool th] w (MsPost w (dataT f size sgl d0 d1 n th)) := by
 have HM := Lib.hid hM
 have HV := Lib.hid hV
 have HBY := Lib.hid hby
 have HS := Lib.hid hs
 have HG8 := Lib.hid g8
 have HG9 := Lib.hid g9
 have H0 := Lib.hid h0
 have H1 := Lib.hid h1
 have HM2 := Lib.hid ((HV.out.gs 2).trans g2)
 have HSZ := Lib.hid (show (Tryz.prog.info? 96).map (·.size) = some M.size by rw [HV.out.size]; exact sizeMv)
 clear hM hV hby hs g2 g8 g9 h0 h1
 obtain ⟨X, hX⟩ : ∃ X, X = dataT f size sgl d0 d1 n th := ⟨_, rfl⟩
 rw [← hX]
 have HX := Lib.hid hX
 clear hX
 have hmf : ∀ (fn : Fn) (first cap : Array Value) (w : World), (Instr.makeFunc fn first cap).run Tryz.prog w = .ok (.func fn first cap) w := fun _ _ _ _ => rfl
 go_enter Tryz.func35, Tryz.ntmps35
 go_upto_region 1 with fail
 obtain ⟨W0, hW0⟩ : ∃ W0, W0 = w.alloc (.cells M 96) := ⟨_, rfl⟩
 rw [← hW0]
 have AM := Lib.hid (show ArrAt W0 w.heap.size M by rw [hW0]; exact ArrAt.fresh w M _ (by rw [HV.out.size]; omega))
 have HB0 := Lib.hid (show Below w.heap.size w W0 by rw [hW0]; exact (Below.refl _ _).alloc (Nat.le_refl _) _)
 clear hW0
 by_cases hr : n < 0 ∨ 1048576 < n
 ·have HR := Lib.hid hr
  have hx : X = .error 2 := by rw [HX.out]; unfold dataT; rw [if_pos hr]
  subst hx
  clear hr
  go_wp2_with ((with_reducible show wpList _ _ _ (⟨some 9, _, _, _, _, _⟩ :: _) _ _); refine wpList_loadA rfl AM.out 96 (.tmp 3) rfl (by first | rfl | simp [Act.eval, Act.put]) Tryz.underlying96 rfl HSZ.out ?_)
  refine (tcheck_bad M C n b B size f L W0 HV.out (HM.out.below HB0.out) HS.out HR.out).mono ?_
  rintro e w' ⟨rfl, hb⟩
  exact ⟨rfl, HB0.out.trans (hb.mono HB0.out.size), rfl⟩
 ·have HR := Lib.hid hr
  obtain ⟨hn0, hn1⟩ : 0 ≤ n ∧ n ≤ 1048576 := by omega
  have HN0 := Lib.hid hn0
  have HN1 := Lib.hid hn1
  clear hr hn0 hn1
  go_upto_region 2 with (first
   | ((with_reducible show wpList _ _ _ (⟨some 9, _, _, _, _, _⟩ :: _) _ _); refine wpList_loadA rfl AM.out 96 (.tmp 3) rfl (by first | rfl | simp [Act.eval, Act.put]) Tryz.underlying96 rfl HSZ.out ?_)
   | (go_at_call 74; refine (tcheck_ok M C n b B size f L W0 HV.out (HM.out.below HB0.out) HS.out HN0.out HN1.out).mono ?_; rintro e w1 ⟨rfl, hb⟩; have HB1 := Lib.hid hb; have AM1 := Lib.hid (AM.out.below hb); have HF1 := Lib.hid (ArrAt.fresh w1 kd0 131 (by decide)); clear hb))
  go_upto_region 3 with (first
   | ((with_reducible show wpList _ _ _ (⟨some 12, _, _, _, _, _⟩ :: _) _ _); refine wpList_loadA rfl AM1.out 96 (.tmp 3) rfl (by first | rfl | simp [Act.eval, Act.put]) Tryz.underlying96 rfl HSZ.out ?_)
   | ((with_reducible show wpList _ _ _ (⟨some 14, _, _, _, _, _⟩ :: _) _ _); refine wpList_loadA rfl AM1.out 96 (.tmp 3) rfl (by first | rfl | simp [Act.eval, Act.put]) Tryz.underlying96 rfl HSZ.out ?_)
   | ((with_reducible show wpList _ _ _ (⟨some 16, _, _, _, _, _⟩ :: _) _ _); refine wpList_buildC rfl 131 #[(0, .tmp 13), (1, .tmp 15)] rfl #[(0, .func (.func 75) #[.agg M] #[]), (1, .func (.func 76) #[.agg M] #[])] (by simp [Act.eval, Act.put]) (buildKd M _) ?_)
   | ((with_reducible show wpList _ _ _ (⟨some 7, _, _, _, _, _⟩ :: _) _ _); refine wpList_alloc rfl 131 rfl zeroKd ?_; rw [show (Value.agg kd0).cells = kd0 from rfl])
   | ((with_reducible show wpList _ _ _ (⟨none, .store _ _ _, _, _, _, _⟩ :: _) _ _); refine wpList_storeA rfl (b := w1.heap.size) (A := kd0) (A' := kd M) HF1.out 131 (.tmp 7) (.tmp 16) rfl (by simp [Act.eval, Act.put]) (by simp [Act.eval, Act.put]) sizeKd rfl (kd_one M) ?_))
  obtain ⟨W2, hW2⟩ : ∃ z, z = (w1.alloc (.cells kd0 131)).setCells w1.heap.size 0 (kd M).toList := ⟨_, rfl⟩
  rw [← hW2]
  obtain ⟨hb2, ha2⟩ := stored_at (y := w1) (T := 131) (Z := kd0) (A := kd M) (by decide) rfl hW2
  have HB2 := Lib.hid ((HB0.out.trans (HB1.out.mono HB0.out.size)).trans (hb2.mono (by have := HB1.out.size; have := HB0.out.size; omega)))
  have AM2 := Lib.hid (AM1.out.below hb2)
  have k0 := ha2.cell (i := 0) (v := .func (.func 75) #[.agg M] #[]) rfl
  have k1 := ha2.cell (i := 1) (v := .func (.func 76) #[.agg M] #[]) rfl
  have c2 := AM2.out.cell HM2.out
  obtain ⟨kb, hkb⟩ : ∃ kb, kb = w1.heap.size := ⟨_, rfl⟩
  rw [← hkb] at k0 k1 ⊢
  have hdt : X = coded (spansT f size sgl d0 d1 n th) := by rw [HX.out]; unfold dataT; rw [if_neg HR.out]
  have HER := Lib.hid fun no (h : spansT f size sgl d0 d1 n th = .error no) => spansT_err h
  have HPC := Lib.hid (show sgl = false → Calls Tryz.prog 75 #[.agg M, .int .i64 n, .bool th] W2 (SpPost W2 (spansT f size sgl d0 d1 n th)) from fun h => by
   subst h
   exact tpages_any M C d0 d1 n th b B size f L W2 HV.out (HM.out.below HB2.out) HS.out HBY.out HG8.out HG9.out H0.out H1.out)
  have HLC := Lib.hid (show sgl = true → Calls Tryz.prog 76 #[.agg M, .int .i64 n, .bool th] W2 (SpPost W2 (spansT f size sgl d0 d1 n th)) from fun h => by
   subst h
   exact tlist_any M C d0 d1 n th b B size f L W2 HV.out (HM.out.below HB2.out) HS.out HBY.out HG8.out HG9.out H0.out H1.out)
  obtain ⟨R, hR⟩ : ∃ R, R = spansT f size sgl d0 d1 n th := ⟨_, rfl⟩
  rw [← hR] at HER HPC HLC hdt
  clear HX
  subst hdt
  clear hW2 hb2 ha2 hkb hR HM HR HN0 HN1 HF1
  have hwz := HB2.out.size
  cases sgl with
  | false =>
   have HPC' := Lib.hid (HPC.out rfl)
   clear HPC HLC
   cases R with
   | ok l =>
    go_wp2_with (first
     | ((with_reducible refine HPC'.out.mono ?_); rintro e w3 ⟨hb, v, rfl, ho⟩; have HB3 := Lib.hid hb; have HO := Lib.hid ho; clear hb ho)
     | (go_at_call 77; refine (tgotS_ok _ _).mono ?_; rintro e w4 ⟨rfl, hb⟩; have HB4 := Lib.hid hb; clear hb))
    go_ret
    exact ⟨HB2.out.trans ((HB3.out.mono hwz).trans (HB4.out.mono (by have := HB3.out.size; omega))), _, rfl, owns_less (ownsRow_keeps HO.out (Keeps.of_below (S := fun _ => False) HB4.out) (fun _ _ e => e)) hwz⟩
   | error no =>
    have q := beq_eq_false_iff_ne.2 (HER.out no rfl)
    go_wp2_with ((with_reducible refine HPC'.out.mono ?_); rintro e w3 ⟨hb, rfl⟩; have HB3 := Lib.hid hb; clear hb)
    refine (tgotS_bad _ _ _ no q rfl).mono ?_
    rintro e w4 ⟨rfl, hb⟩
    exact ⟨rfl, HB2.out.trans ((HB3.out.mono hwz).trans (hb.mono (by have := HB3.out.size; omega))), rfl⟩
  | true =>
   have HLC' := Lib.hid (HLC.out rfl)
   clear HPC HLC
   cases R with
   | ok l =>
    go_wp2_with (first
     | ((with_reducible refine HLC'.out.mono ?_); rintro e w3 ⟨hb, v, rfl, ho⟩; have HB3 := Lib.hid hb; have HO := Lib.hid ho; clear hb ho)
     | (go_at_call 77; refine (tgotS_ok _ _).mono ?_; rintro e w4 ⟨rfl, hb⟩; have HB4 := Lib.hid hb; clear hb))
    go_ret
    exact ⟨HB2.out.trans ((HB3.out.mono hwz).trans (HB4.out.mono (by have := HB3.out.size; omega))), _, rfl, owns_less (ownsRow_keeps HO.out (Keeps.of_below (S := fun _ => False) HB4.out) (fun _ _ e => e)) hwz⟩
   | error no =>
    have q := beq_eq_false_iff_ne.2 (HER.out no rfl)
    go_wp2_with ((with_reducible refine HLC'.out.mono ?_); rintro e w3 ⟨hb, rfl⟩; have HB3 := Lib.hid hb; clear hb)
    refine (tgotS_bad _ _ _ no q rfl).mono ?_
    rintro e w4 ⟨rfl, hb⟩
    exact ⟨rfl, HB2.out.trans ((HB3.out.mono hwz).trans (hb.mono (by have := HB3.out.size; omega))), rfl⟩
end
end Go.Proofs.YtfmabknhfehdcaaGreat
