/- transfer: the spans of a command's data, with a panic. -/
import Derived.Test.YtfmabknhfehdcaaZT22
import Derived.Test.YtfmabknhfehdcaaZT28
import Derived.Test.YtfmabknhfehdcaaZT15
import Derived.Deep.RegionHeld3
namespace Go.Proofs.Ytfmabknhfehdcaa
set_option linter.unusedVariables false
set_option linter.unusedSimpArgs false
open Go.RowKit

theorem SpPost.lift {w w0 w' : World} {R : Except Int (List Spn)} {e : Ending} (hb : Below w.heap.size w w0) (h : SpPost w0 R e w') : SpPost w R e w' := by
  obtain ⟨h1, h2⟩ := h
  refine ⟨hb.trans (h1.mono hb.size), ?_⟩
  cases R with
  | error no => exact h2
  | ok l => obtain ⟨v, he, ho⟩ := h2; exact ⟨v, he, owns_less ho hb.size⟩
theorem SpPost.form {w w' : World} {R : Except Int (List Spn)} {e : Ending} (h : SpPost w R e w') : ∃ v no, e = .returned (.tuple #[v, .int .i64 no]) ∧ Below w.heap.size w w' := by
  obtain ⟨h1, h2⟩ := h
  cases R with
  | error no => exact ⟨_, _, h2, h1⟩
  | ok l => obtain ⟨v, he, ho⟩ := h2; exact ⟨_, _, he, h1⟩
/-- What the mover's spans leave. -/
def MsPost (w : World) (r : Except Int (List Spn)) (e : Ending) (w' : World) : Prop :=
  Below w.heap.size w w' ∧ match r with
  | .error c => e = .panicked [panT c]
  | .ok l => ∃ v, e = .returned v ∧ w'.ownsRow w.heap.size 69 3 v l.length (spC l)
section
variable (M C : Array Value) (d0 d1 n : Int) (th : Bool) (b B size : Nat) (f : Nat → Int) (L : List (Nat × Nat)) (w : World) (hV : Mv M (some ⟨b, 0, none⟩) C) (hM : MemAt w b B size f L) (hs : 0 < size) (hby : Bytes f)
  (g8 : C[8]? = some (.int .u64 d0)) (g9 : C[9]? = some (.int .u64 d1)) (h0 : 0 ≤ d0 ∧ d0 ≤ 18446744073709551615) (h1 : 0 ≤ d1 ∧ d1 ≤ 18446744073709551615)
include hV hM hs hby g8 g9 h0 h1
set_option maxRecDepth 100000 in
set_option maxHeartbeats 4000000 in
theorem tpages_any : Calls Try.prog 80 #[.agg M, .int .i64 n, .bool th] w (SpPost w (spansP f size d0 d1 n)) := by
  have HM := Lib.hid hM
  have HV := Lib.hid hV
  have HBY := Lib.hid hby
  have HS := Lib.hid hs
  obtain ⟨h00, h01⟩ := h0
  obtain ⟨h10, h11⟩ := h1
  have m9 := (HV.out.gs 8).trans g8
  have m10 := (HV.out.gs 9).trans g9
  obtain ⟨R, hR⟩ : ∃ R, R = spansP f size d0 d1 n := ⟨_, rfl⟩
  have HR := Lib.hid hR
  rw [← hR]
  clear hM hV hby hs g8 g9 hR
  go_enter Try.func80, Try.ntmps80
  go_upto_region 1 with fail
  obtain ⟨W0, hW0⟩ : ∃ W0, W0 = w.alloc (.cells M 89) := ⟨_, rfl⟩
  rw [← hW0]
  have AM := Lib.hid (show ArrAt W0 w.heap.size M by rw [hW0]; exact ArrAt.fresh w M _ (by rw [HV.out.size]; omega))
  have HB0 := Lib.hid (show Below w.heap.size w W0 by rw [hW0]; exact (Below.refl _ _).alloc (Nat.le_refl _) _)
  have c0 := AM.out.cell HV.out.g0
  have c9 := AM.out.cell m9
  have c10 := AM.out.cell m10
  clear hW0 m9 m10
  go_wp2_with (go_at_call 92; refine (spans_all d0 d1 n b B size f L _ (HM.out.below HB0.out) HS.out h00 h01 h10 h11 HBY.out).mono ?_; rw [← HR.out]; intro e w1 hp; have HP := Lib.hid (hp.lift HB0.out); obtain ⟨v, no, rfl, hb⟩ := hp.form; clear hb hp)
  go_ret2
  exact HP.out
set_option maxRecDepth 100000 in
set_option maxHeartbeats 4000000 in
theorem tlist_any : Calls Try.prog 81 #[.agg M, .int .i64 n, .bool th] w (SpPost w (if decE d1 = 0 then spansM f size (decD d0 d1) n th else .error (decE d1))) := by
  have HM := Lib.hid hM
  have HV := Lib.hid hV
  have HBY := Lib.hid hby
  have HS := Lib.hid hs
  have HOK := Lib.hid (decD_ok d0 d1 h0 h1)
  obtain ⟨h00, h01⟩ := h0
  obtain ⟨h10, h11⟩ := h1
  have m9 := (HV.out.gs 8).trans g8
  have m10 := (HV.out.gs 9).trans g9
  have HM9 := Lib.hid m9
  have HM10 := Lib.hid m10
  obtain ⟨D, hD⟩ : ∃ D, D = decD d0 d1 := ⟨_, rfl⟩
  obtain ⟨er, her⟩ : ∃ er, er = decE d1 := ⟨_, rfl⟩
  have HDE := Lib.hid fun w => decode_any d0 d1 w h10 h11
  rw [← hD, ← her] at HDE
  rw [← hD] at HOK
  rw [← hD, ← her]
  obtain ⟨A, hA⟩ : ∃ A, A = D.cells := ⟨_, rfl⟩
  have HA1 := Lib.hid (show A.all (·.oneCell') = true by rw [hA]; exact Dsc.one D)
  have HA4 := Lib.hid (show A.size = 4 by rw [hA]; rfl)
  have HAD := Lib.hid hA
  rw [← hA] at HDE
  clear hM hV hby hs g8 g9 hD m9 m10 hA her
  go_enter Try.func81, Try.ntmps81
  go_upto_region 1 with fail
  obtain ⟨W0, hW0⟩ : ∃ W0, W0 = w.alloc (.cells M 89) := ⟨_, rfl⟩
  rw [← hW0]
  have AM := Lib.hid (show ArrAt W0 w.heap.size M by rw [hW0]; exact ArrAt.fresh w M _ (by rw [HV.out.size]; omega))
  have HB0 := Lib.hid (show Below w.heap.size w W0 by rw [hW0]; exact (Below.refl _ _).alloc (Nat.le_refl _) _)
  have c0 := AM.out.cell HV.out.g0
  have HRG := Lib.hid (show W0.rangeAt w.heap.size 9 (#[Value.int .u64 d0, .int .u64 d1] : Array Value).toList from fun j v hv => by
    match j, hv with
    | 0, hv => simp at hv; subst hv; exact AM.out.cell HM9.out
    | 1, hv => simp at hv; subst hv; exact AM.out.cell HM10.out)
  clear hW0
  go_upto_region 2 with (first
    | ((with_reducible show wpList _ _ _ (⟨some 13, _, _, _, _, _⟩ :: _) _ _); refine wpList_loadR rfl HRG.out 25 (.tmp 12) rfl (by first | rfl | simp [Act.eval, Act.put]) Try.underlying25 rfl size2z ?_)
    | (go_at_call 93; refine (HDE.out _).mono ?_; rintro e w1 ⟨rfl, hb⟩; have HB1 := Lib.hid hb; have HF1 := Lib.hid (ArrAt.fresh w1 zDsc.cells 66 (by decide)); clear hb)
    | ((with_reducible show wpList _ _ _ (⟨some 8, _, _, _, _, _⟩ :: _) _ _); refine wpList_alloc rfl 66 rfl zeroD ?_; rw [show (Value.agg zDsc.cells).cells = zDsc.cells from rfl])
    | ((with_reducible show wpList _ _ _ (⟨none, .store _ _ _, _, _, _, _⟩ :: _) _ _); refine wpList_storeA rfl (b := w1.heap.size) (A := zDsc.cells) (A' := A) HF1.out 66 (.tmp 8) (.tmp 15) rfl (by simp [Act.eval, Act.put]) (by simp [Act.eval, Act.put]) sizeD HA4.out HA1.out ?_))
  obtain ⟨W2, hW2⟩ : ∃ z, z = (w1.alloc (.cells zDsc.cells 66)).setCells w1.heap.size 0 A.toList := ⟨_, rfl⟩
  rw [← hW2]
  obtain ⟨hb2, ha2⟩ := stored_at (y := w1) (T := 66) (Z := zDsc.cells) (A := A) (by decide) HA4.out hW2
  have HB2 := Lib.hid (HB1.out.trans (hb2.mono HB1.out.size))
  have HA2 := Lib.hid ha2
  have c0' : W2.cell? ⟨w.heap.size, 0, none⟩ = some (.pointer (some ⟨b, 0, none⟩)) := (HB2.out.cell (p := ⟨w.heap.size, 0, none⟩) AM.out.lt).trans c0
  clear hW2 hb2 ha2 c0
  by_cases hz : er = 0
  · have qz : (er != 0) = false := by rw [hz]; rfl
    have HZ := Lib.hid hz
    clear hz
    have HAZ := Lib.hid (show (Try.prog.info? 66).map (·.size) = some A.size by rw [HA4.out]; exact sizeD)
    go_wp2_with (first
      | ((with_reducible show wpList _ _ _ (⟨some 22, _, _, _, _, _⟩ :: _) _ _); refine wpList_loadA rfl HA2.out 66 (.tmp 8) rfl (by first | rfl | simp [Act.eval, Act.put]) Try.underlying66 rfl HAZ.out ?_; rw [HAD.out])
      | (go_at_call 94; refine (spans_any D n th b B size f L _ (HM.out.below (HB0.out.trans (HB2.out.mono HB0.out.size))) HS.out HOK.out HBY.out).mono ?_; intro e w3 hp; have HP := Lib.hid (hp.lift (HB0.out.trans (HB2.out.mono HB0.out.size))); obtain ⟨v, no, rfl, hb⟩ := hp.form; clear hb hp))
    go_ret2
    try rw [if_pos HZ.out]
    exact HP.out
  · have qz : (er != 0) = true := bne_iff_ne.2 hz
    have HZ := Lib.hid hz
    clear hz
    go_wp2_with fail
    go_ret2
    try rw [if_neg HZ.out]
    exact ⟨HB0.out.trans (HB2.out.mono HB0.out.size), rfl⟩
end
/-- the two ways to the spans -/
def kd (M : Array Value) : Array Value := #[.func (.func 80) #[.agg M] #[], .func (.func 81) #[.agg M] #[]]
def kd0 : Array Value := #[.nilFunc, .nilFunc]
theorem sizeKd : (Try.prog.info? 137).map (·.size) = some 2 := by kernel_rfl
theorem zeroKd (w : World) : (zeroValue 137).run Try.prog w = .ok (.agg kd0) w := by kernel_rfl
theorem buildKd (M : Array Value) (w : World) : (Instr.build 137 #[(0, .func (.func 80) #[.agg M] #[]), (1, .func (.func 81) #[.agg M] #[])]).run Try.prog w = .ok (.agg (kd M)) w := by kernel_rfl
theorem kd_one (M : Array Value) : (kd M).all (·.oneCell') = true := by simp [kd, Value.oneCell']
section
variable (M C : Array Value) (sgl : Bool) (d0 d1 n : Int) (th : Bool) (b B size : Nat) (f : Nat → Int) (L : List (Nat × Nat)) (w : World) (hV : Mv M (some ⟨b, 0, none⟩) C) (hM : MemAt w b B size f L) (hs : 0 < size) (hby : Bytes f)
  (g2 : C[2]? = some (.bool sgl)) (g8 : C[8]? = some (.int .u64 d0)) (g9 : C[9]? = some (.int .u64 d1)) (h0 : 0 ≤ d0 ∧ d0 ≤ 18446744073709551615) (h1 : 0 ≤ d1 ∧ d1 ≤ 18446744073709551615)
include hV hM hs hby g2 g8 g9 h0 h1
set_option maxRecDepth 100000 in
set_option maxHeartbeats 8000000 in
theorem tspans_any : Calls Try.prog 46 #[.agg M, .int .i64 n, .bool th] w (MsPost w (dataT f size sgl d0 d1 n th)) := by
  have HM := Lib.hid hM
  have HV := Lib.hid hV
  have HBY := Lib.hid hby
  have HS := Lib.hid hs
  have HG8 := Lib.hid g8
  have HG9 := Lib.hid g9
  have H0 := Lib.hid h0
  have H1 := Lib.hid h1
  have HM2 := Lib.hid ((HV.out.gs 2).trans g2)
  have HSZ := Lib.hid (show (Try.prog.info? 89).map (·.size) = some M.size by rw [HV.out.size]; exact sizeMv)
  clear hM hV hby hs g2 g8 g9 h0 h1
  obtain ⟨X, hX⟩ : ∃ X, X = dataT f size sgl d0 d1 n th := ⟨_, rfl⟩
  rw [← hX]
  have HX := Lib.hid hX
  clear hX
  have hmf : ∀ (fn : Fn) (first cap : Array Value) (w : World), (Instr.makeFunc fn first cap).run Try.prog w = .ok (.func fn first cap) w := fun _ _ _ _ => rfl
  go_enter Try.func46, Try.ntmps46
  go_upto_region 1 with fail
  obtain ⟨W0, hW0⟩ : ∃ W0, W0 = w.alloc (.cells M 89) := ⟨_, rfl⟩
  rw [← hW0]
  have AM := Lib.hid (show ArrAt W0 w.heap.size M by rw [hW0]; exact ArrAt.fresh w M _ (by rw [HV.out.size]; omega))
  have HB0 := Lib.hid (show Below w.heap.size w W0 by rw [hW0]; exact (Below.refl _ _).alloc (Nat.le_refl _) _)
  clear hW0
  by_cases hr : n < 0 ∨ 1048576 < n
  · have HR := Lib.hid hr
    have hx : X = .error 2 := by rw [HX.out]; unfold dataT; rw [if_pos hr]
    subst hx
    clear hr
    go_wp2_with ((with_reducible show wpList _ _ _ (⟨some 9, _, _, _, _, _⟩ :: _) _ _); refine wpList_loadA rfl AM.out 89 (.tmp 3) rfl (by first | rfl | simp [Act.eval, Act.put]) Try.underlying89 rfl HSZ.out ?_)
    refine (tcheck_bad M C n b B size f L W0 HV.out (HM.out.below HB0.out) HS.out HR.out).mono ?_
    rintro e w' ⟨rfl, hb⟩
    exact ⟨rfl, HB0.out.trans (hb.mono HB0.out.size), rfl⟩
  · have HR := Lib.hid hr
    obtain ⟨hn0, hn1⟩ : 0 ≤ n ∧ n ≤ 1048576 := by omega
    have HN0 := Lib.hid hn0
    have HN1 := Lib.hid hn1
    clear hr hn0 hn1
    go_upto_region 2 with (first
      | ((with_reducible show wpList _ _ _ (⟨some 9, _, _, _, _, _⟩ :: _) _ _); refine wpList_loadA rfl AM.out 89 (.tmp 3) rfl (by first | rfl | simp [Act.eval, Act.put]) Try.underlying89 rfl HSZ.out ?_)
      | (go_at_call 55; refine (tcheck_ok M C n b B size f L W0 HV.out (HM.out.below HB0.out) HS.out HN0.out HN1.out).mono ?_; rintro e w1 ⟨rfl, hb⟩; have HB1 := Lib.hid hb; have AM1 := Lib.hid (AM.out.below hb); have HF1 := Lib.hid (ArrAt.fresh w1 kd0 137 (by decide)); clear hb))
    go_upto_region 3 with (first
      | ((with_reducible show wpList _ _ _ (⟨some 12, _, _, _, _, _⟩ :: _) _ _); refine wpList_loadA rfl AM1.out 89 (.tmp 3) rfl (by first | rfl | simp [Act.eval, Act.put]) Try.underlying89 rfl HSZ.out ?_)
      | ((with_reducible show wpList _ _ _ (⟨some 14, _, _, _, _, _⟩ :: _) _ _); refine wpList_loadA rfl AM1.out 89 (.tmp 3) rfl (by first | rfl | simp [Act.eval, Act.put]) Try.underlying89 rfl HSZ.out ?_)
      | ((with_reducible show wpList _ _ _ (⟨some 16, _, _, _, _, _⟩ :: _) _ _); refine wpList_buildC rfl 137 #[(0, .tmp 13), (1, .tmp 15)] rfl #[(0, .func (.func 80) #[.agg M] #[]), (1, .func (.func 81) #[.agg M] #[])] (by simp [Act.eval, Act.put]) (buildKd M _) ?_)
      | ((with_reducible show wpList _ _ _ (⟨some 7, _, _, _, _, _⟩ :: _) _ _); refine wpList_alloc rfl 137 rfl zeroKd ?_; rw [show (Value.agg kd0).cells = kd0 from rfl])
      | ((with_reducible show wpList _ _ _ (⟨none, .store _ _ _, _, _, _, _⟩ :: _) _ _); refine wpList_storeA rfl (b := w1.heap.size) (A := kd0) (A' := kd M) HF1.out 137 (.tmp 7) (.tmp 16) rfl (by simp [Act.eval, Act.put]) (by simp [Act.eval, Act.put]) sizeKd rfl (kd_one M) ?_))
    obtain ⟨W2, hW2⟩ : ∃ z, z = (w1.alloc (.cells kd0 137)).setCells w1.heap.size 0 (kd M).toList := ⟨_, rfl⟩
    rw [← hW2]
    obtain ⟨hb2, ha2⟩ := stored_at (y := w1) (T := 137) (Z := kd0) (A := kd M) (by decide) rfl hW2
    have HB2 := Lib.hid ((HB0.out.trans (HB1.out.mono HB0.out.size)).trans (hb2.mono (by have := HB1.out.size; have := HB0.out.size; omega)))
    have AM2 := Lib.hid (AM1.out.below hb2)
    have k0 := ha2.cell (i := 0) (v := .func (.func 80) #[.agg M] #[]) rfl
    have k1 := ha2.cell (i := 1) (v := .func (.func 81) #[.agg M] #[]) rfl
    have c2 := AM2.out.cell HM2.out
    obtain ⟨kb, hkb⟩ : ∃ kb, kb = w1.heap.size := ⟨_, rfl⟩
    rw [← hkb] at k0 k1 ⊢
    have hdt : X = coded (spansT f size sgl d0 d1 n th) := by rw [HX.out]; unfold dataT; rw [if_neg HR.out]
    have HER := Lib.hid fun no (h : spansT f size sgl d0 d1 n th = .error no) => spansT_err h
    have HPC := Lib.hid (show sgl = false → Calls Try.prog 80 #[.agg M, .int .i64 n, .bool th] W2 (SpPost W2 (spansT f size sgl d0 d1 n th)) from fun h => by
      subst h
      exact tpages_any M C d0 d1 n th b B size f L W2 HV.out (HM.out.below HB2.out) HS.out HBY.out HG8.out HG9.out H0.out H1.out)
    have HLC := Lib.hid (show sgl = true → Calls Try.prog 81 #[.agg M, .int .i64 n, .bool th] W2 (SpPost W2 (spansT f size sgl d0 d1 n th)) from fun h => by
      subst h
      exact tlist_any M C d0 d1 n th b B size f L W2 HV.out (HM.out.below HB2.out) HS.out HBY.out HG8.out HG9.out H0.out H1.out)
    obtain ⟨R, hR⟩ : ∃ R, R = spansT f size sgl d0 d1 n th := ⟨_, rfl⟩
    rw [← hR] at HER HPC HLC hdt
    clear HX
    subst hdt
    clear hW2 hb2 ha2 hkb hR HM HR HN0 HN1 HF1
    have hwz := HB2.out.size
    cases sgl with
    | false =>
      have HPC' := Lib.hid (HPC.out rfl)
      clear HPC HLC
      cases R with
      | ok l =>
        go_wp2_with (first
          | ((with_reducible refine HPC'.out.mono ?_); rintro e w3 ⟨hb, v, rfl, ho⟩; have HB3 := Lib.hid hb; have HO := Lib.hid ho; clear hb ho)
          | (go_at_call 82; refine (tgotS_ok _ _).mono ?_; rintro e w4 ⟨rfl, hb⟩; have HB4 := Lib.hid hb; clear hb))
        go_ret
        exact ⟨HB2.out.trans ((HB3.out.mono hwz).trans (HB4.out.mono (by have := HB3.out.size; omega))), _, rfl, owns_less (ownsRow_keeps HO.out (Keeps.of_below (S := fun _ => False) HB4.out) (fun _ _ e => e)) hwz⟩
      | error no =>
        have q := beq_eq_false_iff_ne.2 (HER.out no rfl)
        go_wp2_with ((with_reducible refine HPC'.out.mono ?_); rintro e w3 ⟨hb, rfl⟩; have HB3 := Lib.hid hb; clear hb)
        refine (tgotS_bad _ _ _ no q rfl).mono ?_
        rintro e w4 ⟨rfl, hb⟩
        exact ⟨rfl, HB2.out.trans ((HB3.out.mono hwz).trans (hb.mono (by have := HB3.out.size; omega))), rfl⟩
    | true =>
      have HLC' := Lib.hid (HLC.out rfl)
      clear HPC HLC
      cases R with
      | ok l =>
        go_wp2_with (first
          | ((with_reducible refine HLC'.out.mono ?_); rintro e w3 ⟨hb, v, rfl, ho⟩; have HB3 := Lib.hid hb; have HO := Lib.hid ho; clear hb ho)
          | (go_at_call 82; refine (tgotS_ok _ _).mono ?_; rintro e w4 ⟨rfl, hb⟩; have HB4 := Lib.hid hb; clear hb))
        go_ret
        exact ⟨HB2.out.trans ((HB3.out.mono hwz).trans (HB4.out.mono (by have := HB3.out.size; omega))), _, rfl, owns_less (ownsRow_keeps HO.out (Keeps.of_below (S := fun _ => False) HB4.out) (fun _ _ e => e)) hwz⟩
      | error no =>
        have q := beq_eq_false_iff_ne.2 (HER.out no rfl)
        go_wp2_with ((with_reducible refine HLC'.out.mono ?_); rintro e w3 ⟨hb, rfl⟩; have HB3 := Lib.hid hb; clear hb)
        refine (tgotS_bad _ _ _ no q rfl).mono ?_
        rintro e w4 ⟨rfl, hb⟩
        exact ⟨rfl, HB2.out.trans ((HB3.out.mono hwz).trans (hb.mono (by have := HB3.out.size; omega))), rfl⟩
end
end Go.Proofs.Ytfmabknhfehdcaa

namespace Go.Proofs.Ytfmabknhfehdcaa
open Go.RowKit

/-- the deferred call -/
def dfrT (sb f : Nat) (cs : Array Value) : Deferred := { target := .fn (.func 28) #[], args := #[.pointer (some ⟨sb, 0, none⟩), .func (.func f) #[] cs] }
theorem tl_bad {fn : Func} {R : Ending → World → Prop} {tmps : Array Value} {w : World} {f : Nat} {cs : Array Value} {sb : Nat} {S : Nat → Prop} {C C' : World → Prop} {code : Int}
    (hcl : Clears f cs S C C') (hC : ∀ b, Below w.heap.size w b → C b) (hst : ArrAt w sb st0) (hne : ¬ S sb) (hS : ∀ j, S j → j < w.heap.size) (hC' : ∀ a b, C' a → Keeps (One sb) a b → C' b)
    (hR : ∀ w', Keeps (fun j => S j ∨ j = sb) w w' → C' w' → ArrAt w' sb (stA code) → ∃ v, (results fn tmps).run Try.prog w' = .ok v w' ∧ R (.returned v) w') :
    bodyPostD Try.prog fn R (Exit.panic [panT code]) { tmps := tmps, defers := [dfrT sb f cs] } w := by
  show Leaves Try.prog fn tmps R [dfrT sb f cs] (.panicking [panT code]) w
  refine leaves_cons (f := 28) (args := #[.pointer (some ⟨sb, 0, none⟩), .func (.func f) #[] cs]) (by simp) (by simp [go_sem]) ?_
  refine (tcaught_panicking f cs S sb st0 C C' code w hcl hC hst rfl hne hS hC').mono ?_
  rintro e u' w'' ⟨rfl, rfl, hk, hc, hc2⟩
  show Leaves Try.prog fn tmps R [] .returning w''
  obtain ⟨v, h1, h2⟩ := hR w'' hk hc hc2
  exact ⟨v, h1, h2⟩
theorem tl_good {fn : Func} {R : Ending → World → Prop} {tmps : Array Value} {w : World} {f : Nat} {cs : Array Value} {sb : Nat} {v : Value} (h1 : (results fn tmps).run Try.prog w = .ok v w) (h2 : R (.returned v) w) :
    bodyPostD Try.prog fn R Exit.ret { tmps := tmps, defers := [dfrT sb f cs] } w := by
  show Leaves Try.prog fn tmps R [dfrT sb f cs] .returning w
  refine leaves_cons (f := 28) (args := #[.pointer (some ⟨sb, 0, none⟩), .func (.func f) #[] cs]) (by simp) (by simp [go_sem]) ?_
  refine (tcaught_idle _ _ w).mono ?_
  rintro e u' w'' ⟨rfl, rfl, rfl⟩
  show Leaves Try.prog fn tmps R [] .returning _
  exact ⟨v, h1, h2⟩
theorem results_vs {fn : Func} {p q : Tmp} {ty : TypeId} (h : fn.results = #[.cell p ty, .cell q 38]) {tmps : Array Value} {w : World} {b s : Nat} {v : Value} {A : Array Value} (hl : (loadVar ty ⟨b, 0, none⟩).run Try.prog w = .ok v w) (H : ArrAt w s A) (h4 : A.size = 4)
    (hp : tmps.getD p undef = .pointer (some ⟨b, 0, none⟩)) (hq : tmps.getD q undef = .pointer (some ⟨s, 0, none⟩)) : (results fn tmps).run Try.prog w = .ok (.tuple #[v, .agg A]) w := by
  have hp' : tmps[p]?.getD undef = .pointer (some ⟨b, 0, none⟩) := by simpa using hp
  have hq' : tmps[q]?.getD undef = .pointer (some ⟨s, 0, none⟩) := by simpa using hq
  have hl2 := H.loadVar (P := Try.prog) Try.underlying38 rfl (by rw [h4]; exact sizeSt)
  simp only [results, h]
  simp [Sem.run_bind, Result.andThen, hp', hq', asAddr, hl, hl2]
theorem results_st {fn : Func} {q : Tmp} (h : fn.results = #[.cell q 38]) {tmps : Array Value} {w : World} {s : Nat} {A : Array Value} (H : ArrAt w s A) (h4 : A.size = 4)
    (hq : tmps.getD q undef = .pointer (some ⟨s, 0, none⟩)) : (results fn tmps).run Try.prog w = .ok (.agg A) w := by
  have hq' : tmps[q]?.getD undef = .pointer (some ⟨s, 0, none⟩) := by simpa using hq
  have hl2 := H.loadVar (P := Try.prog) Try.underlying38 rfl (by rw [h4]; exact sizeSt)
  simp only [results, h]
  simp [Sem.run_bind, Result.andThen, hq', asAddr, hl2]
theorem load_spans {w : World} {b : Nat} {v : Value} (h : w.cell? ⟨b, 0, none⟩ = some v) : (loadVar 31 ⟨b, 0, none⟩).run Try.prog w = .ok v w := by simp [go_sem, h]
theorem load_bytes {w : World} {b : Nat} {v : Value} (h : w.cell? ⟨b, 0, none⟩ = some v) : (loadVar 29 ⟨b, 0, none⟩).run Try.prog w = .ok v w := by simp [go_sem, h]
theorem tclears_spans (cb : Nat) : Clears 51 #[.pointer (some ⟨cb, 0, none⟩)] (One cb) (SlCell cb) (fun w => w.cell? ⟨cb, 0, none⟩ = some (.slice none 0 0)) := by
  refine ⟨fun args w => by simp [go_sem], fun w h => ?_⟩
  obtain ⟨⟨v, hc⟩, hf⟩ := h
  go_enter Try.func51, Try.ntmps51
  go_wp2_with fail
  go_end0
  exact ⟨rfl, (Keeps.refl _ _).set1 _ _, World.cell?_setCell_same _ _ _ hc⟩
theorem ArrAt.sl {w : World} {b : Nat} {v : Value} (h : ArrAt w b #[v]) : SlCell b w := ⟨⟨v, h.cell (i := 0) rfl⟩, h.frozen h.pos⟩
/-- What lies in memory while Spans, Gather, GatherMeta run: the command, the result, the status. -/
structure TSt (w : World) (C : Array Value) (v : Value) (W : World) : Prop where
  below : Below w.heap.size w W
  c : ArrAt W w.heap.size C
  out : ArrAt W (w.heap.size + 1) #[v]
  st : ArrAt W (w.heap.size + 2) st0
namespace TSt
variable {w W W' : World} {C : Array Value} {v : Value}
theorem kept {S : Nat → Prop} (h : TSt w C v W) (k : Keeps S W W') (hS : ∀ j, j ≤ w.heap.size + 2 → ¬ S j) : TSt w C v W' :=
  ⟨h.below.trans (k.below h.below.size (fun j hj => hS j (by omega))), h.c.kept k (hS _ (by omega)), h.out.kept k (hS _ (by omega)), h.st.kept k (hS _ (by omega))⟩
theorem go (h : TSt w C v W) (hb : Below W.heap.size W W') : TSt w C v W' := h.kept (Keeps.of_below (S := fun _ => False) hb) (fun _ _ e => e)
theorem setOut (h : TSt w C v W) (u : Value) : TSt w C u (W.setCell ⟨w.heap.size + 1, 0, none⟩ u) := by
  have k : Keeps (One (w.heap.size + 1)) W (W.setCell ⟨w.heap.size + 1, 0, none⟩ u) := (Keeps.refl _ _).set1 _ _
  refine ⟨h.below.setCell (p := ⟨w.heap.size + 1, 0, none⟩) (by simp) _, h.c.kept k (fun e => by have e : w.heap.size = w.heap.size + 1 := e; omega), ?_, h.st.kept k (fun e => by have e : w.heap.size + 2 = w.heap.size + 1 := e; omega)⟩
  have := h.out.store #[u] rfl
  exact this
theorem setSt (h : TSt w C v W) : TSt w C v (W.setCells (w.heap.size + 2) 0 st0.toList) := by
  have k : Keeps (One (w.heap.size + 2)) W (W.setCells (w.heap.size + 2) 0 st0.toList) := Keeps.store (S := One (w.heap.size + 2)) (Keeps.refl _ _) (fun _ => rfl) _ _
  exact ⟨bstore h.below _ (by omega) _ _, h.c.kept k (fun e => by have e : w.heap.size = w.heap.size + 2 := e; omega), h.out.kept k (fun e => by have e : w.heap.size + 1 = w.heap.size + 2 := e; omega), h.st.store st0 rfl⟩
theorem start (w : World) (C : Array Value) (T T2 : TypeId) (h : 0 < C.size) : TSt w C (.slice none 0 0) (((w.alloc (.cells C T)).alloc (.cells #[.slice none 0 0] T2)).alloc (.cells st0 38)) := by
  refine ⟨(((Below.refl _ w).alloc (Nat.le_refl _) _).alloc (by simp) _).alloc (by simp; omega) _, ((ArrAt.fresh w C T h).alloc _).alloc _, ?_, ?_⟩
  · have := (ArrAt.fresh (w.alloc (.cells C T)) #[.slice none 0 0] T2 (by decide)).alloc (.cells st0 38)
    simpa using this
  · have := ArrAt.fresh ((w.alloc (.cells C T)).alloc (.cells #[.slice none 0 0] T2)) st0 38 (by decide)
    simpa using this
end TSt
theorem two_hi {n j : Nat} (h : j < n) (e : One (n + 1) j ∨ j = n + 2) : False := by
  rcases e with e | e
  · have e : j = n + 1 := e
    omega
  · omega
/-- What Spans leaves. -/
def TspPost (w : World) (r : Except Int (List Spn)) (e : Ending) (w' : World) : Prop :=
  Below w.heap.size w w' ∧ match r with
  | .error c => e = .returned (.tuple #[.slice none 0 0, .agg (stA c)])
  | .ok l => ∃ v, e = .returned (.tuple #[v, .agg st0]) ∧ w'.ownsRow w.heap.size 69 3 v l.length (spC l)
set_option maxRecDepth 100000 in
set_option maxHeartbeats 8000000 in
theorem trSpans_of (m : Option Addr) (C : Array Value) (n : Int) (th : Bool) (R : Except Int (List Spn)) (w : World) (h16 : C.size = 16)
    (hsp : ∀ W, Below w.heap.size w W → Calls Try.prog 46 #[.agg (#[.pointer m] ++ C), .int .i64 n, .bool th] W (MsPost W R)) :
    Calls Try.prog 24 #[.pointer m, .agg C, .int .i64 n, .bool th] w (TspPost w R) := by
  have HSP := Lib.hid hsp
  have H16 := Lib.hid h16
  have HCZ := Lib.hid (show (Try.prog.info? 28).map (·.size) = some C.size by rw [h16]; exact sizeCm)
  clear hsp h16
  have hmf : ∀ (fn : Fn) (first cap : Array Value) (w : World), (Instr.makeFunc fn first cap).run Try.prog w = .ok (.func fn first cap) w := fun _ _ _ _ => rfl
  go_enter_defers Try.func24, Try.ntmps24
  go_upto_region 2 with ((with_reducible show wpList _ _ _ (⟨some 9, _, _, _, _, _⟩ :: _) _ _); refine wpList_alloc rfl 38 rfl zeroSt ?_; rw [show (Value.agg st0).cells = st0 from rfl])
  obtain ⟨W0, hW0⟩ : ∃ W0, W0 = (((w.alloc (.cells C 28)).alloc (.cells #[.slice none 0 0] 31)).alloc (.cells st0 38)) := ⟨_, rfl⟩
  rw [← hW0]
  have S0 := Lib.hid (show TSt w C (.slice none 0 0) W0 by rw [hW0]; exact TSt.start w C _ _ (by rw [H16.out]; decide))
  clear hW0
  refine wp_pank (i := 8) (j := 9) (xi := .pointer (some ⟨w.heap.size + 1, 0, none⟩)) (xj := .pointer (some ⟨w.heap.size + 2, 0, none⟩)) (D := [dfrT (w.heap.size + 2) 51 #[.pointer (some ⟨w.heap.size + 1, 0, none⟩)]]) (ch := [panT (match R with | .error c => c | .ok _ => 0)]) (C := fun w' => (match R with | .error c => True | .ok _ => False) ∧ Below W0.heap.size W0 w') ?_ ?_
  · refine wp_region_held_drew (S := fun w' => ArrAt w' w.heap.size C ∧ ArrAt w' (w.heap.size + 2) st0) (by kernel_rfl) ⟨S0.out.c.drew, S0.out.st.drew⟩ (fun hS0 => ?_)
    refine takeD 11 (i := 0) (v := .pointer m) rfl rfl (by kernel_rfl) (by kernel_rfl) (by kernel_rfl) (fun _ _ _ h => PanK.put h (by decide) (by decide)) (Or.inl ⟨by rfl, by (intro w' _; go_simp)⟩) (by assumption) ?_
    try simp only [Act.put, List.setIfInBounds_toArray, List.set_cons_zero, List.set_cons_succ]
    refine takeD 12 (i := 1) (v := .agg C) rfl rfl (by kernel_rfl) (by kernel_rfl) (by kernel_rfl) (fun _ _ _ h => PanK.put h (by decide) (by decide)) (yieldsA (by rfl) 28 (.tmp 5) rfl (w.heap.size) (by first | rfl | simp [Act.eval, Act.put]) C (fun w h => h.1.rng) Try.underlying28 rfl HCZ.out) (by assumption) ?_
    try simp only [Act.put, List.setIfInBounds_toArray, List.set_cons_zero, List.set_cons_succ]
    refine takeD 13 (i := 2) (v := .agg (#[.pointer m] ++ C)) rfl rfl (by kernel_rfl) (by kernel_rfl) (by kernel_rfl) (fun _ _ _ h => PanK.put h (by decide) (by decide)) (Or.inl ⟨by rfl, by (intro w' _; exact run_exec_build2 89 0 1 (.tmp 11) (.tmp 12) rfl _ _ rfl rfl (buildMv m C H16.out _))⟩) (by assumption) ?_
    try simp only [Act.put, List.setIfInBounds_toArray, List.set_cons_zero, List.set_cons_succ]
    refine takeD 14 (i := 3) (v := .int .i64 n) rfl rfl (by kernel_rfl) (by kernel_rfl) (by kernel_rfl) (fun _ _ _ h => PanK.put h (by decide) (by decide)) (Or.inl ⟨by rfl, by (intro w' _; go_simp)⟩) (by assumption) ?_
    try simp only [Act.put, List.setIfInBounds_toArray, List.set_cons_zero, List.set_cons_succ]
    refine takeD 15 (i := 4) (v := .bool th) rfl rfl (by kernel_rfl) (by kernel_rfl) (by kernel_rfl) (fun _ _ _ h => PanK.put h (by decide) (by decide)) (Or.inl ⟨by rfl, by (intro w' _; go_simp)⟩) (by assumption) ?_
    try simp only [Act.put, List.setIfInBounds_toArray, List.set_cons_zero, List.set_cons_succ]
    refine takeD 17 (i := 6) (v := .agg st0) rfl rfl (by kernel_rfl) (by kernel_rfl) (by kernel_rfl) (fun _ _ _ h => PanK.put h (by decide) (by decide)) (yieldsA (by rfl) 38 (.tmp 9) rfl (w.heap.size + 2) (by first | rfl | simp [Act.eval, Act.put]) st0 (fun w h => h.2.rng) Try.underlying38 rfl sizeSt) (by assumption) ?_
    try simp only [Act.put, List.setIfInBounds_toArray, List.set_cons_zero, List.set_cons_succ]
    refine wpAnyH_ready (rs := [5]) (by kernel_rfl) (by simp) (AllReadyH.cons rfl (fun K hK => ?_) AllReadyH.nil)
    rw [if_pos (by rfl)]
    go_simp
    refine (HSP.out W0.drew S0.out.below.drew).mono ?_
    cases R with
    | error c =>
      rintro e w1 ⟨hb, rfl⟩
      exact ⟨rfl, rfl, rfl, rfl, trivial, (Below.refl _ _).drew.trans hb⟩
    | ok l =>
      rintro e w1 ⟨hb, v, rfl, ho⟩
      have hb' : Below W0.heap.size W0 w1 := (Below.refl _ _).drew.trans hb
      have S1 := Lib.hid (S0.out.go hb')
      have HO := Lib.hid (owns_less ho (show w.heap.size + 3 ≤ W0.drew.heap.size from S0.out.st.lt))
      refine hK.out _ _ ⟨S1.out.c, S1.out.st⟩ (fun hS0 => ?_)
      clear hK K hb hb' ho
      try simp only [Act.put, List.setIfInBounds_toArray, List.set_cons_zero, List.set_cons_succ]
      have hoo : ∀ (W W' : World) (S : Nat → Prop), W.ownsRow (w.heap.size + 3) 69 3 v l.length (spC l) → Keeps S W W' → (∀ j, S j → j < w.heap.size + 3) → W'.ownsRow (w.heap.size + 3) 69 3 v l.length (spC l) := fun W W' S h k hS => ownsRow_keeps h k (fun j hj e => by have := hS j e; omega)
      have k1 : ∀ W : World, Keeps (One (w.heap.size + 1)) W (W.setCell ⟨w.heap.size + 1, 0, none⟩ v) := fun W => (Keeps.refl _ _).set1 _ _
      have k2 : ∀ W : World, Keeps (One (w.heap.size + 2)) W (W.setCells (w.heap.size + 2) 0 st0.toList) := fun W => Keeps.store (S := One (w.heap.size + 2)) (Keeps.refl _ _) (fun _ => rfl) _ _
      have HOO := Lib.hid hoo
      have K1 := Lib.hid k1
      have K2 := Lib.hid k2
      clear hoo k1 k2
      obtain ⟨va, vm, vc, rfl⟩ := owns_slice HO.out
      refine wpAnyH_ready (rs := [7]) (by kernel_rfl) (by simp) (AllReadyH.cons rfl (fun K hK => ?_) AllReadyH.nil)
      rw [if_pos (by rfl)]
      obtain ⟨⟨u, hu⟩, hfu⟩ := S1.out.out.sl
      go_simp
      have S2 := Lib.hid (S1.out.setOut (.slice va vm vc))
      refine hK.out _ _ ⟨S2.out.c, S2.out.st⟩ (fun hS0 => ?_)
      clear hK K hu hfu
      try simp only [Act.put, List.setIfInBounds_toArray, List.set_cons_zero, List.set_cons_succ]
      refine wpAnyH_ready (rs := [8]) (by kernel_rfl) (by simp) (AllReadyH.cons rfl (fun K hK => ?_) AllReadyH.nil)
      rw [if_pos (by rfl)]
      refine wp_storeN 38 (.tmp 9) (.tmp 17) rfl rfl (w.heap.size + 2) 0 st0 (by first | rfl | simp [Act.eval, Act.put]) (by first | rfl | simp [Act.eval, Act.put]) S2.out.st.th sizeSt st0_one ?_
      have S3 := Lib.hid S2.out.setSt
      have HO3 := Lib.hid (HOO.out _ _ _ (HOO.out _ _ _ HO.out (K1.out w1) (fun j e => by have e : j = w.heap.size + 1 := e; omega)) (K2.out _) (fun j e => by have e : j = w.heap.size + 2 := e; omega))
      refine hK.out _ _ ⟨S3.out.c, S3.out.st⟩ (fun hS0 => ?_)
      clear hK K
      try simp only [Act.put, List.setIfInBounds_toArray, List.set_cons_zero, List.set_cons_succ]
      refine wpAnyH_done (by kernel_rfl) ?_ _
      refine PanK.fin ?_
      go_wp2_with fail
      exact tl_good (results_vs Try.results24 (load_spans (S3.out.out.cell (i := 0) rfl)) S3.out.st rfl rfl rfl) ⟨S3.out.below, _, rfl, owns_less HO3.out (by omega)⟩
  · intro tmps w' h8 h9 hw
    cases R with
    | ok l => exact hw.1.elim
    | error c =>
      have S1 := S0.out.go hw.2
      refine tl_bad (S := One (w.heap.size + 1)) (tclears_spans (w.heap.size + 1)) (fun b hb => (S1.go hb).out.sl) S1.st (fun e => by have e : w.heap.size + 2 = w.heap.size + 1 := e; omega) (fun j hj => by have hj : j = w.heap.size + 1 := hj; have := S1.out.lt; omega) (fun a b ha hk => hk.cell ha (fun e => by have e : w.heap.size + 1 = w.heap.size + 2 := e; omega)) ?_
      intro w2 hk hc hst
      exact ⟨_, results_vs Try.results24 (load_spans hc) hst rfl h8 h9, S1.below.trans (hk.below (B := w.heap.size) S1.below.size (fun j hj e => two_hi hj e)), rfl⟩
end Go.Proofs.Ytfmabknhfehdcaa
