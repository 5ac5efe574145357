/- sgl: caught: what a panic with an error leaves. -/
import Derived.Test.YtcljbmkdflkeeaaSM
import Derived.Defers
import Derived.Recover
namespace Go.Proofs.Ytcljbmkdflkeeaa
set_option linter.unusedVariables false
set_option linter.unusedSimpArgs false
open Go.RowKit

/-- what clears the result, and what lies there then -/
structure Clears (f : Nat) (cb : Nat) (C C' : World → Prop) : Prop where
  enter : ∀ args w, (callFunc f args).run Try.prog w = .ok (.enter f args) w
  call : ∀ w, C w → Calls Try.prog f #[.pointer (some ⟨cb, 0, none⟩)] w fun e w' => e = .returned (.tuple #[]) ∧ Keeps (One cb) w w' ∧ C' w'

set_option maxRecDepth 100000 in
set_option maxHeartbeats 4000000 in
theorem caught_panicking (f cb eb : Nat) (C C' : World → Prop) (x no : Int) (w : World) (hcl : Clears f cb C C') (hC : C w) (he : w.cell? ⟨eb, 0, none⟩ = some (.int .i64 x)) (hz : w.frozen? ⟨eb, 0, none⟩ = false) (hne : eb ≠ cb)
    (hC' : ∀ a b, C' a → Keeps (One eb) a b → C' b) :
    CallsD Try.prog 40 #[.pointer (some ⟨eb, 0, none⟩), .func (.func f) #[] #[.pointer (some ⟨cb, 0, none⟩)]] (.panicking [pan no]) w fun e u' w' =>
      e = .returned (.tuple #[]) ∧ u' = .panicking [{ pan no with recovered := true }] ∧ Keeps (Two cb eb) w w' ∧ C' w' ∧ w'.cell? ⟨eb, 0, none⟩ = some (.int .i64 no) := by
  have HCL := Lib.hid hcl
  have HC := Lib.hid hC
  have HC' := Lib.hid hC'
  have HE := Lib.hid he
  have HZ := Lib.hid hz
  unfold pan
  refine callsD_of_wpS Try.func40 rfl fun c₀ cs hu => ?_
  apply wpS_seq
  apply wpS_region
  simp [wpOpsS, go_sem, recoverD, hu, Try.ntmps40, Exit.thenS]
  refine wpS_of_wp ?_
  have HU := Lib.hid hu
  clear hcl hC hC' he hz hu
  generalize hq : (bodyPostS Try.prog Try.f40 c₀ cs _) = Q
  have HQ := Lib.hid hq
  clear hq
  have hfr : (#[Value.pointer (some ⟨eb, 0, none⟩), Value.func (.func f) #[] #[.pointer (some ⟨cb, 0, none⟩)]] ++ ((Array.replicate 21 undef).setIfInBounds 5 (Value.iface 28 (.int .i64 no))).setIfInBounds 2 (Value.iface 28 (.int .i64 no)) : Array Value) = #[.pointer (some ⟨eb, 0, none⟩), .func (.func f) #[] #[.pointer (some ⟨cb, 0, none⟩)], undef, undef, .iface 28 (.int .i64 no), undef, undef, .iface 28 (.int .i64 no), undef, undef, undef, undef, undef, undef, undef, undef, undef, undef, undef, undef, undef, undef, undef] := by kernel_rfl
  rw [hfr]
  clear hfr
  go_upto_region 2 with (fail)
  have hta : ∀ w, (Instr.typeAssert (.iface 28 (.int .i64 no)) 20 28 true).run Try.prog w = .ok (.tuple #[.int .i64 no, .bool true]) w := fun w => by kernel_rfl
  go_upto_region 3 with (fail)
  go_upto_region 5 with (fail)
  have hen := HCL.out.enter
  have hcall := Lib.hid (HCL.out.call w HC.out)
  go_upto_region 6 with ((with_reducible refine hcall.out.mono ?_); rintro e w1 ⟨rfl, hk, hc1⟩)
  have he1 := hk.cell HE.out (fun e => by have e : eb = cb := e; omega)
  have hz1 : w1.frozen? ⟨eb, 0, none⟩ = false := (World.frozen?_of_block (w := w) (hk.block eb (World.block_lt_of_cell? _ _ HE.out) (fun e => by have e : eb = cb := e; omega))).trans HZ.out
  have HK := Lib.hid hk
  have HC1 := Lib.hid hc1
  clear hk hc1 hen hcall
  go_wp2_with fail
  rw [← HQ.out]
  refine ⟨rfl, _, rfl, .tuple #[], ?_, rfl, rfl, HK.out.two1.trans ((Keeps.refl (One eb) w1).set1 0 (.int .i64 no)).two2, HC'.out _ _ HC1.out ((Keeps.refl (One eb) w1).set1 0 (.int .i64 no)), World.cell?_setCell_same _ _ _ he1⟩
  simp [results, Try.results40]

theorem caught_idle (u v : Value) (w : World) :
    CallsD Try.prog 40 #[u, v] .returning w fun e u' w' => e = .returned (.tuple #[]) ∧ u' = .returning ∧ w' = w := by
  refine callsD_of_wpS Try.func40 rfl fun c₀ cs hu => ?_
  apply wpS_seq
  apply wpS_region
  simp [wpOpsS, go_sem, recoverD, hu, Try.ntmps40, Exit.thenS]
  apply wpS_seq
  apply wpS_region
  simp [wpOpsS, go_sem, recoverD, hu, Try.ntmps40, Exit.thenS]
  refine wpS_cond (t := false) (by simp [Act.eval, Array.replicate]) ?_
  simp only [Bool.false_eq_true, if_false]
  refine wpS_of_wp (wp_skip ?_)
  cases c₀
  simp_all [bodyPostS, results, Try.results40]

/-- the spans cleared -/
theorem clears_spans (cb : Nat) : Clears 57 cb (fun w => (∃ v, w.cell? ⟨cb, 0, none⟩ = some v) ∧ w.frozen? ⟨cb, 0, none⟩ = false) (fun w => w.cell? ⟨cb, 0, none⟩ = some (.slice none 0 0)) := by
  refine ⟨fun args w => by simp [go_sem], fun w h => ?_⟩
  obtain ⟨⟨v, hc⟩, hf⟩ := h
  go_enter Try.func57, Try.ntmps57
  go_wp2_with fail
  go_end0
  exact ⟨rfl, (Keeps.refl _ _).set1 _ _, World.cell?_setCell_same _ _ _ hc⟩
/-- the descriptor cleared -/
theorem clears_build (cb : Nat) : Clears 41 cb (fun w => ∃ d : Dsc, ArrAt w cb d.cells) (fun w => ArrAt w cb zDsc.cells) := by
  refine ⟨fun args w => by simp [go_sem], fun w h => ?_⟩
  obtain ⟨d, ha⟩ := h
  have HA := Lib.hid ha
  clear ha
  go_enter Try.func41, Try.ntmps41
  go_wp2_with (first
    | ((with_reducible show wpList _ _ _ (⟨some _, .build _ _, _, _, _, _⟩ :: _) _ _); refine wpList_build0 rfl 26 rfl (buildDz _) ?_)
    | ((with_reducible show wpList _ _ _ (⟨none, .store _ (.tmp 0) _, _, _, _, _⟩ :: _) _ _); refine wpList_storeA rfl (b := cb) (A := d.cells) (A' := zDsc.cells) HA.out 26 (.tmp 0) _ rfl (by simp [Act.eval, Act.put]) (by simp [Act.eval, Act.put]) (sizeDs _) rfl (Dsc.one _) ?_))
  go_end0
  exact ⟨rfl, Keeps.setCells _ (Keeps.refl _ _) _, HA.out.store zDsc.cells rfl⟩
end Go.Proofs.Ytcljbmkdflkeeaa
