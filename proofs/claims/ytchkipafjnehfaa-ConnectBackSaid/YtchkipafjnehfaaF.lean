/- connect: the layouts of the kinds. -/
import Derived.Test.YtchkipafjnehfaaW
import Derived.Test.YtchkipafjnehfaaMap
import Derived.Laws.EntriesVeiled
namespace Go.Proofs.Ytchkipafjnehfaa
set_option linter.unusedVariables false
set_option linter.unusedSimpArgs false
open Go.RowKit

/-- A layout: its two functions. -/
def lay (a b : Nat) : Value := .agg #[.func (.func a) #[] #[], .func (.func b) #[] #[]]
/-- the entries of the layouts -/
def layEs : Array MapEntry := #[⟨.int .u8 0, lay 55 57, 0⟩, ⟨.int .u8 1, lay 59 60, 1⟩, ⟨.int .u8 4, lay 56 58, 2⟩,
  ⟨.int .u8 5, lay 53 54, 3⟩, ⟨.int .u8 6, lay 53 54, 4⟩, ⟨.int .u8 8, lay 61 62, 5⟩]

set_option maxRecDepth 100000 in
set_option maxHeartbeats 1000000 in
theorem layouts_any (w : World) : Calls Try.prog 39 #[] w fun e w' => ∃ mb, e = .returned (.map (some mb)) ∧ w'.heap[mb]? = some (.map layEs 6) ∧ w.heap.size ≤ mb ∧ Below w.heap.size w w' := by
  have hmm := @run_makeMap Try.prog
  have e1 : (w.alloc (.cells #[.func (.func 53) #[] #[], .func (.func 54) #[] #[]] 90)).heap.size = w.heap.size + 1 := by simp
  have hm : ((w.alloc (.cells #[.func (.func 53) #[] #[], .func (.func 54) #[] #[]] 90)).alloc (.map #[] 0)).heap[w.heap.size + 1]? = some (.map #[] 0) := by
    have := heap_alloc_new (w.alloc (.cells #[.func (.func 53) #[] #[], .func (.func 54) #[] #[]] 90)) (.map #[] 0)
    rw [e1] at this
    exact this
  have hc0 : ((w.alloc (.cells #[.func (.func 53) #[] #[], .func (.func 54) #[] #[]] 90)).alloc (.map #[] 0)).cell? ⟨w.heap.size, 0, none⟩ = some (.func (.func 53) #[] #[]) := by go_simp
  have hc1 : ((w.alloc (.cells #[.func (.func 53) #[] #[], .func (.func 54) #[] #[]] 90)).alloc (.map #[] 0)).cell? ⟨w.heap.size, 1, none⟩ = some (.func (.func 54) #[] #[]) := by go_simp
  have hb : Below w.heap.size w ((w.alloc (.cells #[.func (.func 53) #[] #[], .func (.func 54) #[] #[]] 90)).alloc (.map #[] 0)) := ((Below.refl _ _).alloc (Nat.le_refl _) _).alloc (by simp) _
  have hne : ¬ One (w.heap.size + 1) w.heap.size := fun e => by have e : w.heap.size = w.heap.size + 1 := e; omega
  have HM := Lib.hid hm
  have HC0 := Lib.hid hc0
  have HC1 := Lib.hid hc1
  have HB := Lib.hid hb
  clear hm hc0 hc1 hb e1
  go_enter Try.func39, Try.ntmps39
  go_wp2_with ((with_reducible show wpList _ _ _ (⟨none, .insert _ _ _ _, _, _, _, _⟩ :: _) _ _); refine wpList_insert_new rfl _ _ _ rfl Try.underlying91 Try.underlying39 HM.out _ _ rfl rfl rfl rfl ?_; intro w' hm' hk'; replace HC0 := Lib.hid (hk'.cell HC0.out hne); replace HC1 := Lib.hid (hk'.cell HC1.out hne); replace HB := Lib.hid (HB.out.trans (hk'.below (B := w.heap.size) HB.out.size (fun k hk e => by have e : k = w.heap.size + 1 := e; omega))); replace HM := Lib.hid hm'; have c0 := HC0.out; have c1 := HC1.out; clear hk' hm')
  go_ret
  exact ⟨_, rfl, HM.out, by omega, HB.out⟩
end Go.Proofs.Ytchkipafjnehfaa
