/- command: the names of the opcodes. -/
import Derived.Test.YtggdjadhenamiaaMp
namespace Go.Proofs.Ytggdjadhenamiaa
set_option linter.unusedVariables false
set_option linter.unusedSimpArgs false
open Go.RowKit

/-- The opcodes of a set and their names, in the order of the text. -/
def namesL : Bool → List (Int × List UInt8)
  | true => [(0, [100, 101, 108, 101, 116, 101, 115, 113]), (1, [99, 114, 101, 97, 116, 101, 115, 113]), (2, [103, 101, 116, 108, 111, 103]), (4, [100, 101, 108, 101, 116, 101, 99, 113]), (5, [99, 114, 101, 97, 116, 101, 99, 113]), (6, [105, 100, 101, 110, 116, 105, 102, 121]), (8, [97, 98, 111, 114, 116]), (9, [115, 101, 116, 102, 101, 97, 116, 117, 114, 101, 115]), (10, [103, 101, 116, 102, 101, 97, 116, 117, 114, 101, 115]), (12, [101, 118, 101, 110, 116]), (13, [110, 97, 109, 101, 115, 112, 97, 99, 101]), (16, [99, 111, 109, 109, 105, 116]), (17, [100, 111, 119, 110, 108, 111, 97, 100]), (21, [97, 116, 116, 97, 99, 104]), (24, [107, 101, 101, 112, 97, 108, 105, 118, 101]), (128, [102, 111, 114, 109, 97, 116]), (127, [102, 97, 98, 114, 105, 99, 115])]
  | false => [(0, [102, 108, 117, 115, 104]), (1, [119, 114, 105, 116, 101]), (2, [114, 101, 97, 100]), (4, [117, 110, 99, 111, 114, 114, 101, 99, 116, 97, 98, 108, 101]), (5, [99, 111, 109, 112, 97, 114, 101]), (8, [122, 101, 114, 111, 101, 115]), (9, [100, 97, 116, 97, 115, 101, 116]), (12, [118, 101, 114, 105, 102, 121]), (13, [114, 101, 103, 105, 115, 116, 101, 114]), (14, [114, 101, 112, 111, 114, 116]), (17, [97, 99, 113, 117, 105, 114, 101]), (21, [114, 101, 108, 101, 97, 115, 101]), (121, [122, 111, 110, 101, 115, 101, 110, 100]), (122, [122, 111, 110, 101, 114, 101, 99, 101, 105, 118, 101]), (125, [97, 112, 112, 101, 110, 100]), (127, [102, 97, 98, 114, 105, 99, 115])]
def strV (s : List UInt8) : Value := .string ⟨s.toArray⟩
def namesV (a : Bool) : List (Int × Value) := (namesL a).map fun p => (p.1, strV p.2)
/-- The opcodes of a set in order. -/
def codesL : Bool → List Int
  | true => [0, 1, 2, 4, 5, 6, 8, 9, 10, 12, 13, 16, 17, 21, 24, 127, 128]
  | false => [0, 1, 2, 4, 5, 8, 9, 12, 13, 14, 17, 21, 121, 122, 125, 127]
theorem codes_sorted (a : Bool) : (codesL a).Pairwise (· ≤ ·) := by cases a <;> decide
theorem codes_perm (a : Bool) : (codesL a).Perm ((namesV a).map (·.1)) := by
  have e : (namesV a).map (·.1) = (namesL a).map (·.1) := by unfold namesV; rw [List.map_map]; rfl
  rw [e]
  cases a <;> decide
/-- The name of an opcode. -/
def nameOf (a : Bool) (k : Int) : List UInt8 := (((namesL a).find? fun p => p.1 == k).map (·.2)).getD []
theorem nameOf_mem (a : Bool) (k : Int) (h : k ∈ codesL a) : (k, strV (nameOf a k)) ∈ namesV a := by
  have h2 : ∀ k ∈ codesL a, (k, nameOf a k) ∈ namesL a := by cases a <;> decide
  exact List.mem_map.2 ⟨_, h2 k h, rfl⟩
theorem nameOf_not (a : Bool) (k : Int) (h : k ∉ codesL a) : nameOf a k = [] ∧ k ∉ (namesV a).map (·.1) := by
  have h1 : k ∉ (namesV a).map (·.1) := fun hk => h ((codes_perm a).mem_iff.2 hk)
  refine ⟨?_, h1⟩
  have e : (namesV a).map (·.1) = (namesL a).map (·.1) := by unfold namesV; rw [List.map_map]; rfl
  rw [e] at h1
  unfold nameOf
  have : (namesL a).find? (fun p => p.1 == k) = none := by
    rw [List.find?_eq_none]
    intro p hp hpk
    exact h1 (List.mem_map.2 ⟨p, hp, by simpa using hpk⟩)
  rw [this]
  rfl

set_option maxRecDepth 100000 in
set_option maxHeartbeats 4000000 in
theorem names_any (a : Bool) (w : World) : Calls Try.prog 36 #[.bool a] w fun e w' => ∃ r, e = .returned (.map (some r)) ∧ w.heap.size ≤ r ∧ MapIs .u8 w' r (namesV a) ∧ Below w.heap.size w w' := by
  have hm0 : MapIs .u8 (w.alloc (.map #[] 0)) w.heap.size [] := MapIs.made w
  have HM := Lib.hid hm0
  have hk0 : Keeps (fun j => w.heap.size ≤ j) w (w.alloc (.map #[] 0)) := (Keeps.refl _ w).alloc _
  have HK := Lib.hid hk0
  have hmm := @run_makeMap Try.prog
  clear hm0 hk0
  go_enter Try.func36, Try.ntmps36
  cases a <;>
    (go_wp2_with ((with_reducible show wpList _ _ _ (⟨none, .insert _ _ _ _, _, _, _, _⟩ :: _) _ _); refine wpList_insert_mp rfl _ _ _ rfl Try.underlying84 Try.underlying5 HM.out _ _ rfl rfl rfl ?_ ?_; kernel_rfl; intro w' hm' hk'; replace HK := Lib.hid (HK.out.trans (hk'.mono (fun k _ e => by have e : k = w.heap.size := e; have := HK.out.size; omega))); replace HM := Lib.hid hm'; clear hm' hk')
     go_ret
     exact ⟨_, rfl, Nat.le_refl _, HM.out, HK.out.below (Nat.le_refl _) (fun k hk e => by omega)⟩)
end Go.Proofs.Ytggdjadhenamiaa
