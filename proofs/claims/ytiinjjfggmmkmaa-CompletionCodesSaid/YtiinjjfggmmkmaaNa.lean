/- completion: the names of the codes. -/
import Derived.Test.YtiinjjfggmmkmaaMC
namespace Go.Proofs.Ytiinjjfggmmkmaa
set_option linter.unusedVariables false
set_option linter.unusedSimpArgs false
open Go.RowKit

/-- The listed codes and their names, in the order of the text. -/
def baseL : List (Int × List UInt8) := [(640, [119, 114, 105, 116, 101, 32, 102, 97, 117, 108, 116]), (641, [117, 110, 114, 101, 99, 111, 118, 101, 114, 101, 100, 32, 114, 101, 97, 100, 32, 101, 114, 114, 111, 114]), (642, [103, 117, 97, 114, 100, 32, 99, 104, 101, 99, 107, 32, 101, 114, 114, 111, 114]), (643, [97, 112, 112, 108, 105, 99, 97, 116, 105, 111, 110, 32, 116, 97, 103, 32, 99, 104, 101, 99, 107, 32, 101, 114, 114, 111, 114]), (644, [114, 101, 102, 101, 114, 101, 110, 99, 101, 32, 116, 97, 103, 32, 99, 104, 101, 99, 107, 32, 101, 114, 114, 111, 114]), (645, [99, 111, 109, 112, 97, 114, 101, 32, 102, 97, 105, 108, 117, 114, 101]), (646, [97, 99, 99, 101, 115, 115, 32, 100, 101, 110, 105, 101, 100]), (647, [117, 110, 119, 114, 105, 116, 116, 101, 110, 32, 98, 108, 111, 99, 107]), (768, [105, 110, 116, 101, 114, 110, 97, 108, 32, 112, 97, 116, 104, 32, 101, 114, 114, 111, 114]), (769, [112, 101, 114, 115, 105, 115, 116, 101, 110, 116, 32, 108, 111, 115, 115, 32, 111, 102, 32, 97, 99, 99, 101, 115, 115]), (770, [97, 99, 99, 101, 115, 115, 32, 105, 110, 97, 99, 99, 101, 115, 115, 105, 98, 108, 101]), (771, [97, 99, 99, 101, 115, 115, 32, 116, 114, 97, 110, 115, 105, 116, 105, 111, 110]), (880, [104, 111, 115, 116, 32, 112, 97, 116, 104, 32, 101, 114, 114, 111, 114]), (881, [99, 111, 109, 109, 97, 110, 100, 32, 97, 98, 111, 114, 116, 101, 100, 32, 98, 121, 32, 104, 111, 115, 116])]
def genericL : List (Int × List UInt8) := [(0, [115, 117, 99, 99, 101, 115, 115]), (1, [105, 110, 118, 97, 108, 105, 100, 32, 111, 112, 99, 111, 100, 101]), (2, [105, 110, 118, 97, 108, 105, 100, 32, 102, 105, 101, 108, 100]), (3, [105, 100, 101, 110, 116, 105, 102, 105, 101, 114, 32, 99, 111, 110, 102, 108, 105, 99, 116]), (4, [100, 97, 116, 97, 32, 116, 114, 97, 110, 115, 102, 101, 114, 32, 101, 114, 114, 111, 114]), (5, [97, 98, 111, 114, 116, 32, 98, 121, 32, 112, 111, 119, 101, 114, 32, 108, 111, 115, 115]), (6, [105, 110, 116, 101, 114, 110, 97, 108, 32, 101, 114, 114, 111, 114]), (7, [97, 98, 111, 114, 116, 32, 114, 101, 113, 117, 101, 115, 116, 101, 100]), (8, [113, 117, 101, 117, 101, 32, 100, 101, 108, 101, 116, 101, 100]), (9, [102, 117, 115, 101, 100, 32, 99, 111, 109, 109, 97, 110, 100, 32, 102, 97, 105, 108, 101, 100]), (10, [102, 117, 115, 101, 100, 32, 99, 111, 109, 109, 97, 110, 100, 32, 109, 105, 115, 115, 105, 110, 103]), (11, [105, 110, 118, 97, 108, 105, 100, 32, 110, 97, 109, 101, 115, 112, 97, 99, 101]), (12, [99, 111, 109, 109, 97, 110, 100, 32, 115, 101, 113, 117, 101, 110, 99, 101, 32, 101, 114, 114, 111, 114]), (13, [105, 110, 118, 97, 108, 105, 100, 32, 115, 101, 103, 109, 101, 110, 116, 32, 100, 101, 115, 99, 114, 105, 112, 116, 111, 114]), (14, [105, 110, 118, 97, 108, 105, 100, 32, 110, 117, 109, 98, 101, 114, 32, 111, 102, 32, 100, 101, 115, 99, 114, 105, 112, 116, 111, 114, 115]), (15, [105, 110, 118, 97, 108, 105, 100, 32, 100, 97, 116, 97, 32, 108, 101, 110, 103, 116, 104]), (16, [105, 110, 118, 97, 108, 105, 100, 32, 109, 101, 116, 97, 100, 97, 116, 97, 32, 108, 101, 110, 103, 116, 104]), (17, [105, 110, 118, 97, 108, 105, 100, 32, 100, 101, 115, 99, 114, 105, 112, 116, 111, 114, 32, 116, 121, 112, 101]), (18, [105, 110, 118, 97, 108, 105, 100, 32, 109, 101, 109, 111, 114, 121, 32, 98, 117, 102, 102, 101, 114]), (19, [105, 110, 118, 97, 108, 105, 100, 32, 112, 97, 103, 101, 32, 111, 102, 102, 115, 101, 116]), (20, [97, 116, 111, 109, 105, 99, 32, 119, 114, 105, 116, 101, 32, 117, 110, 105, 116, 32, 101, 120, 99, 101, 101, 100, 101, 100]), (21, [111, 112, 101, 114, 97, 116, 105, 111, 110, 32, 100, 101, 110, 105, 101, 100]), (24, [105, 110, 99, 111, 110, 115, 105, 115, 116, 101, 110, 116, 32, 104, 111, 115, 116, 32, 105, 100, 101, 110, 116, 105, 102, 105, 101, 114]), (25, [107, 101, 101, 112, 45, 97, 108, 105, 118, 101, 32, 101, 120, 112, 105, 114, 101, 100]), (26, [105, 110, 118, 97, 108, 105, 100, 32, 107, 101, 101, 112, 45, 97, 108, 105, 118, 101]), (27, [97, 98, 111, 114, 116, 101, 100, 32, 98, 121, 32, 112, 114, 101, 101, 109, 112, 116, 105, 111, 110]), (32, [110, 97, 109, 101, 115, 112, 97, 99, 101, 32, 119, 114, 105, 116, 101, 32, 112, 114, 111, 116, 101, 99, 116, 101, 100]), (128, [98, 108, 111, 99, 107, 32, 97, 100, 100, 114, 101, 115, 115, 32, 111, 117, 116, 32, 111, 102, 32, 114, 97, 110, 103, 101]), (129, [99, 97, 112, 97, 99, 105, 116, 121, 32, 101, 120, 99, 101, 101, 100, 101, 100]), (130, [110, 97, 109, 101, 115, 112, 97, 99, 101, 32, 110, 111, 116, 32, 114, 101, 97, 100, 121]), (131, [114, 101, 115, 101, 114, 118, 97, 116, 105, 111, 110, 32, 99, 111, 110, 102, 108, 105, 99, 116]), (132, [102, 111, 114, 109, 97, 116, 32, 105, 110, 32, 112, 114, 111, 103, 114, 101, 115, 115])]
def specificL : List (Int × List UInt8) := [(256, [105, 110, 118, 97, 108, 105, 100, 32, 99, 111, 109, 112, 108, 101, 116, 105, 111, 110, 32, 113, 117, 101, 117, 101]), (257, [105, 110, 118, 97, 108, 105, 100, 32, 113, 117, 101, 117, 101]), (258, [105, 110, 118, 97, 108, 105, 100, 32, 113, 117, 101, 117, 101, 32, 115, 105, 122, 101]), (259, [97, 98, 111, 114, 116, 32, 108, 105, 109, 105, 116, 32, 101, 120, 99, 101, 101, 100, 101, 100]), (261, [101, 118, 101, 110, 116, 32, 114, 101, 113, 117, 101, 115, 116, 32, 108, 105, 109, 105, 116, 32, 101, 120, 99, 101, 101, 100, 101, 100]), (262, [105, 110, 118, 97, 108, 105, 100, 32, 102, 105, 114, 109, 119, 97, 114, 101, 32, 115, 108, 111, 116]), (263, [105, 110, 118, 97, 108, 105, 100, 32, 102, 105, 114, 109, 119, 97, 114, 101, 32, 105, 109, 97, 103, 101]), (264, [105, 110, 118, 97, 108, 105, 100, 32, 105, 110, 116, 101, 114, 114, 117, 112, 116, 32, 118, 101, 99, 116, 111, 114]), (265, [105, 110, 118, 97, 108, 105, 100, 32, 108, 111, 103, 32, 112, 97, 103, 101]), (266, [105, 110, 118, 97, 108, 105, 100, 32, 102, 111, 114, 109, 97, 116]), (267, [102, 105, 114, 109, 119, 97, 114, 101, 32, 110, 101, 101, 100, 115, 32, 97, 32, 114, 101, 115, 101, 116]), (268, [105, 110, 118, 97, 108, 105, 100, 32, 113, 117, 101, 117, 101, 32, 100, 101, 108, 101, 116, 105, 111, 110]), (269, [102, 101, 97, 116, 117, 114, 101, 32, 110, 111, 116, 32, 115, 97, 118, 101, 97, 98, 108, 101]), (270, [102, 101, 97, 116, 117, 114, 101, 32, 110, 111, 116, 32, 99, 104, 97, 110, 103, 101, 97, 98, 108, 101]), (271, [102, 101, 97, 116, 117, 114, 101, 32, 110, 111, 116, 32, 110, 97, 109, 101, 115, 112, 97, 99, 101, 32, 115, 112, 101, 99, 105, 102, 105, 99]), (276, [111, 118, 101, 114, 108, 97, 112, 112, 105, 110, 103, 32, 102, 105, 114, 109, 119, 97, 114, 101, 32, 114, 97, 110, 103, 101]), (277, [105, 110, 115, 117, 102, 102, 105, 99, 105, 101, 110, 116, 32, 99, 97, 112, 97, 99, 105, 116, 121]), (278, [110, 111, 32, 110, 97, 109, 101, 115, 112, 97, 99, 101, 32, 105, 100, 101, 110, 116, 105, 102, 105, 101, 114, 32, 108, 101, 102, 116]), (280, [110, 97, 109, 101, 115, 112, 97, 99, 101, 32, 97, 116, 116, 97, 99, 104, 101, 100]), (281, [110, 97, 109, 101, 115, 112, 97, 99, 101, 32, 112, 114, 105, 118, 97, 116, 101]), (282, [110, 97, 109, 101, 115, 112, 97, 99, 101, 32, 110, 111, 116, 32, 97, 116, 116, 97, 99, 104, 101, 100]), (283, [116, 104, 105, 110, 32, 112, 114, 111, 118, 105, 115, 105, 111, 110, 105, 110, 103, 32, 110, 111, 116, 32, 115, 117, 112, 112, 111, 114, 116, 101, 100]), (284, [105, 110, 118, 97, 108, 105, 100, 32, 99, 111, 110, 116, 114, 111, 108, 108, 101, 114, 32, 108, 105, 115, 116]), (384, [105, 110, 99, 111, 109, 112, 97, 116, 105, 98, 108, 101, 32, 99, 111, 110, 110, 101, 99, 116, 32, 102, 111, 114, 109, 97, 116]), (385, [99, 111, 110, 116, 114, 111, 108, 108, 101, 114, 32, 98, 117, 115, 121]), (386, [105, 110, 118, 97, 108, 105, 100, 32, 99, 111, 110, 110, 101, 99, 116, 32, 112, 97, 114, 97, 109, 101, 116, 101, 114, 115]), (387, [114, 101, 115, 116, 97, 114, 116, 32, 100, 105, 115, 99, 111, 118, 101, 114, 121]), (388, [105, 110, 118, 97, 108, 105, 100, 32, 104, 111, 115, 116]), (400, [100, 105, 115, 99, 111, 118, 101, 114, 121, 32, 108, 111, 103, 32, 99, 104, 97, 110, 103, 101, 100]), (401, [97, 117, 116, 104, 101, 110, 116, 105, 99, 97, 116, 105, 111, 110, 32, 114, 101, 113, 117, 105, 114, 101, 100]), (440, [122, 111, 110, 101, 32, 98, 111, 117, 110, 100, 97, 114, 121, 32, 101, 114, 114, 111, 114]), (441, [122, 111, 110, 101, 32, 105, 115, 32, 102, 117, 108, 108]), (442, [122, 111, 110, 101, 32, 105, 115, 32, 114, 101, 97, 100, 32, 111, 110, 108, 121]), (443, [122, 111, 110, 101, 32, 105, 115, 32, 111, 102, 102, 108, 105, 110, 101]), (444, [122, 111, 110, 101, 32, 105, 110, 118, 97, 108, 105, 100, 32, 119, 114, 105, 116, 101]), (445, [116, 111, 111, 32, 109, 97, 110, 121, 32, 97, 99, 116, 105, 118, 101, 32, 122, 111, 110, 101, 115]), (446, [116, 111, 111, 32, 109, 97, 110, 121, 32, 111, 112, 101, 110, 32, 122, 111, 110, 101, 115]), (447, [105, 110, 118, 97, 108, 105, 100, 32, 122, 111, 110, 101, 32, 115, 116, 97, 116, 101, 32, 116, 114, 97, 110, 115, 105, 116, 105, 111, 110])]
def namesL : List (Int × List UInt8) := baseL ++ genericL ++ specificL
def strV (s : List UInt8) : Value := .string ⟨s.toArray⟩
def kvS (l : List (Int × List UInt8)) : List (Int × Value) := l.map fun p => (p.1, strV p.2)
theorem kvS_fst (l : List (Int × List UInt8)) : (kvS l).map (·.1) = l.map (·.1) := by unfold kvS; rw [List.map_map]; rfl
section
variable {P : Program} {w : World} {t kt et : TypeId} {q : IntKind} {r : Nat} {ops : Array Oper} {rest : List Oper} {o : Oper} {a : Act} {Q : Exit → Act → World → Prop}
/-- A store of the next pair of a list, at the operation of a map's literal. -/
theorem wpList_insert_tk (L : List (Int × List UInt8)) (k : Nat) (hg : o.guard = none) (m x v : Operand) (hop : o.op = .insert t m x v) (ht : P.underlying t = some (.map kt et)) (hk : P.underlying kt = some (.int q)) (h : MapIs q w r (kvS (L.take k))) (key : Int) (s : List UInt8) (hm : a.eval m = .map (some r)) (hx : a.eval x = .int q key) (hv : a.eval v = .string ⟨s.toArray⟩)
    (hL : L[k]? = some (key, s)) (hn : ((L.take k).map (·.1)).contains key = false) (hK : ∀ w', MapIs q w' r (kvS (L.take (k + 1))) → Keeps (One r) w w' → wpList P ops Q rest (a.put o.dst undef) w') : wpList P ops Q (o :: rest) a w := by
  refine wpList_insert_mp hg m x v hop ht hk h key (strV s) hm hx hv (by rw [kvS_fst]; exact hn) fun w' h1 h2 => hK w' ?_ h2
  have hlt := (List.getElem?_eq_some_iff.1 hL).1
  have e : L.take (k + 1) = L.take k ++ [(key, s)] := by
    rw [List.take_add_one, hL]
    rfl
  rw [e]
  unfold kvS at h1 ⊢
  rw [List.map_append]
  exact h1
end
/-- The listed codes in order. -/
def codesL : List Int := [0, 1, 2, 3, 4, 5, 6, 7, 8, 9, 10, 11, 12, 13, 14, 15, 16, 17, 18, 19, 20, 21, 24, 25, 26, 27, 32, 128, 129, 130, 131, 132, 256, 257, 258, 259, 261, 262, 263, 264, 265, 266, 267, 268, 269, 270, 271, 276, 277, 278, 280, 281, 282, 283, 284, 384, 385, 386, 387, 388, 400, 401, 440, 441, 442, 443, 444, 445, 446, 447, 640, 641, 642, 643, 644, 645, 646, 647, 768, 769, 770, 771, 880, 881]
set_option maxRecDepth 100000 in
theorem codes_sorted : codesL.Pairwise (· ≤ ·) := by decide +kernel
set_option maxRecDepth 100000 in
theorem codes_perm : codesL.Perm (namesL.map (·.1)) := by decide +kernel
theorem codes_len : codesL.length = 84 := by decide +kernel
/-- The name of a code. -/
def nameOf (k : Int) : List UInt8 := ((namesL.find? fun p => p.1 == k).map (·.2)).getD []
set_option maxRecDepth 100000 in
theorem nameOf_all : ∀ k ∈ codesL, (k, nameOf k) ∈ namesL := by decide +kernel
theorem nameOf_mem (k : Int) (h : k ∈ codesL) : (k, strV (nameOf k)) ∈ kvS namesL := List.mem_map.2 ⟨_, nameOf_all k h, rfl⟩
theorem nameOf_not (k : Int) (h : k ∉ codesL) : nameOf k = [] ∧ k ∉ (kvS namesL).map (·.1) := by
  have h1 : k ∉ namesL.map (·.1) := fun hk => h (codes_perm.mem_iff.2 hk)
  refine ⟨?_, by rw [kvS_fst]; exact h1⟩
  unfold nameOf
  have : namesL.find? (fun p => p.1 == k) = none := by
    rw [List.find?_eq_none]
    intro p hp hpk
    exact h1 (List.mem_map.2 ⟨p, hp, by simpa using hpk⟩)
  rw [this]
  rfl

set_option maxRecDepth 100000 in
set_option maxHeartbeats 4000000 in
theorem generic_any (w : World) : Calls Try.prog 47 #[] w fun e w' => ∃ r, e = .returned (.map (some r)) ∧ w.heap.size ≤ r ∧ MapIs .u16 w' r (kvS genericL) ∧ Below w.heap.size w w' := by
  have hm0 : MapIs .u16 (w.alloc (.map #[] 0)) w.heap.size (kvS (genericL.take 0)) := MapIs.made w
  have HM := Lib.hid hm0
  have hk0 : Keeps (fun j => w.heap.size ≤ j) w (w.alloc (.map #[] 0)) := (Keeps.refl _ w).alloc _
  have HK := Lib.hid hk0
  have hmm := @run_makeMap Try.prog
  clear hm0 hk0
  go_enter Try.func47, Try.ntmps47
  go_wp2_with ((with_reducible show wpList _ _ _ (⟨none, .insert _ _ _ _, _, _, _, _⟩ :: _) _ _); refine wpList_insert_tk genericL _ rfl _ _ _ rfl Try.underlying73 Try.underlying26 HM.out _ _ rfl rfl rfl ?_ ?_ ?_; kernel_rfl; kernel_rfl; intro w' hm' hk'; replace HK := Lib.hid (HK.out.trans (hk'.mono (fun k _ e => by have e : k = w.heap.size := e; have := HK.out.size; omega))); replace HM := Lib.hid hm'; clear hm' hk')
  go_ret
  exact ⟨_, rfl, Nat.le_refl _, HM.out, HK.out.below (Nat.le_refl _) (fun k hk e => by omega)⟩
set_option maxRecDepth 100000 in
set_option maxHeartbeats 4000000 in
theorem specific_any (w : World) : Calls Try.prog 48 #[] w fun e w' => ∃ r, e = .returned (.map (some r)) ∧ w.heap.size ≤ r ∧ MapIs .u16 w' r (kvS specificL) ∧ Below w.heap.size w w' := by
  have hm0 : MapIs .u16 (w.alloc (.map #[] 0)) w.heap.size (kvS (specificL.take 0)) := MapIs.made w
  have HM := Lib.hid hm0
  have hk0 : Keeps (fun j => w.heap.size ≤ j) w (w.alloc (.map #[] 0)) := (Keeps.refl _ w).alloc _
  have HK := Lib.hid hk0
  have hmm := @run_makeMap Try.prog
  clear hm0 hk0
  go_enter Try.func48, Try.ntmps48
  go_wp2_with ((with_reducible show wpList _ _ _ (⟨none, .insert _ _ _ _, _, _, _, _⟩ :: _) _ _); refine wpList_insert_tk specificL _ rfl _ _ _ rfl Try.underlying73 Try.underlying26 HM.out _ _ rfl rfl rfl ?_ ?_ ?_; kernel_rfl; kernel_rfl; intro w' hm' hk'; replace HK := Lib.hid (HK.out.trans (hk'.mono (fun k _ e => by have e : k = w.heap.size := e; have := HK.out.size; omega))); replace HM := Lib.hid hm'; clear hm' hk')
  go_ret
  exact ⟨_, rfl, Nat.le_refl _, HM.out, HK.out.below (Nat.le_refl _) (fun k hk e => by omega)⟩

theorem apart (a b : List (Int × List UInt8)) (h : ∀ x ∈ b.map (·.1), x ∉ a.map (·.1)) : ∀ p ∈ kvS b, p.1 ∉ (kvS a).map (·.1) := by
  intro p hp
  rw [kvS_fst]
  obtain ⟨q, hq, rfl⟩ := List.mem_map.1 hp
  exact h q.1 (List.mem_map_of_mem hq)
theorem apart1 : ∀ x ∈ genericL.map (·.1), x ∉ baseL.map (·.1) := by decide +kernel
theorem apart2 : ∀ x ∈ specificL.map (·.1), x ∉ (baseL ++ genericL).map (·.1) := by decide +kernel
theorem kvS_append (a b : List (Int × List UInt8)) : kvS (a ++ b) = kvS a ++ kvS b := List.map_append
set_option maxRecDepth 100000 in
set_option maxHeartbeats 4000000 in
theorem names_any (w : World) : Calls Try.prog 34 #[] w fun e w' => ∃ r, e = .returned (.map (some r)) ∧ w.heap.size ≤ r ∧ MapIs .u16 w' r (kvS namesL) ∧ Below w.heap.size w w' := by
  have hm0 : MapIs .u16 (w.alloc (.map #[] 0)) w.heap.size (kvS (baseL.take 0)) := MapIs.made w
  have HM := Lib.hid hm0
  have hk0 : Keeps (fun j => w.heap.size ≤ j) w (w.alloc (.map #[] 0)) := (Keeps.refl _ w).alloc _
  have HK := Lib.hid hk0
  have hmm := @run_makeMap Try.prog
  have HG := Lib.hid generic_any
  have HSP := Lib.hid specific_any
  clear hm0 hk0
  go_enter Try.func34, Try.ntmps34
  go_upto_region 2 with ((with_reducible show wpList _ _ _ (⟨none, .insert _ _ _ _, _, _, _, _⟩ :: _) _ _); refine wpList_insert_tk baseL _ rfl _ _ _ rfl Try.underlying73 Try.underlying26 HM.out _ _ rfl rfl rfl ?_ ?_ ?_; kernel_rfl; kernel_rfl; intro w' hm' hk'; replace HK := Lib.hid (HK.out.trans (hk'.mono (fun k _ e => by have e : k = w.heap.size := e; have := HK.out.size; omega))); replace HM := Lib.hid hm'; clear hm' hk')
  rename_i wb
  have HM1 : Hid (MapIs .u16 _ w.heap.size (kvS baseL)) := Lib.hid HM.out
  have B1 := Lib.hid (HK.out.below (Nat.le_refl _) (fun k hk e => by omega))
  clear HM HK
  go_wp2_with fail
  refine (HG.out _).mono ?_
  rintro e w2 ⟨r2, rfl, hr2, hm2, hb2⟩
  have M2 := Lib.hid hm2
  have A2 := Lib.hid (HM1.out.below hb2)
  have B2 := Lib.hid (B1.out.trans (hb2.mono B1.out.size))
  have hrl : w.heap.size < r2 := Nat.lt_of_lt_of_le HM1.out.lt hr2
  clear hm2 hb2 hr2
  go_wp2_with fail
  refine (copy_any w.heap.size r2 (kvS baseL) (kvS genericL) w2 A2.out M2.out (by omega) (apart _ _ apart1)).mono ?_
  rintro e w3 ⟨rfl, hm3, hk3⟩
  rw [← kvS_append] at hm3
  have A3 := Lib.hid hm3
  have B3 := Lib.hid (B2.out.trans (hk3.below (B := w.heap.size) B2.out.size (fun j hj e => by have e : j = w.heap.size := e; omega)))
  clear hm3 hk3 A2 M2 B2 hrl
  go_wp2_with fail
  refine (HSP.out _).mono ?_
  rintro e w4 ⟨r4, rfl, hr4, hm4, hb4⟩
  have M4 := Lib.hid hm4
  have A4 := Lib.hid (A3.out.below hb4)
  have B4 := Lib.hid (B3.out.trans (hb4.mono B3.out.size))
  have hrl : w.heap.size < r4 := Nat.lt_of_lt_of_le A3.out.lt hr4
  clear hm4 hb4 hr4
  go_wp2_with fail
  refine (copy_any w.heap.size r4 (kvS (baseL ++ genericL)) (kvS specificL) w4 A4.out M4.out (by omega) (apart _ _ apart2)).mono ?_
  rintro e w5 ⟨rfl, hm5, hk5⟩
  rw [← kvS_append] at hm5
  have A5 := Lib.hid hm5
  have B5 := Lib.hid (B4.out.trans (hk5.below (B := w.heap.size) B4.out.size (fun j hj e => by have e : j = w.heap.size := e; omega)))
  clear hm5 hk5 A4 M4 B4 hrl
  go_wp2_with fail
  go_ret
  exact ⟨_, rfl, Nat.le_refl _, A5.out, B5.out⟩
end Go.Proofs.Ytiinjjfggmmkmaa
