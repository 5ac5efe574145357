/- prp: the walk that reads a list: in memory; add. -/
import Derived.Test.YtfmabknhfehdcaaZT7
import Derived.Deep.DrawnRows
namespace Go.Proofs.Ytfmabknhfehdcaa
set_option linter.unusedVariables false
set_option linter.unusedSimpArgs false
open Go.RowKit

/-- the cells of a walk -/
def wcell (m : Value) (s : PSt) (v : Value) : Nat → Value := fun i =>
  if i = 0 then m else if i = 1 then .int .u64 s.list else if i = 2 then .bool s.fresh else if i = 3 then v else .int .i64 s.left
/-- A walk lies in block wb; the blocks P are not its own. -/
structure Wlk (P : Nat → Prop) (wb : Nat) (W : World) (m : Value) (s : PSt) : Prop where
  ex : ∃ v, W.rowIs wb 157 5 (wcell m s v) ∧ W.ownsRow (wb + 1) 69 3 v s.out.length (spC s.out) ∧ ∀ k, P k → v.ownBlock ≠ some k
  notg : ¬ P wb
  lt : ∀ k, P k → k < W.heap.size
namespace Wlk
variable {P : Nat → Prop} {wb : Nat} {W W' : World} {m : Value} {s : PSt}
theorem wlt (h : Wlk P wb W m s) : wb < W.heap.size := by obtain ⟨v, hr, -⟩ := h.ex; exact hr.lt
theorem less {Q : Nat → Prop} (h : Wlk P wb W m s) (hQ : ∀ k, Q k → P k) : Wlk Q wb W m s := by
  obtain ⟨v, hr, ho, hp⟩ := h.ex
  exact ⟨⟨v, hr, ho, fun k hk => hp k (hQ k hk)⟩, fun hg => h.notg (hQ _ hg), fun k hk => h.lt k (hQ k hk)⟩
theorem below (h : Wlk P wb W m s) (hb : Below W.heap.size W W') : Wlk P wb W' m s := by
  obtain ⟨v, hr, ho, hp⟩ := h.ex
  have k := Keeps.of_below (S := fun _ => False) hb
  exact ⟨⟨v, k.rowIs hr (fun e => e), ho.kept (row := none) ⟨k.os, k.tape, k.output, k.size, fun j hj _ => k.block j hj (fun e => e)⟩ (by cases v.ownBlock <;> simp), hp⟩, h.notg, fun j hj => Nat.lt_of_lt_of_le (h.lt j hj) k.size⟩
/-- Blocks made since are not the walk's own. -/
theorem more (h : Wlk P wb W m s) (hb : Below W.heap.size W W') : Wlk (fun k => P k ∨ (W.heap.size ≤ k ∧ k < W'.heap.size)) wb W' m s := by
  obtain ⟨v, hr, ho, hp⟩ := h.ex
  have k := Keeps.of_below (S := fun _ => False) hb
  refine ⟨⟨v, k.rowIs hr (fun e => e), ho.kept (row := none) ⟨k.os, k.tape, k.output, k.size, fun j hj _ => k.block j hj (fun e => e)⟩ (by cases v.ownBlock <;> simp), fun j hj => ?_⟩, fun hg => hg.elim h.notg (fun e => by have := hr.lt; omega), fun j hj => hj.elim (fun e => Nat.lt_of_lt_of_le (h.lt j e) k.size) (fun e => e.2)⟩
  rcases hj with hj | hj
  · exact hp j hj
  · intro e
    have := (ho.lt j e).2
    omega
end Wlk
/-- Behind the append: the slice laid into its field. -/
theorem add_mid {P : Nat → Prop} {wb : Nat} {W W1 w2 : World} {m : Value} {s : PSt} {v : Value} {gg cap : Nat} {xs : List Value} {X : Obj} (hr : W.rowIs wb 157 5 (wcell m s v)) (ho : W.ownsRow (wb + 1) 69 3 v s.out.length (spC s.out))
    (hp : ∀ k, P k → v.ownBlock ≠ some k) (hng : ¬ P wb) (hlt : ∀ k, P k → k < W.heap.size) (hb : Below W.heap.size W W1)
    (hown : w2.ownsRow (wb + 1) 69 3 (.slice (some ⟨gg, 0, none⟩) (s.out.length + 1) cap) (s.out.length + 1) xs) (hg : (W1.alloc X).grownBy w2 v.ownBlock) (hat : v.ownBlock = some gg ∨ gg = W1.heap.size + 1) :
    Keeps (fun k => ¬ P k) W (w2.setCell ⟨wb, 3, none⟩ (.slice (some ⟨gg, 0, none⟩) (s.out.length + 1) cap)) ∧ (w2.setCell ⟨wb, 3, none⟩ (.slice (some ⟨gg, 0, none⟩) (s.out.length + 1) cap)).rowIs wb 157 5 (wcell m s (.slice (some ⟨gg, 0, none⟩) (s.out.length + 1) cap)) ∧
    (w2.setCell ⟨wb, 3, none⟩ (.slice (some ⟨gg, 0, none⟩) (s.out.length + 1) cap)).ownsRow (wb + 1) 69 3 (.slice (some ⟨gg, 0, none⟩) (s.out.length + 1) cap) (s.out.length + 1) xs ∧ (∀ k, P k → (Value.slice (some ⟨gg, 0, none⟩) (s.out.length + 1) cap).ownBlock ≠ some k) ∧
    (∀ b, b < W1.heap.size → b ≠ wb → v.ownBlock ≠ some b → (w2.setCell ⟨wb, 3, none⟩ (.slice (some ⟨gg, 0, none⟩) (s.out.length + 1) cap)).heap[b]? = W1.heap[b]?) := by
  have hwl := hr.lt
  have hs1 := hb.size
  have hgw : wb + 1 ≤ gg := (hown.lt gg rfl).1
  have hkb : ∀ b, b < W1.heap.size → v.ownBlock ≠ some b → w2.heap[b]? = W1.heap[b]? := fun b hb hne => (hg.block b (by simp; omega) (fun e => hne e.symm)).trans (Below.heap_alloc W1 _ b hb)
  have hk2 : Keeps (fun k => ¬ P k) W w2 := ⟨hg.os.trans hb.os, hg.tape.trans hb.tape, hg.output.trans hb.output, by have := hg.size; simp at this; omega, fun k hk hP => (hkb k (by omega) (hp k (Classical.not_not.1 hP))).trans (hb.block k hk)⟩
  have hkw : Keeps (fun k => v.ownBlock = some k) W w2 := ⟨hk2.os, hk2.tape, hk2.output, hk2.size, fun k hk hP => (hkb k (by omega) hP).trans (hb.block k hk)⟩
  have hr2 : w2.rowIs wb 157 5 (wcell m s v) := hkw.rowIs hr (fun e => by have := (ho.lt wb e).1; omega)
  refine ⟨hk2.setCell (p := ⟨wb, 3, none⟩) (fun _ => hng) _, (hr2.set 3 _).congr fun i _ => ?_, ?_, ?_, ?_⟩
  · unfold wcell
    by_cases e : i = 3
    · subst e; rfl
    · simp only [e, if_false]
  · refine hown.kept (row := some wb) ⟨rfl, rfl, rfl, by simp, fun k hk hne => Below.heap_setCell _ _ _ _ (fun e => hne (by rw [e]))⟩ (.inr ?_)
    intro e
    have e : some gg = some wb := e
    cases e
    omega
  · intro k hk e
    have e : some gg = some k := e
    cases e
    rcases hat with h | h
    · exact hp gg hk h
    · have := hlt gg hk; omega
  · intro b hb2 hne hne2
    rw [Below.heap_setCell _ _ _ _ (fun e => hne e)]
    exact hkb b hb2 hne2


section
variable (P : Nat → Prop) (wb b B size : Nat) (f : Nat → Int) (L : List (Nat × Nat)) (s : PSt) (a k : Int) (W : World) (hM : MemAt W b B size f L) (h : Wlk P wb W (.pointer (some ⟨b, 0, none⟩)) s) (ha0 : 0 ≤ a) (ha1 : a ≤ 18446744073709551615) (hl0 : 0 ≤ s.left) (hl : s.left ≤ 1048576) (hk : min s.left (4096 - a % 4096) = k)
include hM h ha0 ha1 hl0 hl hk
set_option maxRecDepth 100000 in
set_option maxHeartbeats 4000000 in
theorem add_bad (no : Int) (hc : chk size a k = no) (hne : (no == 0) = false) :
    Calls Try.prog 97 #[.pointer (some ⟨wb, 0, none⟩), .int .u64 a] W fun e W' => e = .panicked [pan no] ∧ Below W.heap.size W W' := by
  have H := Lib.hid h
  have HM := Lib.hid hM
  obtain ⟨v, hr, ho, hp⟩ := h.ex
  have hwl := hr.lt
  have c0 : W.cell? ⟨wb, 0, none⟩ = some (.pointer (some ⟨b, 0, none⟩)) := hr.cell (i := 0) (by omega)
  have c4 : W.cell? ⟨wb, 4, none⟩ = some (.int .i64 s.left) := hr.cell (i := 4) (by omega)
  obtain ⟨lf, hlf⟩ : ∃ z, z = s.left := ⟨_, rfl⟩
  rw [← hlf] at c4 hl0 hl hk
  have hif : (if 4096 - a % 4096 < lf then 4096 - a % 4096 else lf) = k := by rw [← hk, Int.min_def]; split <;> split <;> omega
  have HIF := Lib.hid hif
  have HC := Lib.hid hc
  have hk0 : 0 ≤ k := by rw [← hif]; split <;> omega
  have hk1 : k ≤ 4096 := by rw [← hif]; split <;> omega
  have b0 : 0 ≤ a % 4096 := by omega
  have b1 : a % 4096 < 4096 := by omega
  clear hM h hr ho hp hk hif hc hlf
  go_enter Try.func97, Try.ntmps97
  go_upto_region 1 with fail
  rw [HIF.out]
  go_wp2_with (go_at_call 57; refine (check_is b B size f L a k no _ HM.out ha0 ha1 (by omega) (by omega) HC.out).mono ?_; rintro e w1 ⟨rfl, hb⟩; have H1 := Lib.hid hb; clear hb)
  refine (must1_bad _ _).mono ?_
  rintro e w' ⟨rfl, rfl⟩
  exact ⟨rfl, rfl, H1.out.alloc H1.out.size _⟩
set_option maxRecDepth 100000 in
set_option maxHeartbeats 4000000 in
theorem add_ok (hc : chk size a k = 0) (hol : s.out.length ≤ 1048576) :
    Calls Try.prog 97 #[.pointer (some ⟨wb, 0, none⟩), .int .u64 a] W fun e W' => e = .returned (.tuple #[]) ∧ Keeps (fun k => ¬ P k) W W' ∧ Wlk P wb W' (.pointer (some ⟨b, 0, none⟩)) ⟨s.list, s.fresh, s.left - k, s.out ++ [⟨a, k, false⟩]⟩ := by
  obtain ⟨i0, hi0, hz0, hz1, hz2⟩ := info_parts infoSp
  have H := Lib.hid h
  have HM := Lib.hid hM
  obtain ⟨v, hr, ho, hp⟩ := h.ex
  have hwl := hr.lt
  have c0 : W.cell? ⟨wb, 0, none⟩ = some (.pointer (some ⟨b, 0, none⟩)) := hr.cell (i := 0) (by omega)
  have c3 : W.cell? ⟨wb, 3, none⟩ = some v := hr.cell (i := 3) (by omega)
  have c4 : W.cell? ⟨wb, 4, none⟩ = some (.int .i64 s.left) := hr.cell (i := 4) (by omega)
  have f3 := hr.frozen 3
  have f4 := hr.frozen 4
  obtain ⟨lf, hlf⟩ : ∃ z, z = s.left := ⟨_, rfl⟩
  rw [← hlf] at c4 hl0 hl hk
  have hif : (if 4096 - a % 4096 < lf then 4096 - a % 4096 else lf) = k := by rw [← hk, Int.min_def]; split <;> split <;> omega
  have HIF := Lib.hid hif
  have HC := Lib.hid hc
  have HLF := Lib.hid hlf
  have HR := Lib.hid hr
  have HO := Lib.hid ho
  have HP := Lib.hid hp
  have hk0 : 0 ≤ k := by rw [← hif]; split <;> omega
  have hk1 : k ≤ 4096 := by rw [← hif]; split <;> omega
  have hk2 : k ≤ lf := by rw [← hif]; split <;> omega
  have b0 : 0 ≤ a % 4096 := by omega
  have b1 : a % 4096 < 4096 := by omega
  clear hM h hr ho hp hk hif hc hlf
  go_enter Try.func97, Try.ntmps97
  go_upto_region 1 with fail
  rw [HIF.out]
  go_upto_region 3 with (first
    | (go_at_call 57; refine (check_is b B size f L a k 0 _ HM.out ha0 ha1 (by omega) (by omega) HC.out).mono ?_; rintro e w1 ⟨rfl, hb⟩; have H1 := Lib.hid hb; clear hb)
    | (go_at_call 61; refine (must1_ok _ _).mono ?_; rintro e w' ⟨rfl, rfl⟩))
  obtain ⟨W1, hW1⟩ : ∃ z, z = w1.alloc (.cells #[.bool true] 4) := ⟨_, rfl⟩
  rw [← hW1]
  have hb1 : Below W.heap.size W W1 := by rw [hW1]; exact H1.out.alloc H1.out.size _
  have d3 : W1.cell? ⟨wb, 3, none⟩ = some v := (hb1.cell (p := ⟨wb, 3, none⟩) hwl).trans c3
  have HR1 := Lib.hid ((Keeps.of_below (S := fun _ => False) hb1).rowIs HR.out (fun e => e))
  have HO1 := Lib.hid (HO.out.kept (w' := W1) (row := none) ⟨hb1.os, hb1.tape, hb1.output, hb1.size, fun j hj _ => hb1.block j hj⟩ (by cases v.ownBlock <;> simp))
  have HB1 := Lib.hid hb1
  have hz1' := hb1.size
  have g3 : W1.frozen? ⟨wb, 3, none⟩ = false := HR1.out.frozen 3
  clear hW1 hb1 c0 c3 c4 f3 f4
  go_upto_region 4 with (at_builtin; refine wpList_append_lies _ rfl _ _ 31 rfl (wb + 1) 69 i0 _ 3 24 Try.underlying31 hi0 hz0 hz1 hz2 rfl (by decide) v s.out.length (spC s.out) rfl (HO1.out.alloc _) ⟨W1.heap.size, 0, none⟩ 1 1 [.int .u64 a, .int .i64 k, .bool false] rfl rfl (World.news_of_block (cs := #[.int .u64 a, .int .i64 k, .bool false]) (t := 69) (fr := (0, 0)) (heap_alloc_new W1 _)) (by simp [Value.oneCell']) (by decide) (by unfold maxLen; omega) (by omega) (by simp; omega) (W1.heap.size + 1) (by simp) ?_; intro gg cap w2 hown2 hgrow hat hlt; obtain ⟨k3, r3, o3, p3, b3⟩ := add_mid HR.out HO.out HP.out H.out.notg H.out.lt HB1.out hown2 hgrow (by simpa using hat); have x3 := (World.cell?_of_block (w := W1.alloc (.cells #[.int .u64 a, .int .i64 k, .bool false] 69)) (a := ⟨wb, 3, none⟩) (hgrow.block wb (by simp; omega) (fun e => by have := (HO.out.lt wb e.symm).1; omega))).trans ((World.cell?_alloc_lt _ _ _ (by show wb < _; omega)).trans d3); have y3 := (World.frozen?_of_block (w := W1.alloc (.cells #[.int .u64 a, .int .i64 k, .bool false] 69)) (a := ⟨wb, 3, none⟩) (hgrow.block wb (by simp; omega) (fun e => by have := (HO.out.lt wb e.symm).1; omega))).trans ((World.frozen?_of_block (w := W1) (a := ⟨wb, 3, none⟩) (Below.heap_alloc _ _ _ (by show wb < _; omega))).trans g3); have K3 := Lib.hid k3; have R3 := Lib.hid r3; have O3 := Lib.hid o3; have P3 := Lib.hid p3; clear k3 r3 o3 p3 b3 hown2 hgrow hat hlt)
  obtain ⟨nv, hnv⟩ : ∃ z, z = Value.slice (some ⟨gg, 0, none⟩) (s.out.length + 1) cap := ⟨_, rfl⟩
  rw [← hnv] at K3 R3 O3 P3 ⊢
  obtain ⟨W3, hW3⟩ : ∃ z, z = w2.setCell ⟨wb, 3, none⟩ nv := ⟨_, rfl⟩
  rw [← hW3] at K3 R3 O3 ⊢
  have t4 : W3.cell? ⟨wb, 4, none⟩ = some (.int .i64 lf) := by rw [HLF.out]; exact R3.out.cell (i := 4) (by omega)
  have y4 : W3.frozen? ⟨wb, 4, none⟩ = false := R3.out.frozen 4
  clear hW3 hnv x3 y3 HR1 HO1 d3 g3
  have l0 : 0 ≤ lf - k := by omega
  have l1 : lf - k ≤ 1048576 := by omega
  go_wp2_with fail
  go_end0
  rw [← HLF.out]
  refine ⟨rfl, K3.out.setCell (p := ⟨wb, 4, none⟩) (fun _ => H.out.notg) _, ⟨⟨nv, ?_, ?_, P3.out⟩, H.out.notg, fun j hj => Nat.lt_of_lt_of_le (H.out.lt j hj) (by have := K3.out.size; simpa using this)⟩⟩
  · refine (R3.out.set 4 (.int .i64 (lf - k))).congr fun i hi => ?_
    unfold wcell
    by_cases e : i = 4
    · subst e; rfl
    · rw [if_neg e]
      by_cases e0 : i = 0
      · subst e0; rfl
      · by_cases e1 : i = 1
        · subst e1; rfl
        · by_cases e2 : i = 2
          · subst e2; rfl
          · obtain rfl : i = 3 := by omega
            rfl
  · have hlen : (s.out ++ [({ a := a, n := k, bk := false } : Spn)]).length = s.out.length + 1 := by simp
    rw [hlen, spC_append]
    exact O3.out.kept (w' := W3.setCell ⟨wb, 4, none⟩ (.int .i64 (lf - k))) (row := some wb) ⟨rfl, rfl, rfl, by simp, fun j hj hne => Below.heap_setCell _ _ _ _ (fun e => hne (congrArg some e))⟩ (.inr (fun e => by have := (O3.out.lt wb e).1; omega))
end
end Go.Proofs.Ytfmabknhfehdcaa

namespace Go.Proofs.Ytfmabknhfehdcaa
open Go.RowKit
attribute [local go_sem ↓] Go.wp_at_zero Go.wp_at_succ

theorem le_lo (F : Nat → Int) : le F 0 8 = hz F 7 8 := by simp [le, hz]; omega
theorem wrd_bd {f : Nat → Int} (hf : Bytes f) (a : Int) : 0 ≤ wrd f a ∧ wrd f a ≤ 18446744073709551615 := by
  have h := hz_bd (F := fun i => f (a.toNat + i)) (fun i => hf _) 7 8
  unfold wrd
  have e : (256 : Int) ^ 8 = 18446744073709551616 := by decide
  rw [e] at h
  omega
theorem Wlk.set1 {P : Nat → Prop} {wb : Nat} {W : World} {m : Value} {s : PSt} (h : Wlk P wb W m s) (x : Int) : Wlk P wb (W.setCell ⟨wb, 1, none⟩ (.int .u64 x)) m ⟨x, s.fresh, s.left, s.out⟩ := by
  obtain ⟨v, hr, ho, hp⟩ := h.ex
  refine ⟨⟨v, (hr.set 1 _).congr fun i hi => ?_, ho.kept (w' := W.setCell ⟨wb, 1, none⟩ (.int .u64 x)) (row := some wb) ⟨rfl, rfl, rfl, by simp, fun j hj hne => Below.heap_setCell _ _ _ _ (fun e => hne (congrArg some e))⟩ (.inr (fun e => by have := (ho.lt wb e).1; omega)), hp⟩, h.notg, fun j hj => by have := h.lt j hj; simpa using this⟩
  unfold wcell
  by_cases e : i = 1
  · subst e; rfl
  · simp only [e, if_false]
theorem Wlk.set2 {P : Nat → Prop} {wb : Nat} {W : World} {m : Value} {s : PSt} (h : Wlk P wb W m s) (x : Bool) : Wlk P wb (W.setCell ⟨wb, 2, none⟩ (.bool x)) m ⟨s.list, x, s.left, s.out⟩ := by
  obtain ⟨v, hr, ho, hp⟩ := h.ex
  refine ⟨⟨v, (hr.set 2 _).congr fun i hi => ?_, ho.kept (w' := W.setCell ⟨wb, 2, none⟩ (.bool x)) (row := some wb) ⟨rfl, rfl, rfl, by simp, fun j hj hne => Below.heap_setCell _ _ _ _ (fun e => hne (congrArg some e))⟩ (.inr (fun e => by have := (ho.lt wb e).1; omega)), hp⟩, h.notg, fun j hj => by have := h.lt j hj; simpa using this⟩
  unfold wcell
  by_cases e : i = 2
  · subst e; rfl
  · simp only [e, if_false]
theorem Wlk.fz {P : Nat → Prop} {wb : Nat} {W : World} {m : Value} {s : PSt} (h : Wlk P wb W m s) (i : Nat) : W.frozen? ⟨wb, i, none⟩ = false := by obtain ⟨v, hr, -⟩ := h.ex; exact hr.frozen i
theorem Wlk.c0 {P : Nat → Prop} {wb : Nat} {W : World} {m : Value} {s : PSt} (h : Wlk P wb W m s) : W.cell? ⟨wb, 0, none⟩ = some m := by obtain ⟨v, hr, -⟩ := h.ex; exact hr.cell (i := 0) (by omega)
theorem Wlk.c1 {P : Nat → Prop} {wb : Nat} {W : World} {m : Value} {s : PSt} (h : Wlk P wb W m s) : W.cell? ⟨wb, 1, none⟩ = some (.int .u64 s.list) := by obtain ⟨v, hr, -⟩ := h.ex; exact hr.cell (i := 1) (by omega)
theorem Wlk.c2 {P : Nat → Prop} {wb : Nat} {W : World} {m : Value} {s : PSt} (h : Wlk P wb W m s) : W.cell? ⟨wb, 2, none⟩ = some (.bool s.fresh) := by obtain ⟨v, hr, -⟩ := h.ex; exact hr.cell (i := 2) (by omega)
section
variable (b B size : Nat) (f : Nat → Int) (L : List (Nat × Nat)) (a : Int) (W : World) (hM : MemAt W b B size f L) (ha0 : 0 ≤ a) (ha1 : a ≤ 18446744073709551615)
include hM ha0 ha1
set_option maxRecDepth 100000 in
set_option maxHeartbeats 2000000 in
theorem got_ok (hc : chk size a 8 = 0) :
    Calls Try.prog 110 #[.func (.func 22) #[.pointer (some ⟨b, 0, none⟩)] #[], .int .u64 a, .int .i64 8] W fun e W' => ∃ v, e = .returned v ∧ NewBytes W.heap.size W' v 8 (fun i => f (a.toNat + i)) ∧ Below W.heap.size W W' := by
  obtain ⟨h0, h8⟩ := chk_ok hc
  obtain ⟨an, rfl⟩ : ∃ an : Nat, a = (an : Int) := ⟨a.toNat, by omega⟩
  have HR := Lib.hid (show Calls Try.prog 22 #[.pointer (some ⟨b, 0, none⟩), .int .u64 (an : Nat), .int .i64 8] W fun e w' => ∃ v, e = .returned (.tuple #[v, .int .i64 0]) ∧ NewBytes W.heap.size w' v 8 (fun i => f (an + i)) ∧ Below W.heap.size W w' from read_ok b B size f L an 8 W hM (by omega))
  clear hM hc
  go_enter Try.func110, Try.ntmps110
  go_upto_region 2 with ((with_reducible refine HR.out.mono ?_); rintro e w1 ⟨v, rfl, hv, hb⟩; have HV := Lib.hid hv; have HB := Lib.hid hb; clear hv hb)
  go_wp2_with (go_at_call 61; refine (must1_ok _ _).mono ?_; rintro e w' ⟨rfl, rfl⟩)
  go_ret
  exact ⟨v, rfl, HV.out.kept (S := fun _ => False) ((Keeps.refl _ _).alloc _) (fun _ _ e => e), HB.out.alloc HB.out.size _⟩
set_option maxRecDepth 100000 in
set_option maxHeartbeats 2000000 in
theorem got_bad (no : Int) (hc : chk size a 8 = no) (hne : (no == 0) = false) :
    Calls Try.prog 110 #[.func (.func 22) #[.pointer (some ⟨b, 0, none⟩)] #[], .int .u64 a, .int .i64 8] W fun e W' => e = .panicked [pan no] ∧ Below W.heap.size W W' := by
  have HR := Lib.hid (show Calls Try.prog 22 #[.pointer (some ⟨b, 0, none⟩), .int .u64 a, .int .i64 8] W fun e w' => e = .returned (.tuple #[.slice none 0 0, .int .i64 no]) ∧ Below W.heap.size W w' by
    rw [← hc]
    exact read_err b B size f L a 8 W hM ha0 ha1 (by omega) (by omega) (by rw [hc]; exact bne_iff_ne.2 (beq_eq_false_iff_ne.1 hne)))
  clear hM hc
  go_enter Try.func110, Try.ntmps110
  go_upto_region 2 with ((with_reducible refine HR.out.mono ?_); rintro e w1 ⟨rfl, hb⟩; have HB := Lib.hid hb; clear hb)
  go_wp2_with fail
  refine (must1_bad _ _).mono ?_
  rintro e w' ⟨rfl, rfl⟩
  exact ⟨rfl, rfl, HB.out.alloc HB.out.size _⟩
end
section
variable (P : Nat → Prop) (wb b B size : Nat) (f : Nat → Int) (L : List (Nat × Nat)) (s : PSt) (W : World) (hM : MemAt W b B size f L) (hby : Bytes f) (h : Wlk P wb W (.pointer (some ⟨b, 0, none⟩)) s) (ha0 : 0 ≤ s.list) (ha1 : s.list ≤ 18446744073709551615)
include hM hby h ha0 ha1
set_option maxRecDepth 100000 in
set_option maxHeartbeats 2000000 in
theorem address_ok (hc : chk size s.list 8 = 0) :
    Calls Try.prog 104 #[.pointer (some ⟨wb, 0, none⟩)] W fun e W' => e = .returned (.int .u64 (wrd f s.list)) ∧ Keeps (fun k => ¬ P k) W W' ∧ Wlk P wb W' (.pointer (some ⟨b, 0, none⟩)) ⟨s.list + 8, s.fresh, s.left, s.out⟩ := by
  have H := Lib.hid h
  have hsm := hM.small
  obtain ⟨h0, h8⟩ := chk_ok hc
  obtain ⟨v, hr, ho, hp⟩ := h.ex
  have hwl := hr.lt
  have HG := Lib.hid (got_ok b B size f L s.list W.drew (hM.below (Below.refl _ W).drew) ha0 ha1 hc)
  have c0 : W.cell? ⟨wb, 0, none⟩ = some (.pointer (some ⟨b, 0, none⟩)) := hr.cell (i := 0) (by omega)
  have c1 : W.cell? ⟨wb, 1, none⟩ = some (.int .u64 s.list) := hr.cell (i := 1) (by omega)
  have HWR := Lib.hid (show wrd f s.list = le (fun i => f (s.list.toNat + i)) 0 8 from (le_lo _).symm)
  have HBY := Lib.hid (show ∀ j, 0 ≤ (fun i => f (s.list.toNat + i)) j ∧ (fun i => f (s.list.toNat + i)) j ≤ 255 from fun j => hby _)
  obtain ⟨F, hF⟩ : ∃ F : Nat → Int, F = fun i => f (s.list.toNat + i) := ⟨_, rfl⟩
  rw [← hF] at HG HWR HBY
  rw [HWR.out]
  obtain ⟨l, hl⟩ : ∃ l, l = s.list := ⟨_, rfl⟩
  rw [← hl] at HG c1 ha0 h8 ⊢
  have HL := Lib.hid hl
  clear hM hby h hr ho hp hc HWR hF hl ha1
  go_enter Try.func104, Try.ntmps104
  go_upto_region 1 with fail
  go_region_held3 (fun w' => w'.cell? ⟨wb, 0, none⟩ = some (.pointer (some ⟨b, 0, none⟩)) ∧ w'.cell? ⟨wb, 1, none⟩ = some (.int .u64 l)) (go_keep) (first
    | (go_at_call 110; refine (HG.out).mono ?_; rintro e w1 ⟨bv, rfl, hv, hb⟩; have x0 := (hb.cell (p := ⟨wb, 0, none⟩) hwl).trans c0; have x1 := (hb.cell (p := ⟨wb, 1, none⟩) hwl).trans c1; obtain ⟨g, cap, G, rfl, hg1, hg2, hg3, hg4, hg5⟩ := hv; have HB := Lib.hid hb; have HX := Lib.hid hg2; have HY := Lib.hid hg5; clear hb hg2 hg5)
    | (go_at_call 109; refine (get_ok g 0 8 cap F _ HBY.out (by omega) (by omega) (fun j hj => by rw [Nat.zero_add, HX.out.cell (by omega), HY.out j hj])).mono ?_; rintro e w' ⟨rfl, rfl⟩))
  have HW1 := Lib.hid (H.out.below ((Below.refl _ W).drew.trans HB.out))
  have HK1 := Lib.hid (show Keeps (fun k => ¬ P k) W w1 from kN ((Below.refl _ W).drew.trans HB.out))
  have y1 := HW1.out.fz 1
  have y2 : w1.cell? ⟨wb, 1, none⟩ = some (.int .u64 l) := x1
  clear x0 x1 c0 c1 HX HY HB HG
  go_wp2_with fail
  go_ret
  refine ⟨rfl, HK1.out.setCell (p := ⟨wb, 1, none⟩) (fun _ => H.out.notg) _, ?_⟩
  exact HW1.out.set1 (l + 8)
omit hby in
set_option maxRecDepth 100000 in
set_option maxHeartbeats 2000000 in
theorem address_bad (no : Int) (hc : chk size s.list 8 = no) (hne : (no == 0) = false) :
    Calls Try.prog 104 #[.pointer (some ⟨wb, 0, none⟩)] W fun e W' => e = .panicked [pan no] ∧ Below W.heap.size W W' := by
  have HG := Lib.hid (got_bad b B size f L s.list W.drew (hM.below (Below.refl _ W).drew) ha0 ha1 no hc hne)
  have c0 := h.c0
  have c1 := h.c1
  obtain ⟨l, hl⟩ : ∃ l, l = s.list := ⟨_, rfl⟩
  rw [← hl] at HG c1 ha0
  clear hM h hc hl ha1 hne
  go_enter Try.func104, Try.ntmps104
  go_upto_region 1 with fail
  refine wp_region_held_drew (S := fun w' => w' = W.drew) (by kernel_rfl) rfl (fun hS0 => ?_)
  refine takeD 6 (i := 0) (v := .pointer (some ⟨wb, 0, none⟩)) rfl rfl (by kernel_rfl) (by kernel_rfl) (by kernel_rfl) (fun _ _ _ h => h) (Or.inl ⟨by rfl, by (intro w' hw'; subst hw'; go_simp)⟩) (by assumption) ?_
  try simp only [Act.put, List.setIfInBounds_toArray, List.set_cons_zero, List.set_cons_succ]
  refine takeD 7 (i := 1) (v := .pointer (some ⟨wb, 0, none⟩)) rfl rfl (by kernel_rfl) (by kernel_rfl) (by kernel_rfl) (fun _ _ _ h => h) (Or.inl ⟨by rfl, by (intro w' hw'; subst hw'; go_simp)⟩) (by assumption) ?_
  try simp only [Act.put, List.setIfInBounds_toArray, List.set_cons_zero, List.set_cons_succ]
  refine takeD 8 (i := 2) (v := .pointer (some ⟨wb, 0, none⟩)) rfl rfl (by kernel_rfl) (by kernel_rfl) (by kernel_rfl) (fun _ _ _ h => h) (Or.inl ⟨by rfl, by (intro w' hw'; subst hw'; go_simp)⟩) (by assumption) ?_
  try simp only [Act.put, List.setIfInBounds_toArray, List.set_cons_zero, List.set_cons_succ]
  refine takeD 9 (i := 3) (v := .pointer (some ⟨b, 0, none⟩)) rfl rfl (by kernel_rfl) (by kernel_rfl) (by kernel_rfl) (fun _ _ _ h => h) (Or.inl ⟨by rfl, by (intro w' hw'; subst hw'; go_simp)⟩) (by assumption) ?_
  try simp only [Act.put, List.setIfInBounds_toArray, List.set_cons_zero, List.set_cons_succ]
  refine takeD 10 (i := 4) (v := .func (.func 22) #[.pointer (some ⟨b, 0, none⟩)] #[]) rfl rfl (by kernel_rfl) (by kernel_rfl) (by kernel_rfl) (fun _ _ _ h => h) (Or.inl ⟨by rfl, by (intro w' hw'; subst hw'; go_simp)⟩) (by assumption) ?_
  try simp only [Act.put, List.setIfInBounds_toArray, List.set_cons_zero, List.set_cons_succ]
  refine takeD 11 (i := 5) (v := .pointer (some ⟨wb, 0, none⟩)) rfl rfl (by kernel_rfl) (by kernel_rfl) (by kernel_rfl) (fun _ _ _ h => h) (Or.inl ⟨by rfl, by (intro w' hw'; subst hw'; go_simp)⟩) (by assumption) ?_
  try simp only [Act.put, List.setIfInBounds_toArray, List.set_cons_zero, List.set_cons_succ]
  refine takeD 12 (i := 6) (v := .pointer (some ⟨wb, 0, none⟩)) rfl rfl (by kernel_rfl) (by kernel_rfl) (by kernel_rfl) (fun _ _ _ h => h) (Or.inl ⟨by rfl, by (intro w' hw'; subst hw'; go_simp)⟩) (by assumption) ?_
  try simp only [Act.put, List.setIfInBounds_toArray, List.set_cons_zero, List.set_cons_succ]
  refine takeD 13 (i := 7) (v := .pointer (some ⟨wb, 1, none⟩)) rfl rfl (by kernel_rfl) (by kernel_rfl) (by kernel_rfl) (fun _ _ _ h => h) (Or.inl ⟨by rfl, by (intro w' hw'; subst hw'; go_simp)⟩) (by assumption) ?_
  try simp only [Act.put, List.setIfInBounds_toArray, List.set_cons_zero, List.set_cons_succ]
  refine takeD 14 (i := 8) (v := .int .u64 l) rfl rfl (by kernel_rfl) (by kernel_rfl) (by kernel_rfl) (fun _ _ _ h => h) (Or.inl ⟨by rfl, by (intro w' hw'; subst hw'; go_simp)⟩) (by assumption) ?_
  try simp only [Act.put, List.setIfInBounds_toArray, List.set_cons_zero, List.set_cons_succ]
  refine wpAnyH_ready (rs := [9]) (by kernel_rfl) (by simp) (AllReadyH.cons rfl (fun K hK => ?_) AllReadyH.nil)
  rw [if_pos (by rfl)]
  go_simp
  refine HG.out.mono ?_
  rintro e w1 ⟨rfl, hb⟩
  exact ⟨rfl, rfl, (Below.refl _ W).drew.trans hb⟩
end
end Go.Proofs.Ytfmabknhfehdcaa
