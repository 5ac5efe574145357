/- prp: the walk that reads a list: in memory; add. -/
import Derived.Test.YtfploifafpifnaaPA
namespace Go.Proofs.Ytfploifafpifnaa
set_option linter.unusedVariables false
set_option linter.unusedSimpArgs false
open Go.RowKit

/-- the cells of a walk -/
def wcell (m : Value) (s : PSt) (v : Value) : Nat → Value := fun i =>
  if i = 0 then m else if i = 1 then .int .u64 s.list else if i = 2 then .bool s.fresh else if i = 3 then v else .int .i64 s.left
/-- A walk lies in block wb; the blocks P are not its own. -/
structure Wlk (P : Nat → Prop) (wb : Nat) (W : World) (m : Value) (s : PSt) : Prop where
  ex : ∃ v, W.rowIs wb 86 5 (wcell m s v) ∧ W.ownsRow (wb + 1) 49 3 v s.out.length (spC s.out) ∧ ∀ k, P k → v.ownBlock ≠ some k
  notg : ¬ P wb
  lt : ∀ k, P k → k < W.heap.size
namespace Wlk
variable {P : Nat → Prop} {wb : Nat} {W W' : World} {m : Value} {s : PSt}
theorem wlt (h : Wlk P wb W m s) : wb < W.heap.size := by obtain ⟨v, hr, -⟩ := h.ex; exact hr.lt
theorem less {Q : Nat → Prop} (h : Wlk P wb W m s) (hQ : ∀ k, Q k → P k) : Wlk Q wb W m s := by
  obtain ⟨v, hr, ho, hp⟩ := h.ex
  exact ⟨⟨v, hr, ho, fun k hk => hp k (hQ k hk)⟩, fun hg => h.notg (hQ _ hg), fun k hk => h.lt k (hQ k hk)⟩
theorem below (h : Wlk P wb W m s) (hb : Below W.heap.size W W') : Wlk P wb W' m s := by
  obtain ⟨v, hr, ho, hp⟩ := h.ex
  have k := Keeps.of_below (S := fun _ => False) hb
  exact ⟨⟨v, k.rowIs hr (fun e => e), ho.kept (row := none) ⟨k.os, k.tape, k.output, k.size, fun j hj _ => k.block j hj (fun e => e)⟩ (by cases v.ownBlock <;> simp), hp⟩, h.notg, fun j hj => Nat.lt_of_lt_of_le (h.lt j hj) k.size⟩
/-- Blocks made since are not the walk's own. -/
theorem more (h : Wlk P wb W m s) (hb : Below W.heap.size W W') : Wlk (fun k => P k ∨ (W.heap.size ≤ k ∧ k < W'.heap.size)) wb W' m s := by
  obtain ⟨v, hr, ho, hp⟩ := h.ex
  have k := Keeps.of_below (S := fun _ => False) hb
  refine ⟨⟨v, k.rowIs hr (fun e => e), ho.kept (row := none) ⟨k.os, k.tape, k.output, k.size, fun j hj _ => k.block j hj (fun e => e)⟩ (by cases v.ownBlock <;> simp), fun j hj => ?_⟩, fun hg => hg.elim h.notg (fun e => by have := hr.lt; omega), fun j hj => hj.elim (fun e => Nat.lt_of_lt_of_le (h.lt j e) k.size) (fun e => e.2)⟩
  rcases hj with hj | hj
  · exact hp j hj
  · intro e
    have := (ho.lt j e).2
    omega
end Wlk
theorem kN {P : Nat → Prop} {a b : World} (h : Below a.heap.size a b) : Keeps (fun k => ¬ P k) a b := Keeps.of_below h
theorem sizeSp : (Try.prog.info? 49).map (·.size) = some 3 := by kernel_rfl
theorem infoSp : (Try.prog.info? 49).map (fun i => (i.zero, i.size, i.bytes)) = some (some (.agg #[.int .u64 0, .int .i64 0, .bool false]), 3, 24) := by kernel_rfl
/-- Behind the append: the slice laid into its field. -/
theorem add_mid {P : Nat → Prop} {wb : Nat} {W W1 w2 : World} {m : Value} {s : PSt} {v : Value} {gg cap : Nat} {xs : List Value} {X : Obj} (hr : W.rowIs wb 86 5 (wcell m s v)) (ho : W.ownsRow (wb + 1) 49 3 v s.out.length (spC s.out))
    (hp : ∀ k, P k → v.ownBlock ≠ some k) (hng : ¬ P wb) (hlt : ∀ k, P k → k < W.heap.size) (hb : Below W.heap.size W W1)
    (hown : w2.ownsRow (wb + 1) 49 3 (.slice (some ⟨gg, 0, none⟩) (s.out.length + 1) cap) (s.out.length + 1) xs) (hg : (W1.alloc X).grownBy w2 v.ownBlock) (hat : v.ownBlock = some gg ∨ gg = W1.heap.size + 1) :
    Keeps (fun k => ¬ P k) W (w2.setCell ⟨wb, 3, none⟩ (.slice (some ⟨gg, 0, none⟩) (s.out.length + 1) cap)) ∧ (w2.setCell ⟨wb, 3, none⟩ (.slice (some ⟨gg, 0, none⟩) (s.out.length + 1) cap)).rowIs wb 86 5 (wcell m s (.slice (some ⟨gg, 0, none⟩) (s.out.length + 1) cap)) ∧
    (w2.setCell ⟨wb, 3, none⟩ (.slice (some ⟨gg, 0, none⟩) (s.out.length + 1) cap)).ownsRow (wb + 1) 49 3 (.slice (some ⟨gg, 0, none⟩) (s.out.length + 1) cap) (s.out.length + 1) xs ∧ (∀ k, P k → (Value.slice (some ⟨gg, 0, none⟩) (s.out.length + 1) cap).ownBlock ≠ some k) ∧
    (∀ b, b < W1.heap.size → b ≠ wb → v.ownBlock ≠ some b → (w2.setCell ⟨wb, 3, none⟩ (.slice (some ⟨gg, 0, none⟩) (s.out.length + 1) cap)).heap[b]? = W1.heap[b]?) := by
  have hwl := hr.lt
  have hs1 := hb.size
  have hgw : wb + 1 ≤ gg := (hown.lt gg rfl).1
  have hkb : ∀ b, b < W1.heap.size → v.ownBlock ≠ some b → w2.heap[b]? = W1.heap[b]? := fun b hb hne => (hg.block b (by simp; omega) (fun e => hne e.symm)).trans (Below.heap_alloc W1 _ b hb)
  have hk2 : Keeps (fun k => ¬ P k) W w2 := ⟨hg.os.trans hb.os, hg.tape.trans hb.tape, hg.output.trans hb.output, by have := hg.size; simp at this; omega, fun k hk hP => (hkb k (by omega) (hp k (Classical.not_not.1 hP))).trans (hb.block k hk)⟩
  have hkw : Keeps (fun k => v.ownBlock = some k) W w2 := ⟨hk2.os, hk2.tape, hk2.output, hk2.size, fun k hk hP => (hkb k (by omega) hP).trans (hb.block k hk)⟩
  have hr2 : w2.rowIs wb 86 5 (wcell m s v) := hkw.rowIs hr (fun e => by have := (ho.lt wb e).1; omega)
  refine ⟨hk2.setCell (p := ⟨wb, 3, none⟩) (fun _ => hng) _, (hr2.set 3 _).congr fun i _ => ?_, ?_, ?_, ?_⟩
  · unfold wcell
    by_cases e : i = 3
    · subst e; rfl
    · simp only [e, if_false]
  · refine hown.kept (row := some wb) ⟨rfl, rfl, rfl, by simp, fun k hk hne => Below.heap_setCell _ _ _ _ (fun e => hne (by rw [e]))⟩ (.inr ?_)
    intro e
    have e : some gg = some wb := e
    cases e
    omega
  · intro k hk e
    have e : some gg = some k := e
    cases e
    rcases hat with h | h
    · exact hp gg hk h
    · have := hlt gg hk; omega
  · intro b hb2 hne hne2
    rw [Below.heap_setCell _ _ _ _ (fun e => hne e)]
    exact hkb b hb2 hne2


section
variable (P : Nat → Prop) (wb b B size : Nat) (f : Nat → Int) (L : List (Nat × Nat)) (s : PSt) (a k : Int) (W : World) (hM : MemAt W b B size f L) (h : Wlk P wb W (.pointer (some ⟨b, 0, none⟩)) s) (ha0 : 0 ≤ a) (ha1 : a ≤ 18446744073709551615) (hl0 : 0 ≤ s.left) (hl : s.left ≤ 1048576) (hk : min s.left (4096 - a % 4096) = k)
include hM h ha0 ha1 hl0 hl hk
set_option maxRecDepth 100000 in
set_option maxHeartbeats 4000000 in
theorem add_bad (no : Int) (hc : chk size a k = no) (hne : (no == 0) = false) :
    Calls Try.prog 42 #[.pointer (some ⟨wb, 0, none⟩), .int .u64 a] W fun e W' => e = .panicked [pan no] ∧ Below W.heap.size W W' := by
  have H := Lib.hid h
  have HM := Lib.hid hM
  obtain ⟨v, hr, ho, hp⟩ := h.ex
  have hwl := hr.lt
  have c0 : W.cell? ⟨wb, 0, none⟩ = some (.pointer (some ⟨b, 0, none⟩)) := hr.cell (i := 0) (by omega)
  have c4 : W.cell? ⟨wb, 4, none⟩ = some (.int .i64 s.left) := hr.cell (i := 4) (by omega)
  obtain ⟨lf, hlf⟩ : ∃ z, z = s.left := ⟨_, rfl⟩
  rw [← hlf] at c4 hl0 hl hk
  have hif : (if 4096 - a % 4096 < lf then 4096 - a % 4096 else lf) = k := by rw [← hk, Int.min_def]; split <;> split <;> omega
  have HIF := Lib.hid hif
  have HC := Lib.hid hc
  have hk0 : 0 ≤ k := by rw [← hif]; split <;> omega
  have hk1 : k ≤ 4096 := by rw [← hif]; split <;> omega
  have b0 : 0 ≤ a % 4096 := by omega
  have b1 : a % 4096 < 4096 := by omega
  clear hM h hr ho hp hk hif hc hlf
  go_enter Try.func42, Try.ntmps42
  go_upto_region 1 with fail
  rw [HIF.out]
  go_wp2_with (go_at_call 18; refine (check_is b B size f L a k no _ HM.out ha0 ha1 (by omega) (by omega) HC.out).mono ?_; rintro e w1 ⟨rfl, hb⟩; have H1 := Lib.hid hb; clear hb)
  refine (must1_bad _ _).mono ?_
  rintro e w' ⟨rfl, rfl⟩
  exact ⟨rfl, rfl, H1.out.alloc H1.out.size _⟩
set_option maxRecDepth 100000 in
set_option maxHeartbeats 4000000 in
theorem add_ok (hc : chk size a k = 0) (hol : s.out.length ≤ 1048576) :
    Calls Try.prog 42 #[.pointer (some ⟨wb, 0, none⟩), .int .u64 a] W fun e W' => e = .returned (.tuple #[]) ∧ Keeps (fun k => ¬ P k) W W' ∧ Wlk P wb W' (.pointer (some ⟨b, 0, none⟩)) ⟨s.list, s.fresh, s.left - k, s.out ++ [⟨a, k, false⟩]⟩ := by
  obtain ⟨i0, hi0, hz0, hz1, hz2⟩ := info_parts infoSp
  have H := Lib.hid h
  have HM := Lib.hid hM
  obtain ⟨v, hr, ho, hp⟩ := h.ex
  have hwl := hr.lt
  have c0 : W.cell? ⟨wb, 0, none⟩ = some (.pointer (some ⟨b, 0, none⟩)) := hr.cell (i := 0) (by omega)
  have c3 : W.cell? ⟨wb, 3, none⟩ = some v := hr.cell (i := 3) (by omega)
  have c4 : W.cell? ⟨wb, 4, none⟩ = some (.int .i64 s.left) := hr.cell (i := 4) (by omega)
  have f3 := hr.frozen 3
  have f4 := hr.frozen 4
  obtain ⟨lf, hlf⟩ : ∃ z, z = s.left := ⟨_, rfl⟩
  rw [← hlf] at c4 hl0 hl hk
  have hif : (if 4096 - a % 4096 < lf then 4096 - a % 4096 else lf) = k := by rw [← hk, Int.min_def]; split <;> split <;> omega
  have HIF := Lib.hid hif
  have HC := Lib.hid hc
  have HLF := Lib.hid hlf
  have HR := Lib.hid hr
  have HO := Lib.hid ho
  have HP := Lib.hid hp
  have hk0 : 0 ≤ k := by rw [← hif]; split <;> omega
  have hk1 : k ≤ 4096 := by rw [← hif]; split <;> omega
  have hk2 : k ≤ lf := by rw [← hif]; split <;> omega
  have b0 : 0 ≤ a % 4096 := by omega
  have b1 : a % 4096 < 4096 := by omega
  clear hM h hr ho hp hk hif hc hlf
  go_enter Try.func42, Try.ntmps42
  go_upto_region 1 with fail
  rw [HIF.out]
  go_upto_region 3 with (first
    | (go_at_call 18; refine (check_is b B size f L a k 0 _ HM.out ha0 ha1 (by omega) (by omega) HC.out).mono ?_; rintro e w1 ⟨rfl, hb⟩; have H1 := Lib.hid hb; clear hb)
    | (go_at_call 27; refine (must1_ok _ _).mono ?_; rintro e w' ⟨rfl, rfl⟩))
  obtain ⟨W1, hW1⟩ : ∃ z, z = w1.alloc (.cells #[.bool true] 4) := ⟨_, rfl⟩
  rw [← hW1]
  have hb1 : Below W.heap.size W W1 := by rw [hW1]; exact H1.out.alloc H1.out.size _
  have d3 : W1.cell? ⟨wb, 3, none⟩ = some v := (hb1.cell (p := ⟨wb, 3, none⟩) hwl).trans c3
  have HR1 := Lib.hid ((Keeps.of_below (S := fun _ => False) hb1).rowIs HR.out (fun e => e))
  have HO1 := Lib.hid (HO.out.kept (w' := W1) (row := none) ⟨hb1.os, hb1.tape, hb1.output, hb1.size, fun j hj _ => hb1.block j hj⟩ (by cases v.ownBlock <;> simp))
  have HB1 := Lib.hid hb1
  have hz1' := hb1.size
  have g3 : W1.frozen? ⟨wb, 3, none⟩ = false := HR1.out.frozen 3
  clear hW1 hb1 c0 c3 c4 f3 f4
  go_upto_region 4 with (at_builtin; refine wpList_append_lies _ rfl _ _ 25 rfl (wb + 1) 49 i0 _ 3 24 Try.underlying25 hi0 hz0 hz1 hz2 rfl (by decide) v s.out.length (spC s.out) rfl (HO1.out.alloc _) ⟨W1.heap.size, 0, none⟩ 1 1 [.int .u64 a, .int .i64 k, .bool false] rfl rfl (World.news_of_block (cs := #[.int .u64 a, .int .i64 k, .bool false]) (t := 49) (fr := (0, 0)) (heap_alloc_new W1 _)) (by simp [Value.oneCell']) (by decide) (by unfold maxLen; omega) (by omega) (by simp; omega) (W1.heap.size + 1) (by simp) ?_; intro gg cap w2 hown2 hgrow hat hlt; obtain ⟨k3, r3, o3, p3, b3⟩ := add_mid HR.out HO.out HP.out H.out.notg H.out.lt HB1.out hown2 hgrow (by simpa using hat); have x3 := (World.cell?_of_block (w := W1.alloc (.cells #[.int .u64 a, .int .i64 k, .bool false] 49)) (a := ⟨wb, 3, none⟩) (hgrow.block wb (by simp; omega) (fun e => by have := (HO.out.lt wb e.symm).1; omega))).trans ((World.cell?_alloc_lt _ _ _ (by show wb < _; omega)).trans d3); have y3 := (World.frozen?_of_block (w := W1.alloc (.cells #[.int .u64 a, .int .i64 k, .bool false] 49)) (a := ⟨wb, 3, none⟩) (hgrow.block wb (by simp; omega) (fun e => by have := (HO.out.lt wb e.symm).1; omega))).trans ((World.frozen?_of_block (w := W1) (a := ⟨wb, 3, none⟩) (Below.heap_alloc _ _ _ (by show wb < _; omega))).trans g3); have K3 := Lib.hid k3; have R3 := Lib.hid r3; have O3 := Lib.hid o3; have P3 := Lib.hid p3; clear k3 r3 o3 p3 b3 hown2 hgrow hat hlt)
  obtain ⟨nv, hnv⟩ : ∃ z, z = Value.slice (some ⟨gg, 0, none⟩) (s.out.length + 1) cap := ⟨_, rfl⟩
  rw [← hnv] at K3 R3 O3 P3 ⊢
  obtain ⟨W3, hW3⟩ : ∃ z, z = w2.setCell ⟨wb, 3, none⟩ nv := ⟨_, rfl⟩
  rw [← hW3] at K3 R3 O3 ⊢
  have t4 : W3.cell? ⟨wb, 4, none⟩ = some (.int .i64 lf) := by rw [HLF.out]; exact R3.out.cell (i := 4) (by omega)
  have y4 : W3.frozen? ⟨wb, 4, none⟩ = false := R3.out.frozen 4
  clear hW3 hnv x3 y3 HR1 HO1 d3 g3
  have l0 : 0 ≤ lf - k := by omega
  have l1 : lf - k ≤ 1048576 := by omega
  go_wp2_with fail
  go_end0
  rw [← HLF.out]
  refine ⟨rfl, K3.out.setCell (p := ⟨wb, 4, none⟩) (fun _ => H.out.notg) _, ⟨⟨nv, ?_, ?_, P3.out⟩, H.out.notg, fun j hj => Nat.lt_of_lt_of_le (H.out.lt j hj) (by have := K3.out.size; simpa using this)⟩⟩
  · refine (R3.out.set 4 (.int .i64 (lf - k))).congr fun i hi => ?_
    unfold wcell
    by_cases e : i = 4
    · subst e; rfl
    · rw [if_neg e]
      by_cases e0 : i = 0
      · subst e0; rfl
      · by_cases e1 : i = 1
        · subst e1; rfl
        · by_cases e2 : i = 2
          · subst e2; rfl
          · obtain rfl : i = 3 := by omega
            rfl
  · have hlen : (s.out ++ [({ a := a, n := k, bk := false } : Spn)]).length = s.out.length + 1 := by simp
    rw [hlen, spC_append]
    exact O3.out.kept (w' := W3.setCell ⟨wb, 4, none⟩ (.int .i64 (lf - k))) (row := some wb) ⟨rfl, rfl, rfl, by simp, fun j hj hne => Below.heap_setCell _ _ _ _ (fun e => hne (congrArg some e))⟩ (.inr (fun e => by have := (O3.out.lt wb e).1; omega))
end
end Go.Proofs.Ytfploifafpifnaa
