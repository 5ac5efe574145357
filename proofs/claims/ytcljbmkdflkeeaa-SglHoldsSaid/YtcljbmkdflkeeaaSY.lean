/- sgl: add: a span is added. -/
import Derived.Test.YtcljbmkdflkeeaaSX
namespace Go.Proofs.Ytcljbmkdflkeeaa
set_option linter.unusedVariables false
set_option linter.unusedSimpArgs false
open Go.RowKit

def Spn.cells (x : Spn) : Array Value := #[.int .u64 x.a, .int .i64 x.n, .bool x.bk]
theorem sizeSp : (Try.prog.info? 62).map (·.size) = some 3 := by kernel_rfl
theorem infoSp : (Try.prog.info? 62).map (fun i => (i.zero, i.size, i.bytes)) = some (some (.agg #[.int .u64 0, .int .i64 0, .bool false]), 3, 24) := by kernel_rfl

/-- Behind the append: the slice laid into its field. -/
theorem add_mid {P : Nat → Prop} {wb : Nat} {W W1 w2 : World} {m : Value} {th : Bool} {ex : Int} {s : WSt} {v : Value} {gg cap : Nat} {xs : List Value} {X : Obj} (hr : W.rowIs wb 114 9 (wcell m th v ex s)) (ho : W.ownsRow (wb + 1) 62 3 v s.out.length (spC s.out))
    (hp : ∀ k, P k → v.ownBlock ≠ some k) (hng : ¬ P wb) (hlt : ∀ k, P k → k < W.heap.size) (hb : Below W.heap.size W W1)
    (hown : w2.ownsRow (wb + 1) 62 3 (.slice (some ⟨gg, 0, none⟩) (s.out.length + 1) cap) (s.out.length + 1) xs) (hg : (W1.alloc X).drew.grownBy w2 v.ownBlock) (hat : v.ownBlock = some gg ∨ gg = W1.heap.size + 1) :
    Keeps (fun k => ¬ P k) W (w2.setCell ⟨wb, 3, none⟩ (.slice (some ⟨gg, 0, none⟩) (s.out.length + 1) cap)) ∧ (w2.setCell ⟨wb, 3, none⟩ (.slice (some ⟨gg, 0, none⟩) (s.out.length + 1) cap)).rowIs wb 114 9 (wcell m th (.slice (some ⟨gg, 0, none⟩) (s.out.length + 1) cap) ex s) ∧
    (w2.setCell ⟨wb, 3, none⟩ (.slice (some ⟨gg, 0, none⟩) (s.out.length + 1) cap)).ownsRow (wb + 1) 62 3 (.slice (some ⟨gg, 0, none⟩) (s.out.length + 1) cap) (s.out.length + 1) xs ∧ (∀ k, P k → (Value.slice (some ⟨gg, 0, none⟩) (s.out.length + 1) cap).ownBlock ≠ some k) ∧
    (∀ b, b < W1.heap.size → b ≠ wb → v.ownBlock ≠ some b → (w2.setCell ⟨wb, 3, none⟩ (.slice (some ⟨gg, 0, none⟩) (s.out.length + 1) cap)).heap[b]? = W1.heap[b]?) := by
  have hwl := hr.lt
  have hs1 := hb.size
  have hgw : wb + 1 ≤ gg := (hown.lt gg rfl).1
  have hkb : ∀ b, b < W1.heap.size → v.ownBlock ≠ some b → w2.heap[b]? = W1.heap[b]? := fun b hb hne => (hg.block b (by simp; omega) (fun e => hne e.symm)).trans (Below.heap_alloc W1 _ b hb)
  have hk2 : Keeps (fun k => ¬ P k) W w2 := ⟨hg.os.trans hb.os, hg.tape.trans hb.tape, hg.output.trans hb.output, by have := hg.size; simp at this; omega, fun k hk hP => (hkb k (by omega) (hp k (Classical.not_not.1 hP))).trans (hb.block k hk)⟩
  have hkw : Keeps (fun k => v.ownBlock = some k) W w2 := ⟨hk2.os, hk2.tape, hk2.output, hk2.size, fun k hk hP => (hkb k (by omega) hP).trans (hb.block k hk)⟩
  have hr2 : w2.rowIs wb 114 9 (wcell m th v ex s) := hkw.rowIs hr (fun e => by have := (ho.lt wb e).1; omega)
  refine ⟨hk2.setCell (p := ⟨wb, 3, none⟩) (fun _ => hng) _, (hr2.set 3 _).congr fun i _ => ?_, ?_, ?_, ?_⟩
  · unfold wcell
    by_cases e : i = 3
    · subst e; rfl
    · simp only [e, if_false]
  · refine hown.kept (row := some wb) ⟨rfl, rfl, rfl, by simp, fun k hk hne => Below.heap_setCell _ _ _ _ (fun e => hne (by rw [e]))⟩ (.inr ?_)
    intro e
    have e : some gg = some wb := e
    cases e
    omega
  · intro k hk e
    have e : some gg = some k := e
    cases e
    rcases hat with h | h
    · exact hp gg hk h
    · have := hlt gg hk; omega
  · intro b hb2 hne hne2
    rw [Below.heap_setCell _ _ _ _ (fun e => hne e)]
    exact hkb b hb2 hne2

set_option maxRecDepth 100000 in
set_option maxHeartbeats 4000000 in
theorem add_some (P : Nat → Prop) (wb : Nat) (m : Value) (th : Bool) (ex : Int) (s : WSt) (x : Spn) (k : Int) (W : World) (h : Wlk P wb W m th ex s) (hk : min x.n s.left = k) (h0 : 0 < k) (hl : s.out.length ≤ 1048576) (hx : x.n ≤ 9223372036854775807) (hs : s.left ≤ 1048576) :
    Calls Try.prog 67 #[.pointer (some ⟨wb, 0, none⟩), .agg x.cells] W fun e W' => e = .returned (.tuple #[]) ∧ Keeps (fun k => ¬ P k) W W' ∧ Wlk P wb W' m th ex { s with out := s.out ++ [{ x with n := k }], left := s.left - k } := by
  obtain ⟨i0, hi0, hz0, hz1, hz2⟩ := info_parts infoSp
  have H := Lib.hid h
  obtain ⟨v, hr, ho, hp⟩ := h.ex
  have hwl := hr.lt
  have c2 : W.cell? ⟨wb, 2, none⟩ = some (.int .i64 s.left) := hr.cell (i := 2) (by omega)
  have c3 : W.cell? ⟨wb, 3, none⟩ = some v := hr.cell (i := 3) (by omega)
  have f2 := hr.frozen 2
  have f3 := hr.frozen 3
  have HR := Lib.hid hr
  have HO := Lib.hid ho
  have HP := Lib.hid hp
  have HK := Lib.hid hk
  clear h hr ho hp hk
  obtain ⟨a, n, bk⟩ := x
  unfold Spn.cells
  simp only [] at *
  go_enter Try.func67, Try.ntmps67
  go_wp2_with fail
  go_region
  obtain ⟨L, hL⟩ : ∃ L, L = s.left := ⟨_, rfl⟩
  have hif : (if s.left < n then s.left else n) = k := by rw [← HK.out]; rw [Int.min_def]; split <;> split <;> omega
  rw [hif]
  obtain ⟨W1, hW1⟩ : ∃ z, z = (W.alloc (.cells #[.int .u64 a, .int .i64 k, .bool bk] 62)).drew := ⟨_, rfl⟩
  rw [← hW1]
  obtain ⟨sb, hsb⟩ : ∃ z, z = W.heap.size := ⟨_, rfl⟩
  rw [← hsb] at hwl ⊢
  have hb1 : Below W.heap.size W W1 := by rw [hW1]; exact ((Below.refl _ _).alloc (Nat.le_refl _) _).drew
  have s0 : W1.cell? ⟨sb, 0, none⟩ = some (.int .u64 a) := by rw [hW1, hsb]; go_simp
  have s1 : W1.cell? ⟨sb, 1, none⟩ = some (.int .i64 k) := by rw [hW1, hsb]; go_simp
  have s2 : W1.cell? ⟨sb, 2, none⟩ = some (.bool bk) := by rw [hW1, hsb]; go_simp
  have HM := Lib.hid (H.out.more hb1)
  have d2 : W1.cell? ⟨wb, 2, none⟩ = some (.int .i64 L) := (hb1.cell (p := ⟨wb, 2, none⟩) (show wb < _ by omega)).trans (by rw [hL]; exact c2)
  have d3 : W1.cell? ⟨wb, 3, none⟩ = some v := (hb1.cell (p := ⟨wb, 3, none⟩) (show wb < _ by omega)).trans c3
  have g2 : W1.frozen? ⟨wb, 2, none⟩ = false := (hb1.frozen (p := ⟨wb, 2, none⟩) (show wb < _ by omega)).trans f2
  have g3 : W1.frozen? ⟨wb, 3, none⟩ = false := (hb1.frozen (p := ⟨wb, 3, none⟩) (show wb < _ by omega)).trans f3
  have HR1 := Lib.hid ((Keeps.of_below (S := fun _ => False) hb1).rowIs HR.out (fun e => e))
  have HO1 := Lib.hid (HO.out.kept (w' := W1) (row := none) ⟨hb1.os, hb1.tape, hb1.output, hb1.size, fun j hj _ => hb1.block j hj⟩ (by cases v.ownBlock <;> simp))
  have HB1 := Lib.hid hb1
  have hz1' := hb1.size
  have hlb := fun g (e : v.ownBlock = some g) => HO.out.lt g e
  have dk : decide (0 < k) = true := decide_eq_true h0
  have HL := Lib.hid hL
  have hsW : sb < W1.heap.size := by have := World.block_lt_of_cell? _ _ s0; exact this
  have HSB := Lib.hid hsb
  clear hif hb1 hW1 c2 c3 f2 f3 hL hsb
  have hw1 : wb < W1.heap.size := by omega
  go_upto_region 3 with (fail)
  go_region_law ((refine step_append_lies _ (by rfl) _ _ _ (by rfl) (wb + 1) 62 i0 _ 3 24 Try.underlying43 hi0 hz0 hz1 hz2 rfl (by omega) v s.out.length (spC s.out) (by rfl) ((HO1.out.alloc _).drew) ⟨W1.heap.size, 0, none⟩ 1 1 [.int .u64 a, .int .i64 k, .bool bk] (by rfl) (by rfl) (World.news_of_block (cs := #[.int .u64 a, .int .i64 k, .bool bk]) (t := 62) (fr := (0, 0)) (heap_alloc_new W1 _)) (by simp [Value.oneCell']) (by omega) (by unfold maxLen; omega) (by omega) (by simp; omega) (W1.heap.size + 1) (by simp) ?_; intro gg cap w2 hown2 hgrow hat hlt; have hkb : ∀ b, b < W1.heap.size → v.ownBlock ≠ some b → w2.heap[b]? = W1.heap[b]? := fun b hb hne => (hgrow.block b (by simp; omega) (fun e => hne e.symm)).trans (Below.heap_alloc W1 _ b hb); have x3 : w2.cell? ⟨wb, 3, none⟩ = some v := (World.cell?_of_block (w := W1) (a := ⟨wb, 3, none⟩) (hkb wb (by omega) (fun e => by have := hlb _ e; omega))).trans d3; have y3 : w2.frozen? ⟨wb, 3, none⟩ = false := (World.frozen?_of_block (w := W1) (a := ⟨wb, 3, none⟩) (hkb wb (by omega) (fun e => by have := hlb _ e; omega))).trans g3))
  all_goals
    obtain ⟨k3, r3, o3, p3, b3⟩ := add_mid HR.out HO.out HP.out H.out.notg H.out.lt HB1.out hown2 hgrow hat
    obtain ⟨nv, hnv⟩ : ∃ z, z = Value.slice (some ⟨gg, 0, none⟩) (s.out.length + 1) cap := ⟨_, rfl⟩
    rw [← hnv] at k3 r3 o3 p3 b3 ⊢
    obtain ⟨W3, hW3⟩ : ∃ z, z = w2.setCell ⟨wb, 3, none⟩ nv := ⟨_, rfl⟩
    rw [← hW3] at k3 r3 o3 b3 ⊢
    have t2 : W3.cell? ⟨wb, 2, none⟩ = some (.int .i64 L) := by rw [HL.out]; exact r3.cell (i := 2) (by omega)
    have t1 : W3.cell? ⟨sb, 1, none⟩ = some (.int .i64 k) := (World.cell?_of_block (w := W1) (a := ⟨sb, 1, none⟩) (b3 sb hsW (by omega) (fun e => by have := (hlb _ e).2; have := HSB.out; omega))).trans s1
    have y2 : W3.frozen? ⟨wb, 2, none⟩ = false := r3.frozen 2
    have K3 := Lib.hid k3
    have R3 := Lib.hid r3
    have O3 := Lib.hid o3
    have P3 := Lib.hid p3
    clear k3 r3 o3 p3 b3 hW3 hnv x3 y3 hkb hown2 hgrow hat hlt s0 s1 s2 d2 d3 g2 g3 HM HR1 HO1
    have l0 : 0 ≤ L - k := by have := HK.out; have := HL.out; rw [Int.min_def] at *; split at * <;> omega
    have l1 : L - k ≤ 1048576 := by have := HL.out; omega
    have l2 : L ≤ 1048576 := by have := HL.out; omega
    have l3 : 0 ≤ L := by omega
    go_wp2_with fail
    go_region
    all_goals
      go_wp2_with fail
      go_end0
      refine ⟨rfl, (K3.out.setCell (p := ⟨wb, 2, none⟩) (fun _ => H.out.notg) _).drew, ⟨⟨nv, ?_, ?_, P3.out⟩, H.out.notg, fun j hj => Nat.lt_of_lt_of_le (H.out.lt j hj) (by have := K3.out.size; simpa using this)⟩⟩
      · refine World.rowIs.of_block ((R3.out.set 2 (.int .i64 (L - k))).congr fun i _ => ?_) rfl
        rw [HL.out]
        unfold wcell
        by_cases e : i = 2
        · subst e; rfl
        · simp only [e, if_false]
      · have hlen : (s.out ++ [({ a := a, n := k, bk := bk } : Spn)]).length = s.out.length + 1 := by simp
        rw [hlen, spC_append]
        exact (O3.out.kept (w' := W3.setCell ⟨wb, 2, none⟩ (.int .i64 (L - k))) (row := some wb) ⟨rfl, rfl, rfl, by simp, fun j hj hne => Below.heap_setCell _ _ _ _ (fun e => hne (congrArg some e))⟩ (.inr (fun e => by have := (O3.out.lt wb e).1; omega))).drew

set_option maxRecDepth 100000 in
set_option maxHeartbeats 4000000 in
theorem add_none (P : Nat → Prop) (wb : Nat) (m : Value) (th : Bool) (ex : Int) (s : WSt) (x : Spn) (k : Int) (W : World) (h : Wlk P wb W m th ex s) (hk : min x.n s.left = k) (h0 : ¬ 0 < k) :
    Calls Try.prog 67 #[.pointer (some ⟨wb, 0, none⟩), .agg x.cells] W fun e W' => e = .returned (.tuple #[]) ∧ Keeps (fun k => ¬ P k) W W' ∧ Wlk P wb W' m th ex s := by
  have H := Lib.hid h
  obtain ⟨v, hr, ho, hp⟩ := h.ex
  have hwl := hr.lt
  have c2 : W.cell? ⟨wb, 2, none⟩ = some (.int .i64 s.left) := hr.cell (i := 2) (by omega)
  have HK := Lib.hid hk
  clear h hr ho hp hk
  obtain ⟨a, n, bk⟩ := x
  unfold Spn.cells
  simp only [] at *
  go_enter Try.func67, Try.ntmps67
  go_wp2_with fail
  go_region
  have hif : (if s.left < n then s.left else n) = k := by rw [← HK.out]; rw [Int.min_def]; split <;> split <;> omega
  rw [hif]
  have dk : decide (0 < k) = false := decide_eq_false (by omega)
  have HB := Lib.hid (show Below W.heap.size W ((W.alloc (.cells #[.int .u64 a, .int .i64 k, .bool bk] 62)).drew) from ((Below.refl _ _).alloc (Nat.le_refl _) _).drew)
  clear hif
  go_wp2_with fail
  go_end0
  exact ⟨rfl, Keeps.of_below HB.out, H.out.below HB.out⟩
theorem wadd_any (P : Nat → Prop) (wb : Nat) (m : Value) (th : Bool) (ex : Int) (s : WSt) (x : Spn) (W : World) (h : Wlk P wb W m th ex s) (hl : s.out.length ≤ 1048576) (hx : x.n ≤ 9223372036854775807) (hs : s.left ≤ 1048576) :
    Calls Try.prog 67 #[.pointer (some ⟨wb, 0, none⟩), .agg x.cells] W fun e W' => e = .returned (.tuple #[]) ∧ Keeps (fun k => ¬ P k) W W' ∧ Wlk P wb W' m th ex (addS x s) := by
  unfold addS
  by_cases h0 : 0 < min x.n s.left
  · rw [if_pos h0]
    exact add_some P wb m th ex s x _ W h rfl h0 hl hx hs
  · rw [if_neg h0]
    exact add_none P wb m th ex s x _ W h rfl h0
end Go.Proofs.Ytcljbmkdflkeeaa
