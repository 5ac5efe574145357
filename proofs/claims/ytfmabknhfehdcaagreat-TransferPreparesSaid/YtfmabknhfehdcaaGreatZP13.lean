/- transfer: plain laws: errors are no 0; without a transfer to the host no bucket is left; the spans of a command's data. -/
import Derived.Test.YtfmabknhfehdcaaGreatZP11
namespace Go.Proofs.YtfmabknhfehdcaaGreat
set_option linter.unusedSimpArgs false
set_option linter.unusedVariables false
open Go.RowKit
def NoB (out : List Spn) : Prop := ∀ x ∈ out, x.bk = false
theorem NoB.nil : NoB [] := fun x h => by cases h
theorem NoB.add {out : List Spn} (h : NoB out) (a k : Int) : NoB (out ++ [⟨a, k, false⟩]) := fun x hx => by
 rcases List.mem_append.1 hx with e | e
 ·exact h x e
 ·rw [List.mem_singleton] at e
  subst e
  rfl
section
variable {f : Nat → Int} {size : Nat} {n : Int}
theorem addA_err {a no : Int} {s : PSt} (h : addA size a s = .error no) : no ≠ 0 := by
 unfold addA at h
 split at h
 ·rename_i hc
  cases h
  exact hc
 ·cases h
theorem addA_nb {a : Int} {s s' : PSt} (hs : NoB s.out) (h : addA size a s = .ok s') : NoB s'.out := by
 unfold addA at h
 split at h
 ·cases h
 ·cases h
  exact hs.add _ _
theorem nxtP_err {m no : Int} {s : PSt} (h : nxtP f size m s = .error no) : no ≠ 0 := by
 unfold nxtP at h
 repeat' split at h
 all_goals first | (cases h; first | assumption | decide) | cases h
theorem nxtP_out {m v : Int} {s s' : PSt} (h : nxtP f size m s = .ok (v, s')) : s'.out = s.out := by
 unfold nxtP at h
 repeat' split at h
 all_goals first | cases h; exact rfl | cases h
theorem stepP_err {second pages i no : Int} {s : PSt} (h : stepP f size second pages i s = .error no) : no ≠ 0 := by
 unfold stepP at h
 split at h
 ·rename_i x hx
  cases h
  unfold adrP at hx
  split at hx
  ·exact nxtP_err hx
  ·cases hx
 ·split at h
  ·cases h
   decide
  ·exact addA_err h
theorem stepP_nb {second pages i : Int} {s s' : PSt} (hs : NoB s.out) (h : stepP f size second pages i s = .ok s') : NoB s'.out := by
 unfold stepP at h
 split at h
 ·cases h
 ·rename_i x hx
  obtain ⟨v, t⟩ := x
  split at h
  ·cases h
  ·have ht : t.out = s.out := by
    unfold adrP at hx
    split at hx
    ·exact nxtP_out hx
    ·cases hx; rfl
   exact addA_nb (by rw [ht]; exact hs) h
theorem runP_err {second pages no : Int} : ∀ (k : Nat) (i : Int) (s : PSt), runP f size second pages k i s = .error no → no ≠ 0
 | 0, _, s, h => by cases h
 | k + 1, i, s, h => by
  unfold runP at h
  split at h
  ·rename_i e he
   cases h
   exact stepP_err he
  ·exact runP_err k (i + 1) _ h
theorem runP_nb {second pages : Int} : ∀ (k : Nat) (i : Int) (s : PSt) (l : List Spn), NoB s.out → runP f size second pages k i s = .ok l → NoB l
 | 0, _, s, l, hs, h => by cases h; exact hs
 | k + 1, i, s, l, hs, h => by
  unfold runP at h
  split at h
  ·cases h
  ·rename_i s' he
   exact runP_nb k (i + 1) s' l (stepP_nb hs he) h
theorem spansP_err {first second no : Int} (h : spansP f size first second n = .error no) : no ≠ 0 := by
 unfold spansP at h
 repeat' split at h
 all_goals first
  | (cases h; decide)
  | (cases h; done)
  | (rename_i e he; cases h; exact addA_err he)
  | exact runP_err _ _ _ h
theorem spansP_nb {first second : Int} {l : List Spn} (h : spansP f size first second n = .ok l) : NoB l := by
 unfold spansP at h
 split at h
 ·cases h
 ·split at h
  ·cases h; exact NoB.nil
  ·split at h
   ·cases h
   ·split at h
    ·cases h
    ·rename_i s he
     exact runP_nb _ _ s l (addA_nb (s := ⟨second, true, n, []⟩) NoB.nil he) h
theorem exam_err {th : Bool} {d : Dsc} {s : WSt} {no : Int} (h : exam size th d s = .error no) : no ≠ 0 := by
 unfold exam at h
 repeat' split at h
 all_goals first | (cases h; first | assumption | decide) | cases h
theorem addS_nb {s : WSt} {x : Spn} (hs : NoB s.out) (hx : x.bk = false) : NoB (addS x s).out := by
 unfold addS
 split
 ·have : ({ x with n := min x.n s.left } : Spn) = ⟨x.a, min x.n s.left, false⟩ := by rw [← hx]
  simp only [this]
  exact hs.add _ _
 ·exact hs
theorem exam_nb {d : Dsc} {s s' : WSt} (hs : NoB s.out) (h : exam size false d s = .ok s') : NoB s'.out := by
 unfold exam at h
 split at h
 ·split at h
  ·cases h
  ·split at h
   ·cases h
   ·cases h; exact hs
 ·split at h
  ·cases h
   exact hs
  ·split at h
   ·cases h
   ·cases h
    exact addS_nb hs rfl
theorem runS_err {th : Bool} {no : Int} : ∀ (k : Nat) (d : Dsc) (s : WSt), runS f size th k d s = .error no → no ≠ 0
 | 0, d, s, h => by
  unfold runS at h
  split at h
  ·rename_i e he
   cases h
   exact exam_err he
  ·repeat' split at h
   all_goals first | (cases h; decide) | cases h
 | k + 1, d, s, h => by
  unfold runS at h
  split at h
  ·rename_i e he
   cases h
   exact exam_err he
  ·split at h
   ·cases h
   ·split at h
    ·cases h; decide
    ·split at h
     ·rename_i hc
      cases h
      exact hc
     ·split at h
      ·cases h; decide
      ·exact runS_err k _ _ h
theorem runS_nb : ∀ (k : Nat) (d : Dsc) (s : WSt) (l : List Spn), NoB s.out → runS f size false k d s = .ok l → NoB l
 | 0, d, s, l, hs, h => by
  unfold runS at h
  split at h
  ·cases h
  ·rename_i s' he
   repeat' split at h
   all_goals first | (cases h; exact exam_nb hs he) | cases h
 | k + 1, d, s, l, hs, h => by
  unfold runS at h
  split at h
  ·cases h
  ·rename_i s' he
   split at h
   ·cases h; exact exam_nb hs he
   ·split at h
    ·cases h
    ·split at h
     ·cases h
     ·split at h
      ·cases h
      ·refine runS_nb k _ _ l ?_ h
       have hk := exam_nb hs he
       exact hk
theorem spansM_err {th : Bool} {d : Dsc} {no : Int} (h : spansM f size d n th = .error no) : no ≠ 0 := by
 unfold spansM at h
 split at h
 ·cases h; decide
 ·split at h
  ·cases h
  ·exact runS_err _ _ _ h
theorem spansM_nb {d : Dsc} {l : List Spn} (h : spansM f size d n false = .ok l) : NoB l := by
 unfold spansM at h
 split at h
 ·cases h
 ·split at h
  ·cases h; exact NoB.nil
  ·exact runS_nb _ _ _ l NoB.nil h
end
/-- the spans of a command's data, or the error -/
def spansT (f : Nat → Int) (size : Nat) (sgl : Bool) (d0 d1 n : Int) (th : Bool) : Except Int (List Spn) :=
 if sgl then (if decE d1 = 0 then spansM f size (decD d0 d1) n th else .error (decE d1)) else spansP f size d0 d1 n
def coded : Except Int (List Spn) → Except Int (List Spn)
 | .error no => .error (codeT no)
 | .ok l => .ok l
/-- the spans of a command's data, or the code -/
def dataT (f : Nat → Int) (size : Nat) (sgl : Bool) (d0 d1 n : Int) (th : Bool) : Except Int (List Spn) :=
 if n < 0 ∨ 1048576 < n then .error 2 else coded (spansT f size sgl d0 d1 n th)
theorem spansT_err {f : Nat → Int} {size : Nat} {sgl th : Bool} {d0 d1 n no : Int} (h : spansT f size sgl d0 d1 n th = .error no) : no ≠ 0 := by
 unfold spansT at h
 split at h
 ·split at h
  ·exact spansM_err h
  ·rename_i hc
   cases h
   exact hc
 ·exact spansP_err h
theorem spansT_nb {f : Nat → Int} {size : Nat} {sgl : Bool} {d0 d1 n : Int} {l : List Spn} (h : spansT f size sgl d0 d1 n false = .ok l) : NoB l := by
 unfold spansT at h
 split at h
 ·split at h
  ·exact spansM_nb h
  ·cases h
 ·exact spansP_nb h
theorem spansT_sok {f : Nat → Int} {size : Nat} {sgl th : Bool} {d0 d1 n : Int} {l : List Spn} (hf : Bytes f) (h0 : 0 ≤ d0) (h1 : 0 ≤ d1) (h : spansT f size sgl d0 d1 n th = .ok l) : ∃ left, SOk size n l left := by
 unfold spansT at h
 split at h
 ·split at h
  ·exact spansM_sok hf (decD_a h0) h
  ·cases h
 ·exact spansP_sok hf h0 h1 h
theorem dataT_ok {f : Nat → Int} {size : Nat} {sgl th : Bool} {d0 d1 n : Int} {l : List Spn} (h : dataT f size sgl d0 d1 n th = .ok l) : 0 ≤ n ∧ n ≤ 1048576 ∧ spansT f size sgl d0 d1 n th = .ok l := by
 unfold dataT at h
 split at h
 ·cases h
 ·refine ⟨by omega, by omega, ?_⟩
  cases hx : spansT f size sgl d0 d1 n th with
  | error e => rw [hx] at h; cases h
  | ok l' => rw [hx] at h; exact h
end Go.Proofs.YtfmabknhfehdcaaGreat
namespace Go.Proofs.YtfmabknhfehdcaaGreat
set_option linter.unusedSimpArgs false
set_option linter.unusedVariables false
open Go.RowKit
def Spn.cells (x : Spn) : Array Value := #[.int .u64 x.a, .int .i64 x.n, .bool x.bk]
/-- Behind the append: the slice laid into its field. -/
theorem sadd_mid {P : Nat → Prop} {wb : Nat} {W W1 w2 : World} {m : Value} {th : Bool} {ex : Int} {s : WSt} {v : Value} {gg cap : Nat} {xs : List Value} {X : Obj} (hr : W.rowIs wb 160 9 (swcell m th v ex s)) (ho : W.ownsRow (wb + 1) 65 3 v s.out.length (spC s.out))
  (hp : ∀ k, P k → v.ownBlock ≠ some k) (hng : ¬ P wb) (hlt : ∀ k, P k → k < W.heap.size) (hb : Below W.heap.size W W1)
  (hown : w2.ownsRow (wb + 1) 65 3 (.slice (some ⟨gg, 0, none⟩) (s.out.length + 1) cap) (s.out.length + 1) xs) (hg : (W1.alloc X).drew.grownBy w2 v.ownBlock) (hat : v.ownBlock = some gg ∨ gg = W1.heap.size + 1) :
  Keeps (fun k => ¬ P k) W (w2.setCell ⟨wb, 3, none⟩ (.slice (some ⟨gg, 0, none⟩) (s.out.length + 1) cap)) ∧ (w2.setCell ⟨wb, 3, none⟩ (.slice (some ⟨gg, 0, none⟩) (s.out.length + 1) cap)).rowIs wb 160 9 (swcell m th (.slice (some ⟨gg, 0, none⟩) (s.out.length + 1) cap) ex s) ∧
  (w2.setCell ⟨wb, 3, none⟩ (.slice (some ⟨gg, 0, none⟩) (s.out.length + 1) cap)).ownsRow (wb + 1) 65 3 (.slice (some ⟨gg, 0, none⟩) (s.out.length + 1) cap) (s.out.length + 1) xs ∧ (∀ k, P k → (Value.slice (some ⟨gg, 0, none⟩) (s.out.length + 1) cap).ownBlock ≠ some k) ∧
  (∀ b, b < W1.heap.size → b ≠ wb → v.ownBlock ≠ some b → (w2.setCell ⟨wb, 3, none⟩ (.slice (some ⟨gg, 0, none⟩) (s.out.length + 1) cap)).heap[b]? = W1.heap[b]?) := by
 have hwl := hr.lt
 have hs1 := hb.size
 have hgw : wb + 1 ≤ gg := (hown.lt gg rfl).1
 have hkb : ∀ b, b < W1.heap.size → v.ownBlock ≠ some b → w2.heap[b]? = W1.heap[b]? := fun b hb hne => (hg.block b (by simp; omega) (fun e => hne e.symm)).trans (Below.heap_alloc W1 _ b hb)
 have hk2 : Keeps (fun k => ¬ P k) W w2 := ⟨hg.os.trans hb.os, hg.tape.trans hb.tape, hg.output.trans hb.output, by have := hg.size; simp at this; omega, fun k hk hP => (hkb k (by omega) (hp k (Classical.not_not.1 hP))).trans (hb.block k hk)⟩
 have hkw : Keeps (fun k => v.ownBlock = some k) W w2 := ⟨hk2.os, hk2.tape, hk2.output, hk2.size, fun k hk hP => (hkb k (by omega) hP).trans (hb.block k hk)⟩
 have hr2 : w2.rowIs wb 160 9 (swcell m th v ex s) := hkw.rowIs hr (fun e => by have := (ho.lt wb e).1; omega)
 refine ⟨hk2.setCell (p := ⟨wb, 3, none⟩) (fun _ => hng) _, (hr2.set 3 _).congr fun i _ => ?_, ?_, ?_, ?_⟩
 ·unfold swcell
  by_cases e : i = 3
  ·subst e; rfl
  ·simp only [e, if_false]
 ·refine hown.kept (row := some wb) ⟨rfl, rfl, rfl, by simp, fun k hk hne => Below.heap_setCell _ _ _ _ (fun e => hne (by rw [e]))⟩ (.inr ?_)
  intro e
  have e : some gg = some wb := e
  cases e
  omega
 ·intro k hk e
  have e : some gg = some k := e
  cases e
  rcases hat with h | h
  ·exact hp gg hk h
  ·have := hlt gg hk; omega
 ·intro b hb2 hne hne2
  rw [Below.heap_setCell _ _ _ _ (fun e => hne e)]
  exact hkb b hb2 hne2
set_option maxRecDepth 100000 in
set_option maxHeartbeats 4000000 in
theorem add_some (P : Nat → Prop) (wb : Nat) (m : Value) (th : Bool) (ex : Int) (s : WSt) (x : Spn) (k : Int) (W : World) (h : sWlk P wb W m th ex s) (hk : min x.n s.left = k) (h0 : 0 < k) (hl : s.out.length ≤ 1048576) (hx : x.n ≤ 9223372036854775807) (hs : s.left ≤ 1048576) :
  Calls Tryz.prog 103 #[.pointer (some ⟨wb, 0, none⟩), .agg x.cells] W fun e W' => e = .returned (.tuple #[]) ∧ Keeps (fun k => ¬ P k) W W' ∧ sWlk P wb W' m th ex { s with out := s.out ++ [{ x with n := k }], left := s.left - k } := by
 obtain ⟨i0, hi0, hz0, hz1, hz2⟩ := info_parts infoSp
 have H := Lib.hid h
 obtain ⟨v, hr, ho, hp⟩ := h.ex
 have hwl := hr.lt
 have c2 : W.cell? ⟨wb, 2, none⟩ = some (.int .i64 s.left) := hr.cell (i := 2) (by omega)
 have c3 : W.cell? ⟨wb, 3, none⟩ = some v := hr.cell (i := 3) (by omega)
 have f2 := hr.frozen 2
 have f3 := hr.frozen 3
 have HR := Lib.hid hr
 have HO := Lib.hid ho
 have HP := Lib.hid hp
 have HK := Lib.hid hk
 clear h hr ho hp hk
 obtain ⟨a, n, bk⟩ := x
 unfold Spn.cells
 simp only [] at *
 go_enter Tryz.func103, Tryz.ntmps103
 go_wp2_with fail
 go_region
 obtain ⟨L, hL⟩ : ∃ L, L = s.left := ⟨_, rfl⟩
 have hif : (if s.left < n then s.left else n) = k := by rw [← HK.out]; rw [Int.min_def]; split <;> split <;> omega
 rw [hif]
 obtain ⟨W1, hW1⟩ : ∃ z, z = (W.alloc (.cells #[.int .u64 a, .int .i64 k, .bool bk] 65)).drew := ⟨_, rfl⟩
 rw [← hW1]
 obtain ⟨sb, hsb⟩ : ∃ z, z = W.heap.size := ⟨_, rfl⟩
 rw [← hsb] at hwl ⊢
 have hb1 : Below W.heap.size W W1 := by rw [hW1]; exact ((Below.refl _ _).alloc (Nat.le_refl _) _).drew
 have s0 : W1.cell? ⟨sb, 0, none⟩ = some (.int .u64 a) := by rw [hW1, hsb]; go_simp
 have s1 : W1.cell? ⟨sb, 1, none⟩ = some (.int .i64 k) := by rw [hW1, hsb]; go_simp
 have s2 : W1.cell? ⟨sb, 2, none⟩ = some (.bool bk) := by rw [hW1, hsb]; go_simp
 have HM := Lib.hid (H.out.more hb1)
 have d2 : W1.cell? ⟨wb, 2, none⟩ = some (.int .i64 L) := (hb1.cell (p := ⟨wb, 2, none⟩) (show wb < _ by omega)).trans (by rw [hL]; exact c2)
 have d3 : W1.cell? ⟨wb, 3, none⟩ = some v := (hb1.cell (p := ⟨wb, 3, none⟩) (show wb < _ by omega)).trans c3
 have g2 : W1.frozen? ⟨wb, 2, none⟩ = false := (hb1.frozen (p := ⟨wb, 2, none⟩) (show wb < _ by omega)).trans f2
 have g3 : W1.frozen? ⟨wb, 3, none⟩ = false := (hb1.frozen (p := ⟨wb, 3, none⟩) (show wb < _ by omega)).trans f3
 have HR1 := Lib.hid ((Keeps.of_below (S := fun _ => False) hb1).rowIs HR.out (fun e => e))
 have HO1 := Lib.hid (HO.out.kept (w' := W1) (row := none) ⟨hb1.os, hb1.tape, hb1.output, hb1.size, fun j hj _ => hb1.block j hj⟩ (by cases v.ownBlock <;> simp))
 have HB1 := Lib.hid hb1
 have hz1' := hb1.size
 have hlb := fun g (e : v.ownBlock = some g) => HO.out.lt g e
 have dk : decide (0 < k) = true := decide_eq_true h0
 have HL := Lib.hid hL
 have hsW : sb < W1.heap.size := by have := World.block_lt_of_cell? _ _ s0; exact this
 have HSB := Lib.hid hsb
 clear hif hb1 hW1 c2 c3 f2 f3 hL hsb
 have hw1 : wb < W1.heap.size := by omega
 go_upto_region 3 with (fail)
 go_region_law ((refine step_append_lies _ (by rfl) _ _ _ (by rfl) (wb + 1) 65 i0 _ 3 24 Tryz.underlying32 hi0 hz0 hz1 hz2 rfl (by omega) v s.out.length (spC s.out) (by rfl) ((HO1.out.alloc _).drew) ⟨W1.heap.size, 0, none⟩ 1 1 [.int .u64 a, .int .i64 k, .bool bk] (by rfl) (by rfl) (World.news_of_block (cs := #[.int .u64 a, .int .i64 k, .bool bk]) (t := 65) (fr := (0, 0)) (heap_alloc_new W1 _)) (by simp [Value.oneCell']) (by omega) (by unfold maxLen; omega) (by omega) (by simp; omega) (W1.heap.size + 1) (by simp) ?_; intro gg cap w2 hown2 hgrow hat hlt; have hkb : ∀ b, b < W1.heap.size → v.ownBlock ≠ some b → w2.heap[b]? = W1.heap[b]? := fun b hb hne => (hgrow.block b (by simp; omega) (fun e => hne e.symm)).trans (Below.heap_alloc W1 _ b hb); have x3 : w2.cell? ⟨wb, 3, none⟩ = some v := (World.cell?_of_block (w := W1) (a := ⟨wb, 3, none⟩) (hkb wb (by omega) (fun e => by have := hlb _ e; omega))).trans d3; have y3 : w2.frozen? ⟨wb, 3, none⟩ = false := (World.frozen?_of_block (w := W1) (a := ⟨wb, 3, none⟩) (hkb wb (by omega) (fun e => by have := hlb _ e; omega))).trans g3))
 all_goals
  obtain ⟨k3, r3, o3, p3, b3⟩ := sadd_mid HR.out HO.out HP.out H.out.notg H.out.lt HB1.out hown2 hgrow hat
  obtain ⟨nv, hnv⟩ : ∃ z, z = Value.slice (some ⟨gg, 0, none⟩) (s.out.length + 1) cap := ⟨_, rfl⟩
  rw [← hnv] at k3 r3 o3 p3 b3 ⊢
  obtain ⟨W3, hW3⟩ : ∃ z, z = w2.setCell ⟨wb, 3, none⟩ nv := ⟨_, rfl⟩
  rw [← hW3] at k3 r3 o3 b3 ⊢
  have t2 : W3.cell? ⟨wb, 2, none⟩ = some (.int .i64 L) := by rw [HL.out]; exact r3.cell (i := 2) (by omega)
  have t1 : W3.cell? ⟨sb, 1, none⟩ = some (.int .i64 k) := (World.cell?_of_block (w := W1) (a := ⟨sb, 1, none⟩) (b3 sb hsW (by omega) (fun e => by have := (hlb _ e).2; have := HSB.out; omega))).trans s1
  have y2 : W3.frozen? ⟨wb, 2, none⟩ = false := r3.frozen 2
  have K3 := Lib.hid k3
  have R3 := Lib.hid r3
  have O3 := Lib.hid o3
  have P3 := Lib.hid p3
  clear k3 r3 o3 p3 b3 hW3 hnv x3 y3 hkb hown2 hgrow hat hlt s0 s1 s2 d2 d3 g2 g3 HM HR1 HO1
  have l0 : 0 ≤ L - k := by have := HK.out; have := HL.out; rw [Int.min_def] at *; split at * <;> omega
  have l1 : L - k ≤ 1048576 := by have := HL.out; omega
  have l2 : L ≤ 1048576 := by have := HL.out; omega
  have l3 : 0 ≤ L := by omega
  go_wp2_with fail
  go_region
  all_goals
   go_wp2_with fail
   go_end0
   refine ⟨rfl, (K3.out.setCell (p := ⟨wb, 2, none⟩) (fun _ => H.out.notg) _).drew, ⟨⟨nv, ?_, ?_, P3.out⟩, H.out.notg, fun j hj => Nat.lt_of_lt_of_le (H.out.lt j hj) (by have := K3.out.size; simpa using this)⟩⟩
   ·refine World.rowIs.of_block ((R3.out.set 2 (.int .i64 (L - k))).congr fun i _ => ?_) rfl
    rw [HL.out]
    unfold swcell
    by_cases e : i = 2
    ·subst e; rfl
    ·simp only [e, if_false]
   ·have hlen : (s.out ++ [({ a := a, n := k, bk := bk } : Spn)]).length = s.out.length + 1 := by simp
    rw [hlen, spC_append]
    exact (O3.out.kept (w' := W3.setCell ⟨wb, 2, none⟩ (.int .i64 (L - k))) (row := some wb) ⟨rfl, rfl, rfl, by simp, fun j hj hne => Below.heap_setCell _ _ _ _ (fun e => hne (congrArg some e))⟩ (.inr (fun e => by have := (O3.out.lt wb e).1; omega))).drew
set_option maxRecDepth 100000 in
set_option maxHeartbeats 4000000 in
theorem add_none (P : Nat → Prop) (wb : Nat) (m : Value) (th : Bool) (ex : Int) (s : WSt) (x : Spn) (k : Int) (W : World) (h : sWlk P wb W m th ex s) (hk : min x.n s.left = k) (h0 : ¬ 0 < k) :
  Calls Tryz.prog 103 #[.pointer (some ⟨wb, 0, none⟩), .agg x.cells] W fun e W' => e = .returned (.tuple #[]) ∧ Keeps (fun k => ¬ P k) W W' ∧ sWlk P wb W' m th ex s := by
 have H := Lib.hid h
 obtain ⟨v, hr, ho, hp⟩ := h.ex
 have hwl := hr.lt
 have c2 : W.cell? ⟨wb, 2, none⟩ = some (.int .i64 s.left) := hr.cell (i := 2) (by omega)
 have HK := Lib.hid hk
 clear h hr ho hp hk
 obtain ⟨a, n, bk⟩ := x
 unfold Spn.cells
 simp only [] at *
 go_enter Tryz.func103, Tryz.ntmps103
 go_wp2_with fail
 go_region
 have hif : (if s.left < n then s.left else n) = k := by rw [← HK.out]; rw [Int.min_def]; split <;> split <;> omega
 rw [hif]
 have dk : decide (0 < k) = false := decide_eq_false (by omega)
 have HB := Lib.hid (show Below W.heap.size W ((W.alloc (.cells #[.int .u64 a, .int .i64 k, .bool bk] 65)).drew) from ((Below.refl _ _).alloc (Nat.le_refl _) _).drew)
 clear hif
 go_wp2_with fail
 go_end0
 exact ⟨rfl, Keeps.of_below HB.out, H.out.below HB.out⟩
theorem wadd_any (P : Nat → Prop) (wb : Nat) (m : Value) (th : Bool) (ex : Int) (s : WSt) (x : Spn) (W : World) (h : sWlk P wb W m th ex s) (hl : s.out.length ≤ 1048576) (hx : x.n ≤ 9223372036854775807) (hs : s.left ≤ 1048576) :
  Calls Tryz.prog 103 #[.pointer (some ⟨wb, 0, none⟩), .agg x.cells] W fun e W' => e = .returned (.tuple #[]) ∧ Keeps (fun k => ¬ P k) W W' ∧ sWlk P wb W' m th ex (addS x s) := by
 unfold addS
 by_cases h0 : 0 < min x.n s.left
 ·rw [if_pos h0]
  exact add_some P wb m th ex s x _ W h rfl h0 hl hx hs
 ·rw [if_neg h0]
  exact add_none P wb m th ex s x _ W h rfl h0
end Go.Proofs.YtfmabknhfehdcaaGreat
namespace Go.Proofs.YtfmabknhfehdcaaGreat
set_option linter.unusedSimpArgs false
set_option linter.unusedVariables false
open Go.RowKit
/-- a descriptor boxed -/
theorem box_start (d : Dsc) (w : World) : ∃ W, W = w.alloc (.cells d.cells 72) ∧ Below w.heap.size w W ∧ ArrAt W w.heap.size d.cells ∧ W.heap.size = w.heap.size + 1 :=
 ⟨_, rfl, (Below.refl _ _).alloc (Nat.le_refl _) _, ArrAt.fresh w d.cells _ (by show 0 < 4; omega), by simp⟩
set_option maxRecDepth 100000 in
set_option maxHeartbeats 2000000 in
theorem wcheck_ok (wb b B size : Nat) (f : Nat → Int) (L : List (Nat × Nat)) (d : Dsc) (W : World) (hM : MemAt W b B size f L) (h0 : W.cell? ⟨wb, 0, none⟩ = some (.pointer (some ⟨b, 0, none⟩))) (hd : d.Ok) (hk : chk size d.a d.n = 0) :
  Calls Tryz.prog 102 #[.pointer (some ⟨wb, 0, none⟩), .agg d.cells] W fun e W' => e = .returned (.tuple #[]) ∧ Below W.heap.size W W' := by
 have hwl := World.block_lt_of_cell? _ _ h0
 simp only [] at hwl
 obtain ⟨W1, hW1, hb1, ha1, hs1⟩ := box_start d W
 have HM := Lib.hid (hM.below hb1)
 have HB1 := Lib.hid hb1
 have c0 := (hb1.cell (p := ⟨wb, 0, none⟩) hwl).trans h0
 have c1 : W1.cell? ⟨W.heap.size, 1, none⟩ = some (.int .u64 d.a) := ha1.cell rfl
 have c2 : W1.cell? ⟨W.heap.size, 2, none⟩ = some (.int .i64 d.n) := ha1.cell rfl
 have l1 : wb < W1.heap.size := by omega
 have l2 : W.heap.size < W1.heap.size := by omega
 have hq0 : ∀ p : InC (Below W1.heap.size W1), p.w.cell? ⟨wb, 0, none⟩ = some (.pointer (some ⟨b, 0, none⟩)) := fun p => (p.ok.cell (p := ⟨wb, 0, none⟩) l1).trans c0
 have hq1 : ∀ p : InC (Below W1.heap.size W1), p.w.cell? ⟨W.heap.size, 1, none⟩ = some (.int .u64 d.a) := fun p => (p.ok.cell (p := ⟨W.heap.size, 1, none⟩) l2).trans c1
 have hq2 : ∀ p : InC (Below W1.heap.size W1), p.w.cell? ⟨W.heap.size, 2, none⟩ = some (.int .i64 d.n) := fun p => (p.ok.cell (p := ⟨W.heap.size, 2, none⟩) l2).trans c2
 have HE : Hid (∀ p : InC (Below W1.heap.size W1), Calls Tryz.prog 79 #[.pointer (some ⟨b, 0, none⟩), .int .u64 d.a, .int .i64 d.n] p.w fun e w' => e = .returned (.int .i64 0) ∧ Below W1.heap.size W1 w') :=
  Lib.hid fun p => (check_is b B size f L d.a d.n 0 p.w (HM.out.below p.ok) hd.a.1 hd.a.2 hd.n.1 hd.n.2 hk).mono fun e w' k => ⟨k.1, p.ok.trans (k.2.mono p.ok.size)⟩
 have hNE : Nonempty (InC (Below W1.heap.size W1)) := ⟨⟨W1, Below.refl _ _⟩⟩
 have HW1 := Lib.hid hW1
 obtain ⟨k, a, n, key⟩ := d
 unfold Dsc.cells at *
 simp only [] at *
 clear hM h0 hd hk hW1 hb1 ha1 hs1 c0 c1 c2
 go_enter Tryz.func102, Tryz.ntmps102
 go_upto_region 1 with (fail)
 rw [← HW1.out]
 refine wp_quiet_in (Below W1.heap.size W1) (Below.refl _ _).drew (by kernel_rfl) (by kernel_rfl) ?_
 repeat (go_big_quiet_step (with_reducible exact calls_in (HE.out _)))
 refine wpQuiet_nil ?_
 intro _ hw'
 obtain ⟨q, hw''⟩ := hw'
 subst hw''
 have HB2 := Lib.hid (HB1.out.trans (q.ok.mono (by omega)))
 generalize q.w = W4 at *
 clear hq0 hq1 hq2 hNE HE
 go_wp2_with (go_at_call 58; refine (must_ok _ _).mono ?_; rintro e w' ⟨rfl, rfl⟩)
 go_end0
 exact ⟨rfl, HB2.out⟩
set_option maxRecDepth 100000 in
set_option maxHeartbeats 2000000 in
theorem wcheck_bad (wb b B size : Nat) (f : Nat → Int) (L : List (Nat × Nat)) (d : Dsc) (W : World) (hM : MemAt W b B size f L) (h0 : W.cell? ⟨wb, 0, none⟩ = some (.pointer (some ⟨b, 0, none⟩))) (hd : d.Ok) (no : Int) (hk : chk size d.a d.n = no) (hne : (no == 0) = false) :
  Calls Tryz.prog 102 #[.pointer (some ⟨wb, 0, none⟩), .agg d.cells] W fun e W' => e = .panicked [pan no] ∧ Below W.heap.size W W' := by
 have hwl := World.block_lt_of_cell? _ _ h0
 simp only [] at hwl
 obtain ⟨W1, hW1, hb1, ha1, hs1⟩ := box_start d W
 have HM := Lib.hid (hM.below hb1)
 have HB1 := Lib.hid hb1
 have c0 := (hb1.cell (p := ⟨wb, 0, none⟩) hwl).trans h0
 have c1 : W1.cell? ⟨W.heap.size, 1, none⟩ = some (.int .u64 d.a) := ha1.cell rfl
 have c2 : W1.cell? ⟨W.heap.size, 2, none⟩ = some (.int .i64 d.n) := ha1.cell rfl
 have l1 : wb < W1.heap.size := by omega
 have l2 : W.heap.size < W1.heap.size := by omega
 have hq0 : ∀ p : InC (Below W1.heap.size W1), p.w.cell? ⟨wb, 0, none⟩ = some (.pointer (some ⟨b, 0, none⟩)) := fun p => (p.ok.cell (p := ⟨wb, 0, none⟩) l1).trans c0
 have hq1 : ∀ p : InC (Below W1.heap.size W1), p.w.cell? ⟨W.heap.size, 1, none⟩ = some (.int .u64 d.a) := fun p => (p.ok.cell (p := ⟨W.heap.size, 1, none⟩) l2).trans c1
 have hq2 : ∀ p : InC (Below W1.heap.size W1), p.w.cell? ⟨W.heap.size, 2, none⟩ = some (.int .i64 d.n) := fun p => (p.ok.cell (p := ⟨W.heap.size, 2, none⟩) l2).trans c2
 have HE : Hid (∀ p : InC (Below W1.heap.size W1), Calls Tryz.prog 79 #[.pointer (some ⟨b, 0, none⟩), .int .u64 d.a, .int .i64 d.n] p.w fun e w' => e = .returned (.int .i64 no) ∧ Below W1.heap.size W1 w') :=
  Lib.hid fun p => (check_is b B size f L d.a d.n no p.w (HM.out.below p.ok) hd.a.1 hd.a.2 hd.n.1 hd.n.2 hk).mono fun e w' k => ⟨k.1, p.ok.trans (k.2.mono p.ok.size)⟩
 have hNE : Nonempty (InC (Below W1.heap.size W1)) := ⟨⟨W1, Below.refl _ _⟩⟩
 have HW1 := Lib.hid hW1
 obtain ⟨k, a, n, key⟩ := d
 unfold Dsc.cells at *
 simp only [] at *
 clear hM h0 hd hk hW1 hb1 ha1 hs1 c0 c1 c2
 go_enter Tryz.func102, Tryz.ntmps102
 go_upto_region 1 with (fail)
 rw [← HW1.out]
 refine wp_quiet_in (Below W1.heap.size W1) (Below.refl _ _).drew (by kernel_rfl) (by kernel_rfl) ?_
 repeat (go_big_quiet_step (with_reducible exact calls_in (HE.out _)))
 refine wpQuiet_nil ?_
 intro _ hw'
 obtain ⟨q, hw''⟩ := hw'
 subst hw''
 have HB2 := Lib.hid (HB1.out.trans (q.ok.mono (by omega)))
 generalize q.w = W4 at *
 clear hq0 hq1 hq2 hNE HE
 go_wp2_with (go_at_call 58; refine (must_bad _ _).mono ?_; rintro e w' ⟨rfl, rfl⟩)
 skip
 exact ⟨rfl, rfl, HB2.out⟩
end Go.Proofs.YtfmabknhfehdcaaGreat
namespace Go.Proofs.YtfmabknhfehdcaaGreat
set_option linter.unusedSimpArgs false
set_option linter.unusedVariables false
open Go.RowKit
theorem sWlk.c0 {P : Nat → Prop} {wb : Nat} {W : World} {m : Value} {th : Bool} {ex : Int} {s : WSt} (h : sWlk P wb W m th ex s) : W.cell? ⟨wb, 0, none⟩ = some m := by obtain ⟨v, hr, -⟩ := h.ex; exact hr.cell (i := 0) (by omega)
section
variable (P : Nat → Prop) (wb b B size : Nat) (f : Nat → Int) (L : List (Nat × Nat)) (th : Bool) (ex : Int) (s : WSt) (d : Dsc) (W : World)
set_option maxRecDepth 100000 in
set_option maxHeartbeats 2000000 in
theorem block_ok (hM : MemAt W b B size f L) (h : sWlk P wb W (.pointer (some ⟨b, 0, none⟩)) th ex s) (hd : d.Ok) (hk : chk size d.a d.n = 0) (hl : s.out.length ≤ 1048576) (hs : s.left ≤ 1048576) :
  Calls Tryz.prog 97 #[.pointer (some ⟨wb, 0, none⟩), .agg d.cells] W fun e W' => e = .returned (.tuple #[]) ∧ Keeps (fun k => ¬ P k) W W' ∧ sWlk P wb W' (.pointer (some ⟨b, 0, none⟩)) th ex (addS ⟨d.a, d.n, false⟩ s) := by
 obtain ⟨W1, hW1, hb1, ha1, hs1⟩ := box_start d W
 have HC := Lib.hid (wcheck_ok wb b B size f L d W1 (hM.below hb1) (h.below hb1).c0 hd hk)
 have HW := Lib.hid (h.below hb1)
 have HA := Lib.hid ha1
 have HB1 := Lib.hid hb1
 have HW1 := Lib.hid hW1
 have HADD := Lib.hid fun W (h : sWlk P wb W (.pointer (some ⟨b, 0, none⟩)) th ex s) => wadd_any P wb (.pointer (some ⟨b, 0, none⟩)) th ex s ⟨d.a, d.n, false⟩ W h hl hd.n.2 hs
 have hz : W.heap.size < W1.heap.size := by omega
 obtain ⟨A, hA⟩ : ∃ A, A = d.cells := ⟨_, rfl⟩
 have HSZ := Lib.hid (show (Tryz.prog.info? 72).map (·.size) = some A.size by rw [hA]; exact sizeD)
 have c1 : W1.cell? ⟨W.heap.size, 1, none⟩ = some (.int .u64 d.a) := ha1.cell rfl
 have c2 : W1.cell? ⟨W.heap.size, 2, none⟩ = some (.int .i64 d.n) := ha1.cell rfl
 obtain ⟨a, ha⟩ : ∃ a, a = d.a := ⟨_, rfl⟩
 obtain ⟨n, hn⟩ : ∃ n, n = d.n := ⟨_, rfl⟩
 rw [← hA] at HA HC HW1 ⊢
 rw [← ha] at c1 HADD ⊢
 rw [← hn] at c2 HADD ⊢
 obtain ⟨s', hs'⟩ : ∃ s', s' = addS ⟨a, n, false⟩ s := ⟨_, rfl⟩
 rw [← hs'] at HADD ⊢
 clear hM h hd hk hl hs hW1 hb1 ha1 hs1 hA ha hn hs'
 go_enter Tryz.func97, Tryz.ntmps97
 go_upto_region 1 with (fail)
 rw [← HW1.out]
 go_upto_region 2 with (first
  | ((with_reducible show wpList _ _ _ (⟨some 5, _, _, _, _, _⟩ :: _) _ _); refine wpList_loadA rfl HA.out 72 (.tmp 3) rfl (by first | rfl | simp [Act.eval, Act.put]) Tryz.underlying72 rfl HSZ.out ?_)
  | (go_at_call 102; refine HC.out.mono ?_; rintro e w2 ⟨rfl, hb2⟩))
 have g1 := (hb2.cell (p := ⟨W.heap.size, 1, none⟩) hz).trans c1
 have g2 := (hb2.cell (p := ⟨W.heap.size, 2, none⟩) hz).trans c2
 have HW2 := Lib.hid (HW.out.below hb2)
 have HB2 := Lib.hid (HB1.out.trans (hb2.mono (by omega)))
 clear hb2 c1 c2
 go_wp2_with (go_at_call 103; refine (HADD.out _ HW2.out).mono ?_; rintro e w3 ⟨rfl, hk3, hw3⟩; have HK3 := Lib.hid ((kN (P := P) HB2.out).trans hk3); have HW3 := Lib.hid hw3; clear hk3 hw3)
 go_end0
 exact ⟨rfl, HK3.out, HW3.out⟩
set_option maxRecDepth 100000 in
set_option maxHeartbeats 2000000 in
theorem block_bad (hM : MemAt W b B size f L) (h : W.cell? ⟨wb, 0, none⟩ = some (.pointer (some ⟨b, 0, none⟩))) (hd : d.Ok) (no : Int) (hk : chk size d.a d.n = no) (hne : (no == 0) = false) :
  Calls Tryz.prog 97 #[.pointer (some ⟨wb, 0, none⟩), .agg d.cells] W fun e W' => e = .panicked [pan no] ∧ Below W.heap.size W W' := by
 obtain ⟨W1, hW1, hb1, ha1, hs1⟩ := box_start d W
 have hwl := World.block_lt_of_cell? _ _ h
 simp only [] at hwl
 have HC := Lib.hid (wcheck_bad wb b B size f L d W1 (hM.below hb1) ((hb1.cell (p := ⟨wb, 0, none⟩) hwl).trans h) hd no hk hne)
 have HA := Lib.hid ha1
 have HB1 := Lib.hid hb1
 have HW1 := Lib.hid hW1
 obtain ⟨A, hA⟩ : ∃ A, A = d.cells := ⟨_, rfl⟩
 have HSZ := Lib.hid (show (Tryz.prog.info? 72).map (·.size) = some A.size by rw [hA]; exact sizeD)
 rw [← hA] at HA HC HW1 ⊢
 clear hM h hd hk hW1 hb1 ha1 hs1 hA hne
 go_enter Tryz.func97, Tryz.ntmps97
 go_upto_region 1 with (fail)
 rw [← HW1.out]
 go_wp2_with (first
  | ((with_reducible show wpList _ _ _ (⟨some 5, _, _, _, _, _⟩ :: _) _ _); refine wpList_loadA rfl HA.out 72 (.tmp 3) rfl (by first | rfl | simp [Act.eval, Act.put]) Tryz.underlying72 rfl HSZ.out ?_)
  | (go_at_call 102; refine HC.out.mono ?_; rintro e w2 ⟨rfl, hb2⟩; have HB2 := Lib.hid (HB1.out.trans (hb2.mono HB1.out.size)); clear hb2))
 exact ⟨rfl, rfl, HB2.out⟩
set_option maxRecDepth 100000 in
set_option maxHeartbeats 2000000 in
theorem bucket_any (m : Value) (h : sWlk P wb W m th ex s) (hd : d.Ok) (hl : s.out.length ≤ 1048576) (hs : s.left ≤ 1048576) :
  Calls Tryz.prog 98 #[.pointer (some ⟨wb, 0, none⟩), .agg d.cells] W fun e W' => e = .returned (.tuple #[]) ∧ Keeps (fun k => ¬ P k) W W' ∧ sWlk P wb W' m th ex (if th then addS ⟨0, d.n, true⟩ s else s) := by
 obtain ⟨W1, hW1, hb1, ha1, hs1⟩ := box_start d W
 have HW := Lib.hid (h.below hb1)
 have HB1 := Lib.hid hb1
 have HW1 := Lib.hid hW1
 have HADD := Lib.hid fun W (h : sWlk P wb W m th ex s) => wadd_any P wb m th ex s ⟨0, d.n, true⟩ W h hl hd.n.2 hs
 have c2 : W1.cell? ⟨W.heap.size, 2, none⟩ = some (.int .i64 d.n) := ha1.cell rfl
 have ct : W1.cell? ⟨wb, 1, none⟩ = some (.bool th) := by obtain ⟨v, hr, -⟩ := (h.below hb1).ex; exact hr.cell (i := 1) (by omega)
 obtain ⟨A, hA⟩ : ∃ A, A = d.cells := ⟨_, rfl⟩
 obtain ⟨n, hn⟩ : ∃ n, n = d.n := ⟨_, rfl⟩
 rw [← hA] at HW1 ⊢
 rw [← hn] at c2 HADD ⊢
 obtain ⟨s', hs'⟩ : ∃ s', s' = addS ⟨0, n, true⟩ s := ⟨_, rfl⟩
 rw [← hs'] at HADD ⊢
 clear h hd hl hs hW1 hb1 ha1 hs1 hA hn hs'
 cases th
 ·go_enter Tryz.func98, Tryz.ntmps98
  go_upto_region 1 with (fail)
  rw [← HW1.out]
  go_wp2_with fail
  go_end0
  exact ⟨rfl, kN HB1.out, HW.out⟩
 ·go_enter Tryz.func98, Tryz.ntmps98
  go_upto_region 1 with (fail)
  rw [← HW1.out]
  go_wp2_with (go_at_call 103; refine (HADD.out _ HW.out).mono ?_; rintro e w3 ⟨rfl, hk3, hw3⟩; have HK3 := Lib.hid ((kN (P := P) HB1.out).trans hk3); have HW3 := Lib.hid hw3; clear hk3 hw3)
  go_end0
  exact ⟨rfl, HK3.out, HW3.out⟩
end
end Go.Proofs.YtfmabknhfehdcaaGreat
