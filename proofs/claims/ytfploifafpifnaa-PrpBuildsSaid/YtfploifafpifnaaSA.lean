/- prp: Spans: what its panics leave; the steps of the plain walk. -/
import Derived.Test.YtfploifafpifnaaPN
namespace Go.Proofs.Ytfploifafpifnaa
set_option linter.unusedVariables false
set_option linter.unusedSimpArgs false
open Go.RowKit

theorem must1_ok' (no : Int) (b : Nat) (w : World) (hb : b = w.heap.size) : Calls Try.prog 27 #[.int .i64 no, .slice (some ⟨b, 0, none⟩) 1 1] (w.alloc (.cells #[.bool true] 4)) fun e w' => e = .returned (.tuple #[]) ∧ w.alloc (.cells #[.bool true] 4) = w' := by subst hb; exact must1_ok no w
theorem must1_bad' (no : Int) (b : Nat) (w : World) (hb : b = w.heap.size) : Calls Try.prog 27 #[.int .i64 no, .slice (some ⟨b, 0, none⟩) 1 1] (w.alloc (.cells #[.bool false] 4)) fun e w' => e = .panicked [pan no] ∧ w.alloc (.cells #[.bool false] 4) = w' := by subst hb; exact must1_bad no w
theorem must2_ok' (no : Int) (b : Nat) (w : World) (hb : b = w.heap.size) : Calls Try.prog 27 #[.int .i64 no, .slice (some ⟨b, 0, none⟩) 2 2] (w.alloc (.cells #[.bool true, .bool true] 4)) fun e w' => e = .returned (.tuple #[]) ∧ w.alloc (.cells #[.bool true, .bool true] 4) = w' := by subst hb; exact must2_ok no w
theorem must2_bad' (no : Int) (x y : Bool) (h : x = false ∨ y = false) (b : Nat) (w : World) (hb : b = w.heap.size) : Calls Try.prog 27 #[.int .i64 no, .slice (some ⟨b, 0, none⟩) 2 2] (w.alloc (.cells #[.bool x, .bool y] 4)) fun e w' => e = .panicked [pan no] ∧ w.alloc (.cells #[.bool x, .bool y] 4) = w' := by subst hb; exact must2_bad no x y h w
theorem must5_ok' (no : Int) (b : Nat) (w : World) (hb : b = w.heap.size) : Calls Try.prog 27 #[.int .i64 no, .slice (some ⟨b, 0, none⟩) 5 5] (w.alloc (.cells #[.bool true, .bool true, .bool true, .bool true, .bool true] 4)) fun e w' => e = .returned (.tuple #[]) ∧ w.alloc (.cells #[.bool true, .bool true, .bool true, .bool true, .bool true] 4) = w' := by subst hb; exact must5_ok no w

theorem spans_results (tmps : Array Value) (w : World) (ob eb : Nat) (v : Value) (x : Int) (h2 : tmps.getD 8 undef = .pointer (some ⟨ob, 0, none⟩)) (h3 : tmps.getD 9 undef = .pointer (some ⟨eb, 0, none⟩))
    (hf : w.cell? ⟨ob, 0, none⟩ = some v) (he : w.cell? ⟨eb, 0, none⟩ = some (.int .i64 x)) :
    (results Try.f16 tmps).run Try.prog w = .ok (.tuple #[v, .int .i64 x]) w := by
  have h2' : tmps[8]?.getD undef = .pointer (some ⟨ob, 0, none⟩) := by simpa using h2
  have h3' : tmps[9]?.getD undef = .pointer (some ⟨eb, 0, none⟩) := by simpa using h3
  simp [results, Try.results16, h2', h3', asAddr, go_sem, he, hf]
/-- the deferred call -/
def dfrS (ob eb : Nat) : Deferred := { target := .fn (.func 25) #[], args := #[.pointer (some ⟨eb, 0, none⟩), .func (.func 40) #[] #[.pointer (some ⟨ob, 0, none⟩)]] }
theorem spans_bad (tmps : Array Value) (w : World) (ob eb : Nat) (v : Value) (x no : Int) (R : Ending → World → Prop) (h2 : tmps.getD 8 undef = .pointer (some ⟨ob, 0, none⟩)) (h3 : tmps.getD 9 undef = .pointer (some ⟨eb, 0, none⟩))
    (hf : w.cell? ⟨ob, 0, none⟩ = some v) (hz : w.frozen? ⟨ob, 0, none⟩ = false) (he : w.cell? ⟨eb, 0, none⟩ = some (.int .i64 x)) (hz' : w.frozen? ⟨eb, 0, none⟩ = false) (hne : eb ≠ ob)
    (hR : ∀ w', Keeps (Two ob eb) w w' → R (.returned (.tuple #[.slice none 0 0, .int .i64 no])) w') :
    bodyPostD Try.prog Try.f16 R (Exit.panic [pan no]) { tmps := tmps, defers := [dfrS ob eb] } w := by
  show Leaves Try.prog Try.f16 tmps R [dfrS ob eb] (.panicking [pan no]) w
  refine leaves_cons (f := 25) (args := #[.pointer (some ⟨eb, 0, none⟩), .func (.func 40) #[] #[.pointer (some ⟨ob, 0, none⟩)]]) (by simp) (by simp [go_sem]) ?_
  refine (caught_panicking 40 _ (One ob) eb _ _ x no w (clears_spans ob) ⟨⟨v, hf⟩, hz⟩ he hz' (fun e => hne e) (fun a b h k => k.cell h (fun e => hne (Eq.symm e)))).mono ?_
  rintro e u' w'' ⟨rfl, rfl, hk, hc, hc2⟩
  show Leaves Try.prog Try.f16 tmps R [] .returning w''
  exact ⟨_, spans_results tmps w'' ob eb _ no h2 h3 hc hc2, hR w'' (hk.mono fun j _ e => e.elim (fun e => .inl e) (fun e => .inr e))⟩
theorem spans_good (tmps : Array Value) (w : World) (ob eb : Nat) (v : Value) (x : Int) (R : Ending → World → Prop) (h2 : tmps.getD 8 undef = .pointer (some ⟨ob, 0, none⟩)) (h3 : tmps.getD 9 undef = .pointer (some ⟨eb, 0, none⟩))
    (hf : w.cell? ⟨ob, 0, none⟩ = some v) (he : w.cell? ⟨eb, 0, none⟩ = some (.int .i64 x)) (hR : R (.returned (.tuple #[v, .int .i64 x])) w) :
    bodyPostD Try.prog Try.f16 R Exit.ret { tmps := tmps, defers := [dfrS ob eb] } w := by
  show Leaves Try.prog Try.f16 tmps R [dfrS ob eb] .returning w
  refine leaves_cons (f := 25) (args := #[.pointer (some ⟨eb, 0, none⟩), .func (.func 40) #[] #[.pointer (some ⟨ob, 0, none⟩)]]) (by simp) (by simp [go_sem]) ?_
  refine (caught_idle _ _ w).mono ?_
  rintro e u' w'' ⟨rfl, rfl, rfl⟩
  show Leaves Try.prog Try.f16 tmps R [] .returning _
  exact ⟨_, spans_results tmps _ ob eb v x h2 h3 hf he, hR⟩
/-- What Spans leaves. -/
def SpPost (w : World) (r : Except Int (List Spn)) (e : Ending) (w' : World) : Prop :=
  Below w.heap.size w w' ∧ match r with
  | .error no => e = .returned (.tuple #[.slice none 0 0, .int .i64 no])
  | .ok l => ∃ v, e = .returned (.tuple #[v, .int .i64 0]) ∧ w'.ownsRow w.heap.size 49 3 v l.length (spC l)

/-- What lies in memory while Spans runs: its variables. -/
structure SSt (w W : World) : Prop where
  below : Below w.heap.size w W
  out : W.cell? ⟨w.heap.size, 0, none⟩ = some (.slice none 0 0)
  ofz : W.frozen? ⟨w.heap.size, 0, none⟩ = false
  err : W.cell? ⟨w.heap.size + 1, 0, none⟩ = some (.int .i64 0)
  efz : W.frozen? ⟨w.heap.size + 1, 0, none⟩ = false
namespace SSt
variable {w W W' : World}
theorem lt (h : SSt w W) : w.heap.size + 1 < W.heap.size := World.block_lt_of_cell? _ _ h.err
theorem kept {S : Nat → Prop} (h : SSt w W) (k : Keeps S W W') (hS : ∀ j, j ≤ w.heap.size + 1 → ¬ S j) : SSt w W' := by
  have hl := h.lt
  refine ⟨h.below.trans (k.below h.below.size (fun j hj => hS j (by omega))), k.cell h.out (hS _ (by simp)), ?_, k.cell h.err (hS _ (by simp)), ?_⟩
  · rw [World.frozen?_of_block (a := ⟨w.heap.size, 0, none⟩) (k.block (w.heap.size) (by omega) (hS _ (by omega)))]; exact h.ofz
  · rw [World.frozen?_of_block (a := ⟨w.heap.size + 1, 0, none⟩) (k.block (w.heap.size + 1) (by omega) (hS _ (by omega)))]; exact h.efz
theorem beyond (h : SSt w W) (hb : Below W.heap.size W W') : SSt w W' := h.kept (Keeps.of_below (S := fun _ => False) hb) (fun _ _ e => e)
end SSt

theorem sst_start (w : World) : SSt w ((w.alloc (.cells #[.slice none 0 0] 25)).alloc (.cells #[.int .i64 0] 32)) := by
  refine ⟨((Below.refl _ w).alloc (Nat.le_refl _) _).alloc (by simp) _, ?_, ?_, ?_, ?_⟩
  all_goals go_simp
theorem sp_bad {w W : World} {no : Int} {tmps : Array Value} (S : SSt w W) (h8 : tmps.getD 8 undef = .pointer (some ⟨w.heap.size, 0, none⟩)) (h9 : tmps.getD 9 undef = .pointer (some ⟨w.heap.size + 1, 0, none⟩)) :
    bodyPostD Try.prog Try.f16 (SpPost w (.error no)) (Exit.panic [pan no]) { tmps := tmps, defers := [dfrS (w.heap.size) (w.heap.size + 1)] } W :=
  spans_bad tmps W _ _ _ 0 no _ h8 h9 S.out S.ofz S.err S.efz (by omega) fun w' k => ⟨S.below.trans (k.below (B := w.heap.size) S.below.size (fun j hj e => by rcases e with e | e <;> omega)), rfl⟩

section
variable {f : Nat → Int} {size : Nat} {second K i : Int} {k : Nat} {s : PSt} {R : Except Int (List Spn)}
theorem run_err1 {no : Int} (h : runP f size second K (k + 1) i s = R) (hx : adrP f size second K i s = .error no) : R = .error no := by
  rw [← h]; unfold runP stepP; rw [hx]
theorem run_err2 {x : Int × PSt} (h : runP f size second K (k + 1) i s = R) (hx : adrP f size second K i s = .ok x) (ha : x.1 % 4096 ≠ 0) : R = .error 150 := by
  rw [← h]; unfold runP stepP; rw [hx]; simp only []; rw [if_pos ha]
theorem run_err3 {x : Int × PSt} (h : runP f size second K (k + 1) i s = R) (hx : adrP f size second K i s = .ok x) (ha : x.1 % 4096 = 0) {no : Int} (hc : chk size x.1 (min x.2.left (4096 - x.1 % 4096)) = no) (hn : no ≠ 0) : R = .error no := by
  rw [← h]; unfold runP stepP; rw [hx]; simp only []; rw [if_neg (fun c => c ha)]; unfold addA; rw [hc, if_pos hn]
theorem run_more {x : Int × PSt} {m : Int} (h : runP f size second K (k + 1) i s = R) (hx : adrP f size second K i s = .ok x) (ha : x.1 % 4096 = 0) (hm : min x.2.left (4096 - x.1 % 4096) = m) (hc : chk size x.1 m = 0) :
    runP f size second K k (i + 1) ⟨x.2.list, x.2.fresh, x.2.left - m, x.2.out ++ [⟨x.1, m, false⟩]⟩ = R := by
  rw [← h]
  conv => rhs; unfold runP stepP
  rw [hx]; simp only []; rw [if_neg (fun c => c ha)]; unfold addA; rw [hm, hc, if_neg (by omega)]
theorem nxt_keeps {x : Int × PSt} (hf : Bytes f) (hz : size ≤ 4194304) (hl : 0 ≤ s.list) (h : nxtP f size K s = .ok x) : (0 ≤ x.1 ∧ x.1 ≤ 18446744073709551615) ∧ (0 ≤ x.2.list ∧ x.2.list ≤ 18446744073709551615) ∧ x.2.left = s.left ∧ x.2.out = s.out := by
  unfold nxtP at h
  split at h
  · cases h
  · split at h
    · cases h
    · rename_i hc
      obtain ⟨c1, c2⟩ := chk_ok (Classical.not_not.1 hc)
      split at h
      · split at h
        · cases h
        · split at h
          · cases h
          · rename_i hd
            obtain ⟨d1, d2⟩ := chk_ok (Classical.not_not.1 hd)
            cases h
            have := (wrd_bd hf s.list).1
            exact ⟨wrd_bd hf _, ⟨by simp only []; omega, by simp only []; omega⟩, rfl, rfl⟩
      · cases h
        refine ⟨wrd_bd hf _, ?_, rfl, rfl⟩
        simp only []
        omega
end
end Go.Proofs.Ytfploifafpifnaa
