/- sgl: Build: its door, what holds while it runs. -/
import Derived.Test.YtcljbmkdflkeeaaBP
namespace Go.Proofs.Ytcljbmkdflkeeaa
open Go.RowKit

theorem bld_results (tmps : Array Value) (w : World) (db eb : Nat) (A : Array Value) (x : Int) (h2 : tmps.getD 6 undef = .pointer (some ⟨db, 0, none⟩)) (h3 : tmps.getD 7 undef = .pointer (some ⟨eb, 0, none⟩))
    (ha : ArrAt w db A) (hs : A.size = 4) (he : w.cell? ⟨eb, 0, none⟩ = some (.int .i64 x)) :
    (results Try.f19 tmps).run Try.prog w = .ok (.tuple #[.agg A, .int .i64 x]) w := by
  have h2' : tmps[6]?.getD undef = .pointer (some ⟨db, 0, none⟩) := by simpa using h2
  have h3' : tmps[7]?.getD undef = .pointer (some ⟨eb, 0, none⟩) := by simpa using h3
  have hl := ha.loadVar (P := Try.prog) Try.underlying26 rfl (by rw [hs]; exact sizeD)
  have hl2 : (loadVar 28 ⟨eb, 0, none⟩).run Try.prog w = .ok (.int .i64 x) w := by simp [go_sem, he]
  simp only [results, Try.results19]
  simp [Sem.run_bind, Result.andThen, h2', h3', asAddr, hl, hl2]
/-- the deferred call -/
def dfrB (db eb : Nat) : Deferred := { target := .fn (.func 40) #[], args := #[.pointer (some ⟨eb, 0, none⟩), .func (.func 41) #[] #[.pointer (some ⟨db, 0, none⟩)]] }
theorem bld_bad (tmps : Array Value) (w : World) (db eb : Nat) (d : Dsc) (x no : Int) (R : Ending → World → Prop) (h2 : tmps.getD 6 undef = .pointer (some ⟨db, 0, none⟩)) (h3 : tmps.getD 7 undef = .pointer (some ⟨eb, 0, none⟩))
    (ha : ArrAt w db d.cells) (he : w.cell? ⟨eb, 0, none⟩ = some (.int .i64 x)) (hz' : w.frozen? ⟨eb, 0, none⟩ = false) (hne : eb ≠ db)
    (hR : ∀ w', Keeps (Two db eb) w w' → R (.returned (.tuple #[.agg zDsc.cells, .int .i64 no])) w') :
    bodyPostD Try.prog Try.f19 R (Exit.panic [pan no]) { tmps := tmps, defers := [dfrB db eb] } w := by
  show Leaves Try.prog Try.f19 tmps R [dfrB db eb] (.panicking [pan no]) w
  refine leaves_cons (f := 40) (args := #[.pointer (some ⟨eb, 0, none⟩), .func (.func 41) #[] #[.pointer (some ⟨db, 0, none⟩)]]) (by simp) (by simp [go_sem]) ?_
  refine (caught_panicking 41 db eb _ _ x no w (clears_build db) ⟨d, ha⟩ he hz' hne (fun a b h k => h.kept k (fun e => hne (Eq.symm e)))).mono ?_
  rintro e u' w'' ⟨rfl, rfl, hk, hc, hc2⟩
  show Leaves Try.prog Try.f19 tmps R [] .returning w''
  exact ⟨_, bld_results tmps w'' db eb _ no h2 h3 hc rfl hc2, hR w'' hk⟩
theorem bld_good (tmps : Array Value) (w : World) (db eb : Nat) (A : Array Value) (x : Int) (R : Ending → World → Prop) (h2 : tmps.getD 6 undef = .pointer (some ⟨db, 0, none⟩)) (h3 : tmps.getD 7 undef = .pointer (some ⟨eb, 0, none⟩))
    (ha : ArrAt w db A) (hs : A.size = 4) (he : w.cell? ⟨eb, 0, none⟩ = some (.int .i64 x)) (hR : R (.returned (.tuple #[.agg A, .int .i64 x])) w) :
    bodyPostD Try.prog Try.f19 R Exit.ret { tmps := tmps, defers := [dfrB db eb] } w := by
  show Leaves Try.prog Try.f19 tmps R [dfrB db eb] .returning w
  refine leaves_cons (f := 40) (args := #[.pointer (some ⟨eb, 0, none⟩), .func (.func 41) #[] #[.pointer (some ⟨db, 0, none⟩)]]) (by simp) (by simp [go_sem]) ?_
  refine (caught_idle _ _ w).mono ?_
  rintro e u' w'' ⟨rfl, rfl, rfl⟩
  show Leaves Try.prog Try.f19 tmps R [] .returning _
  exact ⟨_, bld_results tmps _ db eb A x h2 h3 ha hs he, hR⟩

/-- What lies in memory while Build runs: its results. -/
structure BSt (w W : World) : Prop where
  below : Below w.heap.size w W
  dsc : ArrAt W w.heap.size zDsc.cells
  err : W.cell? ⟨w.heap.size + 1, 0, none⟩ = some (.int .i64 0)
  efz : W.frozen? ⟨w.heap.size + 1, 0, none⟩ = false
namespace BSt
variable {w W W' : World}
theorem lt (h : BSt w W) : w.heap.size + 1 < W.heap.size := World.block_lt_of_cell? _ _ h.err
theorem kept {S : Nat → Prop} (h : BSt w W) (k : Keeps S W W') (hS : ∀ j, j ≤ w.heap.size + 1 → ¬ S j) : BSt w W' := by
  have hl := h.lt
  refine ⟨h.below.trans (k.below h.below.size (fun j hj => hS j (by omega))), h.dsc.kept k (hS _ (by omega)), k.cell h.err (hS _ (by simp)), ?_⟩
  rw [World.frozen?_of_block (a := ⟨w.heap.size + 1, 0, none⟩) (k.block (w.heap.size + 1) (by omega) (hS _ (by omega)))]
  exact h.efz
theorem beyond (h : BSt w W) (hb : Below W.heap.size W W') : BSt w W' := h.kept (Keeps.of_below (S := fun _ => False) hb) (fun _ _ e => e)
end BSt
theorem bst_start (w : World) : BSt w ((w.alloc (.cells zDsc.cells 26)).alloc (.cells #[.int .i64 0] 28)) := by
  refine ⟨((Below.refl _ w).alloc (Nat.le_refl _) _).alloc (by simp) _, (ArrAt.fresh w zDsc.cells _ (by decide)).alloc _, ?_, ?_⟩
  all_goals go_simp
theorem bl_bad {w W : World} {no : Int} {tmps : Array Value} {R : Ending → World → Prop} (S : BSt w W) (h8 : tmps.getD 6 undef = .pointer (some ⟨w.heap.size, 0, none⟩)) (h9 : tmps.getD 7 undef = .pointer (some ⟨w.heap.size + 1, 0, none⟩))
    (hR : ∀ w', Below w.heap.size w w' → R (.returned (.tuple #[.agg zDsc.cells, .int .i64 no])) w') :
    bodyPostD Try.prog Try.f19 R (Exit.panic [pan no]) { tmps := tmps, defers := [dfrB w.heap.size (w.heap.size + 1)] } W :=
  bld_bad tmps W _ _ zDsc 0 no _ h8 h9 S.dsc S.err S.efz (by omega) fun w' k => hR w' (S.below.trans (k.below (B := w.heap.size) S.below.size (fun j hj e => by rcases e with e | e <;> omega)))

/-- A list of descriptors lies at ao. -/
def DAt (w : World) (ao : Option Addr) (n : Nat) (l : Nat → Dsc) : Prop := ∀ i, i < n → ∃ g o, ao = some ⟨g, o, none⟩ ∧ w.rangeAt g (o + i * 4) (l i).cells.toList
theorem DAt.below {w w' : World} {ao : Option Addr} {n : Nat} {l : Nat → Dsc} {B : Nat} (h : DAt w ao n l) (hb : Below B w w') (hB : ∀ g o, ao = some ⟨g, o, none⟩ → g < B) : DAt w' ao n l := by
  intro i hi
  obtain ⟨g, o, e, hr⟩ := h i hi
  refine ⟨g, o, e, fun j v hj => ?_⟩
  rw [hb.cell (p := ⟨g, o + i * 4 + j, none⟩) (hB g o e)]
  exact hr j v hj
theorem DAt.lt {w : World} {ao : Option Addr} {n : Nat} {l : Nat → Dsc} (h : DAt w ao n l) (hn : 0 < n) : ∃ g o, ao = some ⟨g, o, none⟩ ∧ g < w.heap.size := by
  obtain ⟨g, o, e, hr⟩ := h 0 hn
  exact ⟨g, o, e, World.block_lt_of_cell? _ _ (hr 0 _ rfl)⟩
def Good (d : Dsc) : Prop := Vld d ∧ d.k ≠ 3 ∧ d.k ≠ 4
instance (d : Dsc) : Decidable (Good d) := by unfold Good; infer_instance
/-- the bytes of the first k -/
def flatD (l : Nat → Dsc) : Nat → List Value
  | 0 => []
  | k + 1 => flatD l k ++ dscL (l k)
theorem flatD_length (l : Nat → Dsc) (k : Nat) : (flatD l k).length = 16 * k := by
  induction k with
  | zero => rfl
  | succ k ih => show (flatD l k ++ dscL (l k)).length = _; rw [List.length_append, ih, dscL_length]; omega
/-- byte j of a list -/
def lstB (l : Nat → Dsc) (j : Nat) : Int := if j % 16 < 8 then byteOf (l (j / 16)).a (j % 16) else byteOf (word1 (l (j / 16))) (j % 16 - 8)
theorem dscL_get (d : Dsc) (j : Nat) (h : j < 16) : (dscL d)[j]? = some (.int .u8 (if j < 8 then byteOf d.a j else byteOf (word1 d) (j - 8))) := by
  unfold dscL
  by_cases h8 : j < 8
  · rw [List.getElem?_append_left (by rw [bytesL_length]; exact h8), bytesL_get _ _ _ h8, if_pos h8]
  · rw [List.getElem?_append_right (by rw [bytesL_length]; omega), bytesL_length, bytesL_get _ _ _ (by omega), if_neg h8]
theorem flatD_get (l : Nat → Dsc) (k j : Nat) (h : j < 16 * k) : (flatD l k)[j]? = some (.int .u8 (lstB l j)) := by
  induction k with
  | zero => omega
  | succ k ih =>
    show (flatD l k ++ dscL (l k))[j]? = _
    by_cases hj : j < 16 * k
    · rw [List.getElem?_append_left (by rw [flatD_length]; exact hj)]
      exact ih hj
    · rw [List.getElem?_append_right (by rw [flatD_length]; omega), flatD_length, dscL_get _ _ (by omega)]
      unfold lstB
      have e1 : j / 16 = k := by omega
      have e2 : j % 16 = j - 16 * k := by omega
      rw [e1, e2]
end Go.Proofs.Ytcljbmkdflkeeaa
