/- memory: put, Write, Fill. -/
import Derived.Test.YtfploifafpifnaaMC
namespace Go.Proofs.Ytfploifafpifnaa
set_option linter.unusedVariables false
set_option linter.unusedSimpArgs false
open Go.RowKit

/-- n bytes g from addr on, the others f -/
def upd (f : Nat → Int) (addr n : Nat) (g : Nat → Int) : Nat → Int := fun j => if addr ≤ j ∧ j < addr + n then g (j - addr) else f j
/-- the log after a write -/
def logged (L : List (Nat × Nat)) (addr n : Nat) : List (Nat × Nat) := if n = 0 then L else L ++ [(addr, n)]

theorem stored_upd (F : Nat → Value) (f : Nat → Int) (addr n : Nat) (g : Nat → Int) (i : Nat) (h : F i = .int .u8 (f i)) : stored F addr n g i = .int .u8 (upd f addr n g i) := by
  unfold stored upd
  by_cases h : addr ≤ i ∧ i < addr + n
  · rw [if_pos h, if_pos h]
  · rw [if_neg h, if_neg h]; assumption

set_option maxHeartbeats 1000000 in
theorem put_ok (b B size : Nat) (f : Nat → Int) (L : List (Nat × Nat)) (addr n K : Nat) (lb : Array Value) (g : Nat → Int) (w : World) (h : MemAt w b B size f L)
    (hL : L.length < 4611686018427387904) (hf : addr + n ≤ size)
    (eK : ∀ args w, (callFunc K args).run Try.prog w = .ok (.enter K args) w)
    (H : ∀ i : Nat, i < n → ∀ w1, Keeps (Two b B) w w1 → Calls Try.prog K (#[.int .i64 i] ++ lb) w1 fun e w' => e = .returned (.int .u8 (g i)) ∧ w1 = w') :
   Calls Try.prog 49 #[.pointer (some ⟨b, 0, none⟩), .int .u64 addr, .int .i64 n, .func (.func K) #[] lb] w fun e w' =>
     e = .returned (.int .i64 0) ∧ Keeps (Two b B) w w' ∧ MemAt w' b B size (upd f addr n g) (logged L addr n) := by
  have hs := h.small
  obtain ⟨c0, hsl, hc1, hc2⟩ := h.slice
  have HH := Lib.hid H
  have EE := Lib.hid eK
  have hM := Lib.hid h
  have hsl' := Lib.hid hsl
  clear H eK h hsl
  rcases Nat.eq_zero_or_pos n with rfl | hn
  · go_enter Try.func49, Try.ntmps49
    go_wp2_with fail
    refine (span_ok _ _ _ _ _ 0 _ hsl'.out hs hc1 hc2 hf).mono ?_
    rintro e w1 ⟨⟨ad, rfl, -⟩, hb⟩
    go_wp2_with fail
    go_ret
    refine ⟨rfl, Keeps.of_below hb, ?_⟩
    exact ((hM.out.kept (Keeps.of_below (S := fun _ => False) hb) (fun h => h) (fun h => h)).congr (fun i _ => by unfold upd; rw [if_neg (by omega)]))
  · go_enter Try.func49, Try.ntmps49
    go_wp2_with fail
    refine (span_ok _ _ _ _ _ n _ hsl'.out hs hc1 hc2 hf).mono ?_
    rintro e w1 ⟨⟨ad, rfl, had⟩, hb⟩
    obtain rfl := had hn
    have hM1 := hM.out.kept (Keeps.of_below (S := fun _ => False) hb) (fun h => h) (fun h => h)
    have hne := hM1.ne
    obtain ⟨G, cap, F, g1, g2, g3, g4, g5, g6, g7, g8⟩ := hM1.obj
    have g1' := Lib.hid g1
    have g2' := Lib.hid g2
    have g3' := Lib.hid g3
    have g4' := Lib.hid g4
    have g5' := Lib.hid g5
    have g8' := Lib.hid g8
    clear g1 g2 g3 g4 g5 g8
    go_wp2_with fail
    refine (store_any B cap _ _ addr n n K lb g _ g5'.out (fun _ => rfl) (by omega) g7 EE.out (fun i hi w2 h2 => HH.out i hi w2 ((Keeps.of_below hb).trans h2.two2))).mono ?_
    rintro e w2 ⟨rfl, hk2, hr2⟩
    have g1'' := Lib.hid (hk2.rowIs g1'.out hne)
    go_wp2_with fail
    refine (add_any b L.length G addr n _ g1''.out g2'.out hL).mono ?_
    rintro e w3 ⟨rfl, hk3, hr3⟩
    go_wp2_with fail
    go_ret
    have hn0 : n ≠ 0 := by omega
    refine ⟨rfl, ((Keeps.of_below hb).trans hk2.two2).trans hk3.two1, hne, hs, _, cap, _, hr3, ?_, ?_, ?_, hk3.rowIs hr2 (fun e => hne e.symm), g6, g7, fun i hi => stored_upd F f addr n g i (g8'.out i hi)⟩
    · simp [logged, hn0]
    · rw [if_neg (by omega), if_neg (by omega), if_neg (by omega), if_neg (by omega)]; exact g3'.out
    · unfold logged; rw [if_neg hn0]; exact ring_add addr n g4'.out

set_option maxHeartbeats 1000000 in
theorem put_err (b B size : Nat) (f : Nat → Int) (L : List (Nat × Nat)) (addr n : Int) (fv : Value) (w : World) (h : MemAt w b B size f L)
    (ha : 0 ≤ addr) (ha' : addr ≤ 18446744073709551615) (hn : -9223372036854775808 ≤ n) (hn' : n ≤ 9223372036854775807) (hc : (chk size addr n != 0) = true) :
   Calls Try.prog 49 #[.pointer (some ⟨b, 0, none⟩), .int .u64 addr, .int .i64 n, fv] w fun e w' =>
     e = .returned (.int .i64 (chk size addr n)) ∧ Below w.heap.size w w' := by
  have hs := h.small
  obtain ⟨cap, hsl, -, -⟩ := h.slice
  clear h
  have HC := Lib.hid hc
  have hc0 : (chk size addr n == 0) = false := by simpa using hc
  generalize hk : chk size addr n = k at *
  have HK := Lib.hid hk
  clear hk hc
  go_enter Try.func49, Try.ntmps49
  go_wp2_with fail
  refine (span_err _ _ _ _ _ _ _ hsl hs ha ha' hn hn' (by rw [HK.out]; exact HC.out)).mono ?_
  rw [HK.out]
  rintro e w1 ⟨rfl, hb⟩
  go_wp2_with fail
  go_ret
  exact ⟨rfl, hb⟩

set_option maxHeartbeats 1000000 in
theorem put_nil (addr n : Int) (fv : Value) (w : World)  :
   Calls Try.prog 49 #[.pointer none, .int .u64 addr, .int .i64 n, fv] w fun e w' =>
     e = .returned (.int .i64 1) ∧ w = w' := by
  go_enter Try.func49, Try.ntmps49
  go_wp2_with fail
  refine (span_nil _ _ _).mono ?_
  rintro e w1 ⟨rfl, rfl⟩
  go_wp2_with fail
  go_ret
  exact ⟨rfl, rfl⟩

set_option maxHeartbeats 1000000 in
theorem put_zero (b c m : Nat) (addr n : Int) (fv : Value) (w : World) (h : w.cell? ⟨b, 769, none⟩ = some (.slice none m c)) :
   Calls Try.prog 49 #[.pointer (some ⟨b, 0, none⟩), .int .u64 addr, .int .i64 n, fv] w fun e w' =>
     e = .returned (.int .i64 1) ∧ w = w' := by
  have H := Lib.hid h
  clear h
  go_enter Try.func49, Try.ntmps49
  go_wp2_with fail
  refine (span_zero _ _ _ _ _ _ H.out).mono ?_
  rintro e w1 ⟨rfl, rfl⟩
  go_wp2_with fail
  go_ret
  exact ⟨rfl, rfl⟩

/-- The slice v holds the n bytes s, outside of the blocks S. -/
structure Src (S : Nat → Prop) (w : World) (ao : Option Addr) (n : Nat) (s : Nat → Int) : Prop where
  small : n ≤ 4611686018427387904
  at' : 0 < n → ∃ g o, ao = some ⟨g, o, none⟩ ∧ ¬ S g ∧ ∀ i, i < n → w.cell? ⟨g, o + i, none⟩ = some (.int .u8 (s i))

theorem Src.kept {S T : Nat → Prop} {w w' : World} {ao : Option Addr} {n : Nat} {s : Nat → Int} (h : Src S w ao n s) (k : Keeps T w w') (hT : ∀ b, T b → S b) : Src S w' ao n s := by
  refine ⟨h.small, fun hn => ?_⟩
  obtain ⟨g, o, rfl, hg, hc⟩ := h.at' hn
  exact ⟨g, o, rfl, hg, fun i hi => k.cell (hc i hi) (fun ht => hg (hT _ ht))⟩

set_option maxHeartbeats 1000000 in
theorem write1_any (x g o n c : Nat) (s : Nat → Int) (i : Nat) (w : World) (hx : w.cell? ⟨x, 0, none⟩ = some (.slice (some ⟨g, o, none⟩) n c)) (hi : i < n) (_hn : n ≤ 4611686018427387904)
    (hc : w.cell? ⟨g, o + i, none⟩ = some (.int .u8 (s i))) :
   Calls Try.prog 51 (#[.int .i64 i] ++ #[.pointer (some ⟨x, 0, none⟩)]) w fun e w' => e = .returned (.int .u8 (s i)) ∧ w = w' := by
  show Calls Try.prog 51 #[.int .i64 i, .pointer (some ⟨x, 0, none⟩)] w _
  go_enter Try.func51, Try.ntmps51
  go_wp2
  go_ret
  exact ⟨rfl, rfl⟩

theorem write1_enter (args : Array Value) (w : World) : (callFunc 51 args).run Try.prog w = .ok (.enter 51 args) w := by
  simp [go_sem]

set_option maxHeartbeats 1000000 in
theorem write_ok (b B size : Nat) (f : Nat → Int) (L : List (Nat × Nat)) (addr n c : Nat) (ao : Option Addr) (s : Nat → Int) (w : World) (h : MemAt w b B size f L)
    (hL : L.length < 4611686018427387904) (hf : addr + n ≤ size) (hsrc : Src (Two b B) w ao n s) :
   Calls Try.prog 23 #[.pointer (some ⟨b, 0, none⟩), .int .u64 addr, .slice ao n c] w fun e w' =>
     e = .returned (.int .i64 0) ∧ Keeps (Two b B) w w' ∧ MemAt w' b B size (upd f addr n s) (logged L addr n) := by
  have hM := Lib.hid h
  have hS := Lib.hid hsrc
  have hlt := h.lt
  have hlt' := h.lt'
  clear h hsrc
  go_enter Try.func23, Try.ntmps23
  go_wp2_with fail
  have hk0 : Keeps (Two b B) w (w.alloc (.cells #[.slice ao n c] 24)) := (Keeps.refl _ w).alloc _
  refine (put_ok b B size f L addr n 51 _ s _ (hM.out.kept (((Keeps.refl (fun _ => False) w).alloc _)) (fun h => h) (fun h => h)) hL hf write1_enter ?_).mono ?_
  · intro i hi w1 h1
    obtain ⟨g, o, rfl, hg, hc⟩ := (hS.out).at' (by omega)
    exact write1_any w.heap.size g o n c s i w1 (h1.cell (World.cell?_alloc_new _ _ _ _) (by rintro (e | e) <;> simp at e <;> omega)) hi hS.out.small ((hk0.trans h1).cell (hc i hi) hg)
  · rintro e w1 ⟨rfl, hk, hm⟩
    go_wp2_with fail
    go_ret
    exact ⟨rfl, hk0.trans hk, hm⟩

end Go.Proofs.Ytfploifafpifnaa
