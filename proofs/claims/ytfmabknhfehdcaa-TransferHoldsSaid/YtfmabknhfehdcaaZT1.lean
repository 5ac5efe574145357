/- memory: put, Write, Fill. -/
import Derived.Test.YtfmabknhfehdcaaZT0
import Derived.Deep.MidRow
import Derived.Laws.ResultCell
import Derived.BigQuiet
import Derived.Deep.QuietTactic
import Derived.IntWalk
import Derived.Maps.AppendAt
import Derived.BigRegion
import Derived.Laws.BitsAllLaws
namespace Go.Proofs.Ytfmabknhfehdcaa
set_option linter.unusedSimpArgs false
open Go.RowKit

/-- n bytes g from addr on, the others f -/
def upd (f : Nat → Int) (addr n : Nat) (g : Nat → Int) : Nat → Int := fun j => if addr ≤ j ∧ j < addr + n then g (j - addr) else f j
/-- the log after a write -/
def logged (L : List (Nat × Nat)) (addr n : Nat) : List (Nat × Nat) := if n = 0 then L else L ++ [(addr, n)]

theorem stored_upd (F : Nat → Value) (f : Nat → Int) (addr n : Nat) (g : Nat → Int) (i : Nat) (h : F i = .int .u8 (f i)) : stored F addr n g i = .int .u8 (upd f addr n g i) := by
  unfold stored upd
  by_cases h : addr ≤ i ∧ i < addr + n
  · rw [if_pos h, if_pos h]
  · rw [if_neg h, if_neg h]; assumption

set_option maxHeartbeats 1000000 in
theorem put_ok (b B size : Nat) (f : Nat → Int) (L : List (Nat × Nat)) (addr n K : Nat) (lb : Array Value) (g : Nat → Int) (w : World) (h : MemAt w b B size f L)
    (hL : L.length < 4611686018427387904) (hf : addr + n ≤ size)
    (eK : ∀ args w, (callFunc K args).run Try.prog w = .ok (.enter K args) w)
    (H : ∀ i : Nat, i < n → ∀ w1, Keeps (Two b B) w w1 → Calls Try.prog K (#[.int .i64 i] ++ lb) w1 fun e w' => e = .returned (.int .u8 (g i)) ∧ w1 = w') :
   Calls Try.prog 53 #[.pointer (some ⟨b, 0, none⟩), .int .u64 addr, .int .i64 n, .func (.func K) #[] lb] w fun e w' =>
     e = .returned (.int .i64 0) ∧ Keeps (Two b B) w w' ∧ MemAt w' b B size (upd f addr n g) (logged L addr n) := by
  have hs := h.small
  obtain ⟨c0, hsl, hc1, hc2⟩ := h.slice
  have HH := Lib.hid H
  have EE := Lib.hid eK
  have hM := Lib.hid h
  have hsl' := Lib.hid hsl
  clear H eK h hsl
  rcases Nat.eq_zero_or_pos n with rfl | hn
  · go_enter Try.func53, Try.ntmps53
    go_wp2_with fail
    refine (span_ok _ _ _ _ _ 0 _ hsl'.out hs hc1 hc2 hf).mono ?_
    rintro e w1 ⟨⟨ad, rfl, -⟩, hb⟩
    go_wp2_with fail
    go_ret
    refine ⟨rfl, Keeps.of_below hb, ?_⟩
    exact ((hM.out.kept (Keeps.of_below (S := fun _ => False) hb) (fun h => h) (fun h => h)).congr (fun i _ => by unfold upd; rw [if_neg (by omega)]))
  · go_enter Try.func53, Try.ntmps53
    go_wp2_with fail
    refine (span_ok _ _ _ _ _ n _ hsl'.out hs hc1 hc2 hf).mono ?_
    rintro e w1 ⟨⟨ad, rfl, had⟩, hb⟩
    obtain rfl := had hn
    have hM1 := hM.out.kept (Keeps.of_below (S := fun _ => False) hb) (fun h => h) (fun h => h)
    have hne := hM1.ne
    obtain ⟨G, cap, F, g1, g2, g3, g4, g5, g6, g7, g8⟩ := hM1.obj
    have g1' := Lib.hid g1
    have g2' := Lib.hid g2
    have g3' := Lib.hid g3
    have g4' := Lib.hid g4
    have g5' := Lib.hid g5
    have g8' := Lib.hid g8
    clear g1 g2 g3 g4 g5 g8
    go_wp2_with fail
    refine (store_any B cap _ _ addr n n K lb g _ g5'.out (fun _ => rfl) (by omega) g7 EE.out (fun i hi w2 h2 => HH.out i hi w2 ((Keeps.of_below hb).trans h2.two2))).mono ?_
    rintro e w2 ⟨rfl, hk2, hr2⟩
    have g1'' := Lib.hid (hk2.rowIs g1'.out hne)
    go_wp2_with fail
    refine (add_any b L.length G addr n _ g1''.out g2'.out hL).mono ?_
    rintro e w3 ⟨rfl, hk3, hr3⟩
    go_wp2_with fail
    go_ret
    have hn0 : n ≠ 0 := by omega
    refine ⟨rfl, ((Keeps.of_below hb).trans hk2.two2).trans hk3.two1, hne, hs, _, cap, _, hr3, ?_, ?_, ?_, hk3.rowIs hr2 (fun e => hne e.symm), g6, g7, fun i hi => stored_upd F f addr n g i (g8'.out i hi)⟩
    · simp [logged, hn0]
    · rw [if_neg (by omega), if_neg (by omega), if_neg (by omega), if_neg (by omega)]; exact g3'.out
    · unfold logged; rw [if_neg hn0]; exact ring_add addr n g4'.out

set_option maxHeartbeats 1000000 in
theorem put_err (b B size : Nat) (f : Nat → Int) (L : List (Nat × Nat)) (addr n : Int) (fv : Value) (w : World) (h : MemAt w b B size f L)
    (ha : 0 ≤ addr) (ha' : addr ≤ 18446744073709551615) (hn : -9223372036854775808 ≤ n) (hn' : n ≤ 9223372036854775807) (hc : (chk size addr n != 0) = true) :
   Calls Try.prog 53 #[.pointer (some ⟨b, 0, none⟩), .int .u64 addr, .int .i64 n, fv] w fun e w' =>
     e = .returned (.int .i64 (chk size addr n)) ∧ Below w.heap.size w w' := by
  have hs := h.small
  obtain ⟨cap, hsl, -, -⟩ := h.slice
  clear h
  have HC := Lib.hid hc
  have hc0 : (chk size addr n == 0) = false := by simpa using hc
  generalize hk : chk size addr n = k at *
  have HK := Lib.hid hk
  clear hk hc
  go_enter Try.func53, Try.ntmps53
  go_wp2_with fail
  refine (span_err _ _ _ _ _ _ _ hsl hs ha ha' hn hn' (by rw [HK.out]; exact HC.out)).mono ?_
  rw [HK.out]
  rintro e w1 ⟨rfl, hb⟩
  go_wp2_with fail
  go_ret
  exact ⟨rfl, hb⟩

/-- The slice v holds the n bytes s, outside of the blocks S. -/
structure Src (S : Nat → Prop) (w : World) (ao : Option Addr) (n : Nat) (s : Nat → Int) : Prop where
  small : n ≤ 4611686018427387904
  at' : 0 < n → ∃ g o, ao = some ⟨g, o, none⟩ ∧ ¬ S g ∧ ∀ i, i < n → w.cell? ⟨g, o + i, none⟩ = some (.int .u8 (s i))

theorem Src.kept {S T : Nat → Prop} {w w' : World} {ao : Option Addr} {n : Nat} {s : Nat → Int} (h : Src S w ao n s) (k : Keeps T w w') (hT : ∀ b, T b → S b) : Src S w' ao n s := by
  refine ⟨h.small, fun hn => ?_⟩
  obtain ⟨g, o, rfl, hg, hc⟩ := h.at' hn
  exact ⟨g, o, rfl, hg, fun i hi => k.cell (hc i hi) (fun ht => hg (hT _ ht))⟩

set_option maxHeartbeats 1000000 in
theorem write1_any (x g o n c : Nat) (s : Nat → Int) (i : Nat) (w : World) (hx : w.cell? ⟨x, 0, none⟩ = some (.slice (some ⟨g, o, none⟩) n c)) (hi : i < n) (_hn : n ≤ 4611686018427387904)
    (hc : w.cell? ⟨g, o + i, none⟩ = some (.int .u8 (s i))) :
   Calls Try.prog 54 (#[.int .i64 i] ++ #[.pointer (some ⟨x, 0, none⟩)]) w fun e w' => e = .returned (.int .u8 (s i)) ∧ w = w' := by
  show Calls Try.prog 54 #[.int .i64 i, .pointer (some ⟨x, 0, none⟩)] w _
  go_enter Try.func54, Try.ntmps54
  go_wp2
  go_ret
  exact ⟨rfl, rfl⟩

theorem write1_enter (args : Array Value) (w : World) : (callFunc 54 args).run Try.prog w = .ok (.enter 54 args) w := by
  simp [go_sem]

set_option maxHeartbeats 1000000 in
theorem write_ok (b B size : Nat) (f : Nat → Int) (L : List (Nat × Nat)) (addr n c : Nat) (ao : Option Addr) (s : Nat → Int) (w : World) (h : MemAt w b B size f L)
    (hL : L.length < 4611686018427387904) (hf : addr + n ≤ size) (hsrc : Src (Two b B) w ao n s) :
   Calls Try.prog 26 #[.pointer (some ⟨b, 0, none⟩), .int .u64 addr, .slice ao n c] w fun e w' =>
     e = .returned (.int .i64 0) ∧ Keeps (Two b B) w w' ∧ MemAt w' b B size (upd f addr n s) (logged L addr n) := by
  have hM := Lib.hid h
  have hS := Lib.hid hsrc
  have hlt := h.lt
  have hlt' := h.lt'
  clear h hsrc
  go_enter Try.func26, Try.ntmps26
  go_wp2_with fail
  have hk0 : Keeps (Two b B) w (w.alloc (.cells #[.slice ao n c] 29)) := (Keeps.refl _ w).alloc _
  refine (put_ok b B size f L addr n 54 _ s _ (hM.out.kept (((Keeps.refl (fun _ => False) w).alloc _)) (fun h => h) (fun h => h)) hL hf write1_enter ?_).mono ?_
  · intro i hi w1 h1
    obtain ⟨g, o, rfl, hg, hc⟩ := (hS.out).at' (by omega)
    exact write1_any w.heap.size g o n c s i w1 (h1.cell (World.cell?_alloc_new _ _ _ _) (by rintro (e | e) <;> simp at e <;> omega)) hi hS.out.small ((hk0.trans h1).cell (hc i hi) hg)
  · rintro e w1 ⟨rfl, hk, hm⟩
    go_wp2_with fail
    go_ret
    exact ⟨rfl, hk0.trans hk, hm⟩

end Go.Proofs.Ytfmabknhfehdcaa

namespace Go.Proofs.Ytfmabknhfehdcaa
open Go.RowKit

set_option maxHeartbeats 1000000 in
theorem write_err (b B size : Nat) (f : Nat → Int) (L : List (Nat × Nat)) (addr n c : Nat) (ao : Option Addr) (w : World) (h : MemAt w b B size f L)
    (ha' : addr ≤ 18446744073709551615) (hn : n ≤ 4611686018427387904) (hf : size < addr + n) :
   Calls Try.prog 26 #[.pointer (some ⟨b, 0, none⟩), .int .u64 addr, .slice ao n c] w fun e w' =>
     e = .returned (.int .i64 3) ∧ Below w.heap.size w w' := by
  have hM := Lib.hid h
  have hlt := h.lt
  have hlt' := h.lt'
  have hc : chk size addr n = 3 := by unfold chk; rw [if_neg (by omega), if_neg (by omega)]
  have HC := Lib.hid hc
  clear h hc
  go_enter Try.func26, Try.ntmps26
  go_wp2_with fail
  refine (put_err b B size f L addr n _ _ (hM.out.kept (((Keeps.refl (fun _ => False) w).alloc _)) (fun h => h) (fun h => h)) (by omega) (by omega) (by omega) (by omega) (by rw [HC.out]; rfl)).mono ?_
  rw [HC.out]
  rintro e w1 ⟨rfl, hk⟩
  go_wp2_with fail
  go_ret
  exact ⟨rfl, ((Below.refl _ w).alloc (Nat.le_refl _) _).trans (hk.mono (by simp))⟩

set_option maxHeartbeats 1000000 in
theorem size_made (b B size cap : Nat) (w : World) (h : w.cell? ⟨b, 769, none⟩ = some (.slice (some ⟨B, 0, none⟩) size cap)) :
   Calls Try.prog 34 #[.pointer (some ⟨b, 0, none⟩)] w fun e w' => e = .returned (.int .i64 size) ∧ w = w' := by
  go_enter Try.func34, Try.ntmps34
  go_wp2_with (first | (go_at_call 42; refine (none_some _ _ _ _ _ h).mono ?_; rintro e w' ⟨rfl, rfl⟩))
  go_ret
  exact ⟨rfl, rfl⟩

end Go.Proofs.Ytfmabknhfehdcaa

namespace Go.Proofs.Ytfmabknhfehdcaa
open Go.RowKit

theorem Keeps.setCells {b : Nat} {a : World} : ∀ (vs : List Value) {w : World} (_ : Keeps (One b) a w) (o : Nat), Keeps (One b) a (w.setCells b o vs)
  | [], _, h, _ => h
  | v :: r, _, h, o => Keeps.setCells r (h.set1 o v) (o + 1)

theorem rowIs_there {w : World} {b : Nat} {t : TypeId} {n : Nat} {f : Nat → Value} (h : w.rowIs b t n f) (o m : Nat) (hm : o + m ≤ n) : w.there b o m := fun j hj =>
  ⟨by rw [h.cell (by omega)]; rfl, h.frozen _⟩

theorem rowIs_range {w : World} {b : Nat} {t : TypeId} {n : Nat} {f : Nat → Value} (h : w.rowIs b t n f) (o m : Nat) (hm : o + m ≤ n) : w.rangeAt b o ((List.range m).map fun j => f (o + j)) := fun j v hv => by
  simp only [List.getElem?_map, Option.map_eq_some_iff] at hv
  obtain ⟨k, hk, rfl⟩ := hv
  simp only [List.range_eq_range'] at hk
  by_cases hj : j < m
  · simp [hj] at hk; subst hk; exact h.cell (by omega)
  · simp [hj] at hk

/-- The first n values of f, as an array. -/
def arr (n : Nat) (f : Nat → Value) : Array Value := ((List.range n).map f).toArray
theorem arr_size (n : Nat) (f : Nat → Value) : (arr n f).size = n := by simp [arr]
theorem arr_get (n : Nat) (f : Nat → Value) (i : Nat) (h : i < n) : (arr n f)[i]? = some (f i) := by simp [arr, h]
section
variable {P : Program} {ops : Array Oper} {Q : Exit → Act → World → Prop} {a : Act} {w : World} {rest : List Oper} {o : Oper}
/-- A struct or an array built out of parts, its outcome known. -/
theorem wpList_buildC (hgd : o.guard = none) (t : Nat) (parts : Array (Nat × Operand)) (ho : o.op = .build t parts) (pv : Array (Nat × Value)) (hp : parts.map (fun p => (p.1, a.eval p.2)) = pv)
    {v : Value} (hb : (Instr.build t pv).run P w = .ok v w) (h : wpList P ops Q rest (a.put o.dst v) w) : wpList P ops Q (o :: rest) a w :=
  wpList_plain hgd fun K hK => by
    subst hp
    unfold Oper.wp execOp
    simp only [ho]
    simp only [Sem.run_bind, hb, Result.andThen_ok, Sem.run_pure]
    exact hK _ _ h
/-- The load of a row, under a guard that holds. -/
theorem wpList_load_midG (hw : Region.wanted o (yielded ops a.tmps) = true) (ty : TypeId) (x : Operand) (ho : o.op = .load ty x)
    (b p : Nat) (hx : a.eval x = .pointer (some ⟨b, p, none⟩)) (cs : List Value) (d : TypeDesc) (hc : w.rangeAt b p cs)
    (hu : P.underlying ty = some d) (hd : d.isRow = true) (hi : (P.info? ty).map (·.size) = some cs.length)
    (h : wpList P ops Q rest (a.put o.dst (.agg cs.toArray)) w) : wpList P ops Q (o :: rest) a w :=
  wpList_step fun K hK => by
    rw [if_pos hw]
    exact wp_load_mid ty x ho b p hx cs d hc hu hd hi (hK _ _ h)
end
end Go.Proofs.Ytfmabknhfehdcaa

namespace Go.Proofs.Ytfmabknhfehdcaa
open Go.RowKit

/-- A world of a class. -/
structure InC (C : World → Prop) where
  w : World
  ok : C w

/-- A region that draws its order, walked once in the order of the text: every operation yields one value in whatever world of the class, and leaves a world of the class. -/
theorem wp_quiet_in {P : Program} {id : Nat} {Q : Exit → Act → World → Prop} {a : Act} {w : World} {l : List Oper} (C : World → Prop) (hC : C { w with drawn := w.drawn + 1 }) (hm : P.follows .mixedOrders = true) (hB : Region.lexB .any l.toArray = true)
    (h : wpQuiet P l.toArray (fun w' => ∃ p : InC C, w' = p.w) (fun a' => ∀ w', (∃ p : InC C, w' = p.w) → Q .normal a' w') l a) : (Code.region id l.toArray true).wp P Q a w :=
  wp_region_quiet (C := fun w' => ∃ p : InC C, w' = p.w) hm hB ⟨⟨_, hC⟩, rfl⟩ (by simpa using h)

/-- A call in a world of the class. -/
theorem calls_in {P : Program} {f : FuncId} {args : Array Value} {w : World} {C : World → Prop} {v : Value}
    (h : Calls P f args w fun e w' => e = .returned v ∧ C w') : Calls P f args w fun e w'' => e = .returned v ∧ ∃ p : InC C, w'' = p.w :=
  h.mono fun _ w' ⟨he, hc⟩ => ⟨he, ⟨w', hc⟩, rfl⟩

section
variable {P : Program} {ops : Array Oper} {C : World → Prop} {Q : Act → Prop} {a : Act} {o : Oper} {rest : List Oper}
end

end Go.Proofs.Ytfmabknhfehdcaa

set_option linter.unusedVariables false
namespace Go.Proofs.Ytfmabknhfehdcaa
open Go.RowKit

theorem infoU8 : (Try.prog.info? 5).map (fun i => (i.zero, i.size, i.bytes)) = some (some (.int .u8 0), 1, 1) := by kernel_rfl
/-- byte j of a number -/
def byteOf (v : Int) (j : Nat) : Int := v / 2 ^ (8 * j) % 256
/-- n bytes of a number -/
def bytesL (v : Int) (n : Nat) : List Value := (List.range n).map fun j => .int .u8 (byteOf v j)
theorem bytesL_length (v : Int) (n : Nat) : (bytesL v n).length = n := by simp [bytesL]
theorem bytesL_one (v : Int) (n : Nat) : ∀ u ∈ bytesL v n, u.oneCell' = true := by
  intro u hu
  unfold bytesL at hu
  obtain ⟨j, -, rfl⟩ := List.mem_map.1 hu
  rfl
theorem bytesL_get (v : Int) (n j : Nat) (h : j < n) : (bytesL v n)[j]? = some (.int .u8 (byteOf v j)) := by simp [bytesL, h]

theorem Keeps.frozen' {S : Nat → Prop} {a b : World} (h : Keeps S a b) {p : Addr} (hr : p.block < a.heap.size) (hS : ¬ S p.block) (hf : a.frozen? p = false) : b.frozen? p = false :=
  (World.frozen?_of_block (w := a) (h.block p.block hr hS)).trans hf

/-- the bytes of a number have been put: the first k -/
def putB (v : Int) (k : Nat) : Nat → Value := fun j => if j < k then .int .u8 (byteOf v j) else .int .u8 0

theorem putB_step (v : Int) (k j : Nat) : (if j = k then Value.int .u8 (v / 2 ^ (8 * k) % 256) else putB v k j) = putB v (k + 1) j := by
  unfold putB
  by_cases e : j = k
  · subst e; rw [if_pos rfl, if_pos (by omega)]; rfl
  · by_cases h : j < k
    · rw [if_neg e, if_pos h, if_pos (by omega)]
    · rw [if_neg e, if_neg h, if_neg (by omega)]

set_option maxRecDepth 100000 in
set_option maxHeartbeats 2000000 in
theorem wput_ok (v : Int) (n : Nat) (w : World) (h1 : 1 ≤ n) (h8 : n ≤ 8) (hv : 0 ≤ v) (hv' : v ≤ 18446744073709551615) (hs : n = 8 ∨ (n < 8 ∧ v / 2 ^ (8 * n) = 0)) :
   Calls Try.prog 76 #[.int .u64 v, .int .i64 n] w fun e w' => ∃ g, e = .returned (.tuple #[.slice (some ⟨g, 0, none⟩) n n, .int .i64 0]) ∧ w.heap.size ≤ g ∧ Below w.heap.size w w' ∧ w'.rowIs g 5 n (fun j => .int .u8 (byteOf v j)) := by
  have hmk := run_make_row' (P := Try.prog) 29 5 (.int .u8 0) 1 Try.underlying29 infoU8 rfl .i64 .i64 n (by omega) (by omega)
  have e0 : IntKind.i64.wrap (8 * (n : Int)) = 8 * (n : Int) := IntWalk.i64_in _ (by omega)
  have hrow := World.rowIs_made w (.int .u8 0) n 5
  obtain ⟨W0, hW0⟩ : ∃ W0, W0 = w.alloc (.cells (madeCells #[.int .u8 0] n) 5) := ⟨_, rfl⟩
  have hb0 : Below w.heap.size w W0 := by rw [hW0]; exact (Below.refl _ w).alloc (Nat.le_refl _) _
  rw [← hW0] at hrow
  have HROW := Lib.hid hrow
  have HB0 := Lib.hid hb0
  have HW0 := Lib.hid hW0
  clear hrow hb0 hW0
  by_cases h7 : n < 8
  · have hz : v / 2 ^ (8 * n) = 0 := by omega
    have d1 : decide ((n : Int) < 8) = true := by simp; omega
    clear hs
    go_enter Try.func76, Try.ntmps76
    go_wp2_with fail
    rw [show (w.alloc (.cells (madeCells #[.int .u8 0] n) 5)) = W0 from HW0.out.symm]
    clear hmk
    go_loopw [7, 29] (fun _ i wr => ∃ k : Nat, k ≤ n ∧ i = .int .i64 k ∧ Keeps (One w.heap.size) W0 wr ∧ wr.rowIs w.heap.size 5 n (putB v k)) (fun _ i _ => n - (intOf i).toNat)
    case atStart => exact ⟨0, Nat.zero_le _, rfl, Keeps.refl _ _, HROW.out.congr fun i _ => by unfold putB; rw [if_neg (by omega)]⟩
    case round =>
      obtain ⟨k, hk, rfl, hkp, hrow⟩ := hrel
      have HK := Lib.hid hkp
      have HR := Lib.hid hrow
      clear hkp hrow
      by_cases hlt : k < n
      · have hc := HR.out.cell (i := k) (by omega)
        have hf := HR.out.frozen k
        have e1 : IntKind.i64.wrap (8 * (k : Int)) = 8 * (k : Int) := IntWalk.i64_in _ (by omega)
        go_wp2_with fail
        go_roundw
        case rel => exact ⟨k + 1, by omega, by go_num, HK.out.set1 _ _, (HR.out.set k _).congr fun j _ => putB_step v k j⟩
        case measure => simp [intOf]; omega
      · obtain rfl : k = n := by omega
        go_wp2_with fail
        go_ret2
        refine ⟨_, rfl, Nat.le_refl _, HB0.out.trans (HK.out.below HB0.out.size (fun j hj e => by have e : j = w.heap.size := e; omega)), HR.out.congr fun j hj => ?_⟩
        unfold putB
        rw [if_pos hj]
  · have d1 : decide ((n : Int) < 8) = false := by simp; omega
    clear hs
    go_enter Try.func76, Try.ntmps76
    go_wp2_with fail
    rw [show (w.alloc (.cells (madeCells #[.int .u8 0] n) 5)) = W0 from HW0.out.symm]
    clear hmk
    go_loopw [7, 29] (fun _ i wr => ∃ k : Nat, k ≤ n ∧ i = .int .i64 k ∧ Keeps (One w.heap.size) W0 wr ∧ wr.rowIs w.heap.size 5 n (putB v k)) (fun _ i _ => n - (intOf i).toNat)
    case atStart => exact ⟨0, Nat.zero_le _, rfl, Keeps.refl _ _, HROW.out.congr fun i _ => by unfold putB; rw [if_neg (by omega)]⟩
    case round =>
      obtain ⟨k, hk, rfl, hkp, hrow⟩ := hrel
      have HK := Lib.hid hkp
      have HR := Lib.hid hrow
      clear hkp hrow
      by_cases hlt : k < n
      · have hc := HR.out.cell (i := k) (by omega)
        have hf := HR.out.frozen k
        have e1 : IntKind.i64.wrap (8 * (k : Int)) = 8 * (k : Int) := IntWalk.i64_in _ (by omega)
        go_wp2_with fail
        go_roundw
        case rel => exact ⟨k + 1, by omega, by go_num, HK.out.set1 _ _, (HR.out.set k _).congr fun j _ => putB_step v k j⟩
        case measure => simp [intOf]; omega
      · obtain rfl : k = n := by omega
        go_wp2_with fail
        go_ret2
        refine ⟨_, rfl, Nat.le_refl _, HB0.out.trans (HK.out.below HB0.out.size (fun j hj e => by have e : j = w.heap.size := e; omega)), HR.out.congr fun j hj => ?_⟩
        unfold putB
        rw [if_pos hj]

/-- A writer at block g holds the bytes xs; the blocks P are not its own. -/
structure Wr (P : Nat → Prop) (g : Nat) (W : World) (xs : List Value) : Prop where
  ex : ∃ v, W.cell? ⟨g, 0, none⟩ = some v ∧ W.ownsRow (g + 1) 5 1 v xs.length xs ∧ ∀ k, P k → v.ownBlock ≠ some k
  fr : W.frozen? ⟨g, 0, none⟩ = false
  notg : ¬ P g
  lt : ∀ k, P k → k < W.heap.size

theorem Wr.glt {P : Nat → Prop} {g : Nat} {W : World} {xs : List Value} (h : Wr P g W xs) : g < W.heap.size := by
  obtain ⟨v, hv, -⟩ := h.ex
  exact World.block_lt_of_cell? _ _ hv

theorem Wr.kept {P S : Nat → Prop} {g : Nat} {W W' : World} {xs : List Value} (h : Wr P g W xs) (k : Keeps S W W') (hg : ¬ S g) (hS : ∀ j, j < W.heap.size → ¬ S j) : Wr P g W' xs := by
  obtain ⟨v, hv, ho, hp⟩ := h.ex
  refine ⟨⟨v, k.cell hv hg, ?_, hp⟩, k.frozen' h.glt hg h.fr, h.notg, fun j hj => Nat.lt_of_lt_of_le (h.lt j hj) k.size⟩
  exact ho.kept (row := none) ⟨k.os, k.tape, k.output, k.size, fun j hj _ => k.block j hj (hS j hj)⟩ (by cases v.ownBlock <;> simp)

theorem Wr.less {P Q : Nat → Prop} {g : Nat} {W : World} {xs : List Value} (h : Wr P g W xs) (hQ : ∀ k, Q k → P k) : Wr Q g W xs := by
  obtain ⟨v, hv, ho, hp⟩ := h.ex
  exact ⟨⟨v, hv, ho, fun k hk => hp k (hQ k hk)⟩, h.fr, fun hg => h.notg (hQ _ hg), fun k hk => h.lt k (hQ k hk)⟩

/-- A block made since is not the writer's own. -/
theorem Wr.more {P : Nat → Prop} {g : Nat} {W W' : World} {xs : List Value} (h : Wr P g W xs) (hb : Below W.heap.size W W') : Wr (fun k => P k ∨ (W.heap.size ≤ k ∧ k < W'.heap.size)) g W' xs := by
  obtain ⟨v, hv, ho, hp⟩ := h.ex
  have k := Keeps.of_below (S := fun _ => False) hb
  refine ⟨⟨v, k.cell hv (fun e => e), ho.kept (row := none) ⟨k.os, k.tape, k.output, k.size, fun j hj _ => k.block j hj (fun e => e)⟩ (by cases v.ownBlock <;> simp), fun j hj => ?_⟩, k.frozen' h.glt (fun e => e) h.fr, fun hg => hg.elim h.notg (fun e => by have := h.glt; omega), fun j hj => hj.elim (fun e => Nat.lt_of_lt_of_le (h.lt j e) k.size) (fun e => e.2)⟩
  rcases hj with hj | hj
  · exact hp j hj
  · intro e
    have := (ho.lt j e).2
    omega

/-- A slice of n bytes xs in a block from N on. -/
def NewL (N : Nat) (w : World) (v : Value) (n : Nat) (xs : List Value) : Prop :=
  ∃ g cap F, v = .slice (some ⟨g, 0, none⟩) n cap ∧ N ≤ g ∧ w.rowIs g 5 cap F ∧ n ≤ cap ∧ cap ≤ 9223372036854775807 ∧ ∀ i, i < n → xs[i]? = some (F i)

theorem newL_of_owns {N : Nat} {w : World} {v : Value} {n : Nat} {xs : List Value} (h : w.ownsRow N 5 1 v n xs) (hv : v ≠ .slice none 0 0) (hl : xs.length = n) : NewL N w v n xs := by
  obtain ⟨h1, h2⟩ := h
  rcases h2 with ⟨h2, -⟩ | ⟨g, cap, cur, rfl, hg, hh, hn, hc, hs, hx⟩
  · exact absurd h2 hv
  · refine ⟨g, cap, fun i => cur.getD i undef, rfl, hg, ⟨cur, hh, by omega, fun i hi => ?_⟩, hn, ?_, fun i hi => ?_⟩
    · simp only [Array.getD_eq_getD_getElem?]
      rw [Array.getElem?_eq_getElem (by omega)]; rfl
    · unfold maxLen at hc; omega
    · have e1 : cur.toList[i]? = xs[i]? := by
        have : (cur.toList.take (n * 1))[i]? = cur.toList[i]? := by rw [List.getElem?_take, if_pos (by omega)]
        rw [← this, hx]
      rw [← e1]
      simp only [Array.getD_eq_getD_getElem?, Array.getElem?_toList]
      rw [Array.getElem?_eq_getElem (by omega)]; rfl

end Go.Proofs.Ytfmabknhfehdcaa
