/- memory: the other ways of Write and Fill; Size, New, first, Clear. -/
import Derived.Test.YtfmabknhfehdcaaGreatZP0
import Derived.Deep.MidRow
import Derived.Laws.ResultCell
import Derived.BigQuiet
import Derived.Deep.QuietTactic
import Derived.IntWalk
import Derived.Maps.AppendAt
import Derived.BigRegion
import Derived.Laws.BitsAllLaws
namespace Go.Proofs.YtfmabknhfehdcaaGreat
set_option linter.unusedSimpArgs false
set_option linter.unusedVariables false
open Go.RowKit
set_option maxHeartbeats 1000000 in
theorem write_err (b B size : Nat) (f : Nat → Int) (L : List (Nat × Nat)) (addr n c : Nat) (ao : Option Addr) (w : World) (h : MemAt w b B size f L)
  (ha' : addr ≤ 18446744073709551615) (hn : n ≤ 4611686018427387904) (hf : size < addr + n) :
  Calls Tryz.prog 11 #[.pointer (some ⟨b, 0, none⟩), .int .u64 addr, .slice ao n c] w fun e w' =>
   e = .returned (.int .i64 3) ∧ Below w.heap.size w w' := by
 have hM := Lib.hid h
 have hlt := h.lt
 have hlt' := h.lt'
 have hc : chk size addr n = 3 := by unfold chk; rw [if_neg (by omega), if_neg (by omega)]
 have HC := Lib.hid hc
 clear h hc
 go_enter Tryz.func11, Tryz.ntmps11
 go_wp2_with fail
 refine (put_err b B size f L addr n _ _ (hM.out.kept (((Keeps.refl (fun _ => False) w).alloc _)) (fun h => h) (fun h => h)) (by omega) (by omega) (by omega) (by omega) (by rw [HC.out]; rfl)).mono ?_
 rw [HC.out]
 rintro e w1 ⟨rfl, hk⟩
 go_wp2_with fail
 go_ret
 exact ⟨rfl, ((Below.refl _ w).alloc (Nat.le_refl _) _).trans (hk.mono (by simp))⟩
set_option maxHeartbeats 1000000 in
theorem size_made (b B size cap : Nat) (w : World) (h : w.cell? ⟨b, 769, none⟩ = some (.slice (some ⟨B, 0, none⟩) size cap)) :
  Calls Tryz.prog 19 #[.pointer (some ⟨b, 0, none⟩)] w fun e w' => e = .returned (.int .i64 size) ∧ w = w' := by
 go_enter Tryz.func19, Tryz.ntmps19
 go_wp2_with (first | (go_at_call 43; refine (none_some _ _ _ _ _ h).mono ?_; rintro e w' ⟨rfl, rfl⟩))
 go_ret
 exact ⟨rfl, rfl⟩
end Go.Proofs.YtfmabknhfehdcaaGreat
namespace Go.Proofs.YtfmabknhfehdcaaGreat
set_option linter.unusedSimpArgs false
set_option linter.unusedVariables false
open Go.RowKit
theorem Keeps.setCells {b : Nat} {a : World} : ∀ (vs : List Value) {w : World} (_ : Keeps (One b) a w) (o : Nat), Keeps (One b) a (w.setCells b o vs)
 | [], _, h, _ => h
 | v :: r, _, h, o => Keeps.setCells r (h.set1 o v) (o + 1)
theorem rowIs_there {w : World} {b : Nat} {t : TypeId} {n : Nat} {f : Nat → Value} (h : w.rowIs b t n f) (o m : Nat) (hm : o + m ≤ n) : w.there b o m := fun j hj =>
 ⟨by rw [h.cell (by omega)]; rfl, h.frozen _⟩
theorem rowIs_range {w : World} {b : Nat} {t : TypeId} {n : Nat} {f : Nat → Value} (h : w.rowIs b t n f) (o m : Nat) (hm : o + m ≤ n) : w.rangeAt b o ((List.range m).map fun j => f (o + j)) := fun j v hv => by
 simp only [List.getElem?_map, Option.map_eq_some_iff] at hv
 obtain ⟨k, hk, rfl⟩ := hv
 simp only [List.range_eq_range'] at hk
 by_cases hj : j < m
 ·simp [hj] at hk; subst hk; exact h.cell (by omega)
 ·simp [hj] at hk
/-- The first n values of f, as an array. -/
def arr (n : Nat) (f : Nat → Value) : Array Value := ((List.range n).map f).toArray
theorem arr_size (n : Nat) (f : Nat → Value) : (arr n f).size = n := by simp [arr]
theorem arr_get (n : Nat) (f : Nat → Value) (i : Nat) (h : i < n) : (arr n f)[i]? = some (f i) := by simp [arr, h]
section
variable {P : Program} {ops : Array Oper} {Q : Exit → Act → World → Prop} {a : Act} {w : World} {rest : List Oper} {o : Oper}
/-- A struct or an array built out of parts, its outcome known. -/
theorem wpList_buildC (hgd : o.guard = none) (t : Nat) (parts : Array (Nat × Operand)) (ho : o.op = .build t parts) (pv : Array (Nat × Value)) (hp : parts.map (fun p => (p.1, a.eval p.2)) = pv)
  {v : Value} (hb : (Instr.build t pv).run P w = .ok v w) (h : wpList P ops Q rest (a.put o.dst v) w) : wpList P ops Q (o :: rest) a w :=
 wpList_plain hgd fun K hK => by
  subst hp
  unfold Oper.wp execOp
  simp only [ho]
  simp only [Sem.run_bind, hb, Result.andThen_ok, Sem.run_pure]
  exact hK _ _ h
/-- The load of a row, under a guard that holds. -/
theorem wpList_load_midG (hw : Region.wanted o (yielded ops a.tmps) = true) (ty : TypeId) (x : Operand) (ho : o.op = .load ty x)
  (b p : Nat) (hx : a.eval x = .pointer (some ⟨b, p, none⟩)) (cs : List Value) (d : TypeDesc) (hc : w.rangeAt b p cs)
  (hu : P.underlying ty = some d) (hd : d.isRow = true) (hi : (P.info? ty).map (·.size) = some cs.length)
  (h : wpList P ops Q rest (a.put o.dst (.agg cs.toArray)) w) : wpList P ops Q (o :: rest) a w :=
 wpList_step fun K hK => by
  rw [if_pos hw]
  exact wp_load_mid ty x ho b p hx cs d hc hu hd hi (hK _ _ h)
end
end Go.Proofs.YtfmabknhfehdcaaGreat
namespace Go.Proofs.YtfmabknhfehdcaaGreat
set_option linter.unusedSimpArgs false
set_option linter.unusedVariables false
open Go.RowKit
/-- A world of a class. -/
structure InC (C : World → Prop) where
 w : World
 ok : C w
/-- A region that draws its order, walked once in the order of the text: every operation yields one value in whatever world of the class, and leaves a world of the class. -/
theorem wp_quiet_in {P : Program} {id : Nat} {Q : Exit → Act → World → Prop} {a : Act} {w : World} {l : List Oper} (C : World → Prop) (hC : C { w with drawn := w.drawn + 1 }) (hm : P.follows .mixedOrders = true) (hB : Region.lexB .any l.toArray = true)
  (h : wpQuiet P l.toArray (fun w' => ∃ p : InC C, w' = p.w) (fun a' => ∀ w', (∃ p : InC C, w' = p.w) → Q .normal a' w') l a) : (Code.region id l.toArray true).wp P Q a w :=
 wp_region_quiet (C := fun w' => ∃ p : InC C, w' = p.w) hm hB ⟨⟨_, hC⟩, rfl⟩ (by simpa using h)
/-- A call in a world of the class. -/
theorem calls_in {P : Program} {f : FuncId} {args : Array Value} {w : World} {C : World → Prop} {v : Value}
  (h : Calls P f args w fun e w' => e = .returned v ∧ C w') : Calls P f args w fun e w'' => e = .returned v ∧ ∃ p : InC C, w'' = p.w :=
 h.mono fun _ w' ⟨he, hc⟩ => ⟨he, ⟨w', hc⟩, rfl⟩
section
variable {P : Program} {ops : Array Oper} {C : World → Prop} {Q : Act → Prop} {a : Act} {o : Oper} {rest : List Oper}
end
end Go.Proofs.YtfmabknhfehdcaaGreat
namespace Go.Proofs.YtfmabknhfehdcaaGreat
set_option linter.unusedSimpArgs false
set_option linter.unusedVariables false
open Go.RowKit
theorem infoU8 : (Tryz.prog.info? 5).map (fun i => (i.zero, i.size, i.bytes)) = some (some (.int .u8 0), 1, 1) := by kernel_rfl
theorem ret_int {k : IntKind} {a b : Int} (h : a = b) : Ending.returned (.int k a) = .returned (.int k b) := by rw [h]
/-- byte j of a number -/
def byteOf (v : Int) (j : Nat) : Int := v / 2 ^ (8 * j) % 256
/-- n bytes of a number -/
def bytesL (v : Int) (n : Nat) : List Value := (List.range n).map fun j => .int .u8 (byteOf v j)
theorem bytesL_length (v : Int) (n : Nat) : (bytesL v n).length = n := by simp [bytesL]
theorem bytesL_one (v : Int) (n : Nat) : ∀ u ∈ bytesL v n, u.oneCell' = true := by
 intro u hu
 unfold bytesL at hu
 obtain ⟨j, -, rfl⟩ := List.mem_map.1 hu
 rfl
theorem bytesL_get (v : Int) (n j : Nat) (h : j < n) : (bytesL v n)[j]? = some (.int .u8 (byteOf v j)) := by simp [bytesL, h]
theorem Keeps.frozen' {S : Nat → Prop} {a b : World} (h : Keeps S a b) {p : Addr} (hr : p.block < a.heap.size) (hS : ¬ S p.block) (hf : a.frozen? p = false) : b.frozen? p = false :=
 (World.frozen?_of_block (w := a) (h.block p.block hr hS)).trans hf
/-- the bytes of a number have been put: the first k -/
def putB (v : Int) (k : Nat) : Nat → Value := fun j => if j < k then .int .u8 (byteOf v j) else .int .u8 0
theorem putB_step (v : Int) (k j : Nat) : (if j = k then Value.int .u8 (v / 2 ^ (8 * k) % 256) else putB v k j) = putB v (k + 1) j := by
 unfold putB
 by_cases e : j = k
 ·subst e; rw [if_pos rfl, if_pos (by omega)]; rfl
 ·by_cases h : j < k
  ·rw [if_neg e, if_pos h, if_pos (by omega)]
  ·rw [if_neg e, if_neg h, if_neg (by omega)]
set_option maxRecDepth 100000 in
set_option maxHeartbeats 2000000 in
theorem wput_ok (v : Int) (n : Nat) (w : World) (h1 : 1 ≤ n) (h8 : n ≤ 8) (hv : 0 ≤ v) (hv' : v ≤ 18446744073709551615) (hs : n = 8 ∨ (n < 8 ∧ v / 2 ^ (8 * n) = 0)) :
  Calls Tryz.prog 62 #[.int .u64 v, .int .i64 n] w fun e w' => ∃ g, e = .returned (.tuple #[.slice (some ⟨g, 0, none⟩) n n, .int .i64 0]) ∧ w.heap.size ≤ g ∧ Below w.heap.size w w' ∧ w'.rowIs g 5 n (fun j => .int .u8 (byteOf v j)) := by
 have hmk := run_make_row' (P := Tryz.prog) 31 5 (.int .u8 0) 1 Tryz.underlying31 infoU8 rfl .i64 .i64 n (by omega) (by omega)
 have e0 : IntKind.i64.wrap (8 * (n : Int)) = 8 * (n : Int) := IntWalk.i64_in _ (by omega)
 have hrow := World.rowIs_made w (.int .u8 0) n 5
 obtain ⟨W0, hW0⟩ : ∃ W0, W0 = w.alloc (.cells (madeCells #[.int .u8 0] n) 5) := ⟨_, rfl⟩
 have hb0 : Below w.heap.size w W0 := by rw [hW0]; exact (Below.refl _ w).alloc (Nat.le_refl _) _
 rw [← hW0] at hrow
 have HROW := Lib.hid hrow
 have HB0 := Lib.hid hb0
 have HW0 := Lib.hid hW0
 clear hrow hb0 hW0
 by_cases h7 : n < 8
 ·have hz : v / 2 ^ (8 * n) = 0 := by omega
  have d1 : decide ((n : Int) < 8) = true := by simp; omega
  clear hs
  go_enter Tryz.func62, Tryz.ntmps62
  go_wp2_with fail
  rw [show (w.alloc (.cells (madeCells #[.int .u8 0] n) 5)) = W0 from HW0.out.symm]
  clear hmk
  go_loopw [7, 29] (fun _ i wr => ∃ k : Nat, k ≤ n ∧ i = .int .i64 k ∧ Keeps (One w.heap.size) W0 wr ∧ wr.rowIs w.heap.size 5 n (putB v k)) (fun _ i _ => n - (intOf i).toNat)
  case atStart => exact ⟨0, Nat.zero_le _, rfl, Keeps.refl _ _, HROW.out.congr fun i _ => by unfold putB; rw [if_neg (by omega)]⟩
  case round =>
   obtain ⟨k, hk, rfl, hkp, hrow⟩ := hrel
   have HK := Lib.hid hkp
   have HR := Lib.hid hrow
   clear hkp hrow
   by_cases hlt : k < n
   ·have hc := HR.out.cell (i := k) (by omega)
    have hf := HR.out.frozen k
    have e1 : IntKind.i64.wrap (8 * (k : Int)) = 8 * (k : Int) := IntWalk.i64_in _ (by omega)
    go_wp2_with fail
    go_roundw
    case rel => exact ⟨k + 1, by omega, by go_num, HK.out.set1 _ _, (HR.out.set k _).congr fun j _ => putB_step v k j⟩
    case measure => simp [intOf]; omega
   ·obtain rfl : k = n := by omega
    go_wp2_with fail
    go_ret2
    refine ⟨_, rfl, Nat.le_refl _, HB0.out.trans (HK.out.below HB0.out.size (fun j hj e => by have e : j = w.heap.size := e; omega)), HR.out.congr fun j hj => ?_⟩
    unfold putB
    rw [if_pos hj]
 ·have d1 : decide ((n : Int) < 8) = false := by simp; omega
  clear hs
  go_enter Tryz.func62, Tryz.ntmps62
  go_wp2_with fail
  rw [show (w.alloc (.cells (madeCells #[.int .u8 0] n) 5)) = W0 from HW0.out.symm]
  clear hmk
  go_loopw [7, 29] (fun _ i wr => ∃ k : Nat, k ≤ n ∧ i = .int .i64 k ∧ Keeps (One w.heap.size) W0 wr ∧ wr.rowIs w.heap.size 5 n (putB v k)) (fun _ i _ => n - (intOf i).toNat)
  case atStart => exact ⟨0, Nat.zero_le _, rfl, Keeps.refl _ _, HROW.out.congr fun i _ => by unfold putB; rw [if_neg (by omega)]⟩
  case round =>
   obtain ⟨k, hk, rfl, hkp, hrow⟩ := hrel
   have HK := Lib.hid hkp
   have HR := Lib.hid hrow
   clear hkp hrow
   by_cases hlt : k < n
   ·have hc := HR.out.cell (i := k) (by omega)
    have hf := HR.out.frozen k
    have e1 : IntKind.i64.wrap (8 * (k : Int)) = 8 * (k : Int) := IntWalk.i64_in _ (by omega)
    go_wp2_with fail
    go_roundw
    case rel => exact ⟨k + 1, by omega, by go_num, HK.out.set1 _ _, (HR.out.set k _).congr fun j _ => putB_step v k j⟩
    case measure => simp [intOf]; omega
   ·obtain rfl : k = n := by omega
    go_wp2_with fail
    go_ret2
    refine ⟨_, rfl, Nat.le_refl _, HB0.out.trans (HK.out.below HB0.out.size (fun j hj e => by have e : j = w.heap.size := e; omega)), HR.out.congr fun j hj => ?_⟩
    unfold putB
    rw [if_pos hj]
/-- A writer at block g holds the bytes xs; the blocks P are not its own. -/
structure Wr (P : Nat → Prop) (g : Nat) (W : World) (xs : List Value) : Prop where
 ex : ∃ v, W.cell? ⟨g, 0, none⟩ = some v ∧ W.ownsRow (g + 1) 5 1 v xs.length xs ∧ ∀ k, P k → v.ownBlock ≠ some k
 fr : W.frozen? ⟨g, 0, none⟩ = false
 notg : ¬ P g
 lt : ∀ k, P k → k < W.heap.size
theorem Wr.glt {P : Nat → Prop} {g : Nat} {W : World} {xs : List Value} (h : Wr P g W xs) : g < W.heap.size := by
 obtain ⟨v, hv, -⟩ := h.ex
 exact World.block_lt_of_cell? _ _ hv
theorem Wr.kept {P S : Nat → Prop} {g : Nat} {W W' : World} {xs : List Value} (h : Wr P g W xs) (k : Keeps S W W') (hg : ¬ S g) (hS : ∀ j, j < W.heap.size → ¬ S j) : Wr P g W' xs := by
 obtain ⟨v, hv, ho, hp⟩ := h.ex
 refine ⟨⟨v, k.cell hv hg, ?_, hp⟩, k.frozen' h.glt hg h.fr, h.notg, fun j hj => Nat.lt_of_lt_of_le (h.lt j hj) k.size⟩
 exact ho.kept (row := none) ⟨k.os, k.tape, k.output, k.size, fun j hj _ => k.block j hj (hS j hj)⟩ (by cases v.ownBlock <;> simp)
theorem Wr.less {P Q : Nat → Prop} {g : Nat} {W : World} {xs : List Value} (h : Wr P g W xs) (hQ : ∀ k, Q k → P k) : Wr Q g W xs := by
 obtain ⟨v, hv, ho, hp⟩ := h.ex
 exact ⟨⟨v, hv, ho, fun k hk => hp k (hQ k hk)⟩, h.fr, fun hg => h.notg (hQ _ hg), fun k hk => h.lt k (hQ k hk)⟩
/-- A block made since is not the writer's own. -/
theorem Wr.more {P : Nat → Prop} {g : Nat} {W W' : World} {xs : List Value} (h : Wr P g W xs) (hb : Below W.heap.size W W') : Wr (fun k => P k ∨ (W.heap.size ≤ k ∧ k < W'.heap.size)) g W' xs := by
 obtain ⟨v, hv, ho, hp⟩ := h.ex
 have k := Keeps.of_below (S := fun _ => False) hb
 refine ⟨⟨v, k.cell hv (fun e => e), ho.kept (row := none) ⟨k.os, k.tape, k.output, k.size, fun j hj _ => k.block j hj (fun e => e)⟩ (by cases v.ownBlock <;> simp), fun j hj => ?_⟩, k.frozen' h.glt (fun e => e) h.fr, fun hg => hg.elim h.notg (fun e => by have := h.glt; omega), fun j hj => hj.elim (fun e => Nat.lt_of_lt_of_le (h.lt j e) k.size) (fun e => e.2)⟩
 rcases hj with hj | hj
 ·exact hp j hj
 ·intro e
  have := (ho.lt j e).2
  omega
/-- A slice of n bytes xs in a block from N on. -/
def NewL (N : Nat) (w : World) (v : Value) (n : Nat) (xs : List Value) : Prop :=
 ∃ g cap F, v = .slice (some ⟨g, 0, none⟩) n cap ∧ N ≤ g ∧ w.rowIs g 5 cap F ∧ n ≤ cap ∧ cap ≤ 9223372036854775807 ∧ ∀ i, i < n → xs[i]? = some (F i)
theorem newL_of_owns {N : Nat} {w : World} {v : Value} {n : Nat} {xs : List Value} (h : w.ownsRow N 5 1 v n xs) (hv : v ≠ .slice none 0 0) (hl : xs.length = n) : NewL N w v n xs := by
 obtain ⟨h1, h2⟩ := h
 rcases h2 with ⟨h2, -⟩ | ⟨g, cap, cur, rfl, hg, hh, hn, hc, hs, hx⟩
 ·exact absurd h2 hv
 ·refine ⟨g, cap, fun i => cur.getD i undef, rfl, hg, ⟨cur, hh, by omega, fun i hi => ?_⟩, hn, ?_, fun i hi => ?_⟩
  ·simp only [Array.getD_eq_getD_getElem?]
   rw [Array.getElem?_eq_getElem (by omega)]; rfl
  ·unfold maxLen at hc; omega
  ·have e1 : cur.toList[i]? = xs[i]? := by
    have : (cur.toList.take (n * 1))[i]? = cur.toList[i]? := by rw [List.getElem?_take, if_pos (by omega)]
    rw [← this, hx]
   rw [← e1]
   simp only [Array.getD_eq_getD_getElem?, Array.getElem?_toList]
   rw [Array.getElem?_eq_getElem (by omega)]; rfl
end Go.Proofs.YtfmabknhfehdcaaGreat
namespace Go.Proofs.YtfmabknhfehdcaaGreat
set_option linter.unusedSimpArgs false
set_option linter.unusedVariables false
open Go.RowKit
/-- the cells of a log that is empty -/
def zj (i : Nat) : Value := if i = 768 then .int .i64 0 else if i % 3 = 0 then .int .u64 0 else if i % 3 = 1 then .int .i64 0 else .bool false
def zjl : List Value := (List.range 769).map zj
theorem zjl_length : zjl.length = 769 := by simp [zjl]
theorem zjl_get (i : Nat) (h : i < 769) : zjl[i]? = some (zj i) := by simp [zjl, h]
theorem zj_one (i : Nat) : (zj i).oneCell' = true := by
 unfold zj
 split
 ·rfl
 ·split
  ·rfl
  ·split <;> rfl
theorem build_mem (w : World) (a : Option Addr) (n c : Nat) : (Instr.build 90 #[(1, .slice a n c)]).run Tryz.prog w = .ok (.agg (zjl ++ [Value.slice a n c]).toArray) w := by kernel_rfl
theorem sizeJ : (Tryz.prog.info? 88).map (·.size) = some 769 := by kernel_rfl
set_option maxRecDepth 100000 in
set_option maxHeartbeats 1000000 in
theorem new_ok (pages : Nat) (w : World) (h1 : 1 ≤ pages) (h2 : pages ≤ 1024) :
  Calls Tryz.prog 10 #[.int .i64 pages] w fun e w' => ∃ b B, e = .returned (.tuple #[.pointer (some ⟨b, 0, none⟩), .int .i64 0]) ∧ w.heap.size ≤ b ∧ w.heap.size ≤ B ∧ Below w.heap.size w w' ∧
   MemAt w' b B (pages * 4096) (fun _ => 0) [] := by
 have hmk := run_make_row' (P := Tryz.prog) 31 5 (.int .u8 0) 1 Tryz.underlying31 infoU8 rfl .i64 .i64 (pages * 4096) (by omega) (by omega)
 have e1 : ((pages * 4096 : Nat) : Int) = (pages : Int) * 4096 := by omega
 rw [e1] at hmk
 have d1 : decide ((pages : Int) < 1) = false := by simp; omega
 have d2 : decide ((1024 : Int) < (pages : Int)) = false := by simp; omega
 go_enter Tryz.func10, Tryz.ntmps10
 go_wp2_with ((with_reducible show wpList _ _ _ (⟨some 13, _, _, _, _, _⟩ :: _) _ _); refine wpList_build1 rfl 90 1 (.tmp 12) rfl (.slice (some ⟨w.heap.size, 0, none⟩) (pages * 4096) (pages * 4096)) ?hx (build_mem _ _ _ _) ?_; exact rfl)
 go_ret2
 refine ⟨_, w.heap.size, rfl, by omega, Nat.le_refl _, ((Below.refl _ _).alloc (Nat.le_refl _) _).alloc (by simp) _, ?_⟩
 have hrow := (World.rowIs_made w (.int .u8 0) (pages * 4096) 5).alloc (.cells (zjl ++ [Value.slice (some ⟨w.heap.size, 0, none⟩) (pages * 4096) (pages * 4096)]).toArray 90)
 have hobj := World.rowIs_alloc (w.alloc (.cells (madeCells #[.int .u8 0] (pages * 4096)) 5)) (zjl ++ [Value.slice (some ⟨w.heap.size, 0, none⟩) (pages * 4096) (pages * 4096)]).toArray 90
  (fun i => if i = 769 then Value.slice (some ⟨w.heap.size, 0, none⟩) (pages * 4096) (pages * 4096) else zj i) (fun i hi => by
   simp only [List.size_toArray, List.length_append, zjl_length, List.length_cons, List.length_nil] at hi
   rw [List.getElem?_toArray]
   by_cases h : i = 769
   ·subst h; rw [List.getElem?_append_right (by rw [zjl_length]; omega), zjl_length]; simp
   ·rw [List.getElem?_append_left (by rw [zjl_length]; omega), zjl_get i (by omega), if_neg h])
 have hsz : (zjl ++ [Value.slice (some ⟨w.heap.size, 0, none⟩) (pages * 4096) (pages * 4096)]).toArray.size = 770 := by simp [zjl_length]
 rw [hsz, World.size_alloc] at hobj
 refine ⟨by omega, by omega, _, _, _, hobj, ?_, ?_, ?_, hrow, Nat.le_refl _, by omega, fun _ _ => rfl⟩
 ·rfl
 ·rfl
 ·exact ⟨fun i hi => by rw [if_neg (by omega)]; exact zj_one i, fun i hi => by simp at hi⟩
end Go.Proofs.YtfmabknhfehdcaaGreat
namespace Go.Proofs.YtfmabknhfehdcaaGreat
set_option linter.unusedSimpArgs false
set_option linter.unusedVariables false
open Go.RowKit
/-- v is a slice of n bytes s in a block from N on, at the head of that block. -/
def NewBytes (N : Nat) (w : World) (v : Value) (n : Nat) (s : Nat → Int) : Prop :=
 ∃ g cap F, v = .slice (some ⟨g, 0, none⟩) n cap ∧ N ≤ g ∧ w.rowIs g 5 cap F ∧ n ≤ cap ∧ cap ≤ 9223372036854775807 ∧ ∀ i, i < n → F i = .int .u8 (s i)
theorem newBytes_of_owns {N : Nat} {w : World} {v : Value} {n : Nat} {s : Nat → Int} (h : w.ownsRow N 5 1 v n ((List.range n).map fun i => .int .u8 (s i))) (hv : v ≠ .slice none 0 0) : NewBytes N w v n s := by
 obtain ⟨h1, h2⟩ := h
 rcases h2 with ⟨h2, -⟩ | ⟨g, cap, cur, rfl, hg, hh, hn, hc, hs, hx⟩
 ·exact absurd h2 hv
 ·refine ⟨g, cap, fun i => cur.getD i undef, rfl, hg, ⟨cur, hh, by omega, fun i hi => ?_⟩, hn, ?_, fun i hi => ?_⟩
  ·simp only [Array.getD_eq_getD_getElem?]
   rw [Array.getElem?_eq_getElem (by omega)]; rfl
  ·unfold maxLen at hc; omega
  ·have e1 : cur.toList[i]? = some (.int .u8 (s i)) := by
    have : (cur.toList.take (n * 1))[i]? = cur.toList[i]? := by rw [List.getElem?_take, if_pos (by omega)]
    rw [← this, hx]; simp [hi]
   simp only [Array.getD_eq_getD_getElem?]
   rw [← Array.getElem?_toList, e1]; rfl
set_option maxHeartbeats 1000000 in
theorem clone_some (n c : Nat) (ad : Addr) (s : Nat → Int) (S : Nat → Prop) (w : World) (h : Src S w (some ad) n s) (hn : n ≤ 1073741824) :
  Calls Tryz.prog 38 #[.slice (some ad) n c] w fun e w' => ∃ v, e = .returned v ∧ NewBytes w.heap.size w' v n s ∧ Below w.heap.size w w' := by
 obtain ⟨i0, hi, hz0, hz1, hz2⟩ := info_parts infoU8
 have H := Lib.hid h
 clear h
 have hws : ∀ W : World, (W.alloc (.cells #[] 5)).ownsRow W.heap.size 5 1 (.slice (some ⟨W.heap.size, 0, none⟩) 0 0) 0 [] := fun W =>
  ⟨rfl, .inr ⟨W.heap.size, 0, #[], rfl, Nat.le_refl _, heap_alloc_new _ _, Nat.le_refl _, by simp [maxLen], rfl, rfl⟩⟩
 go_enter Tryz.func38, Tryz.ntmps38
 go_wp2_with ((at_builtin; refine wpList_append_own _ rfl _ _ 31 rfl w.heap.size 5 i0 (.int .u8 0) 1 1 Tryz.underlying31 hi hz0 hz1 hz2 rfl (by decide) _ _ _ rfl (hws w) ad n c ((List.range n).map fun i => .int .u8 (s i)) rfl (by simp) ?c1 ?c2 ?c3 ?c4 ?c5 ?_))
 case c1 =>
  intro j u hu
  simp only [List.getElem?_map, Option.map_eq_some_iff] at hu
  obtain ⟨k, hk, rfl⟩ := hu
  simp only [List.range_eq_range'] at hk
  by_cases hj : j < n
  ·simp [hj] at hk; subst hk
   obtain ⟨g, o, e, -, hc⟩ := H.out.at' (by omega)
   simp only [Option.some.injEq] at e
   subst e
   rw [Addr.add_mid, World.cell?_alloc_past _ _ _ (World.block_lt_of_cell? _ _ (hc j hj))]
   exact hc j hj
  ·simp [hj] at hk
 case c2 => intro u hu; simp at hu; obtain ⟨k, -, rfl⟩ := hu; rfl
 case c3 => unfold maxLen; omega
 case c4 => omega
 case c5 => simp
 intro v' w1 hown hgr hnil
 go_wp2
 go_ret
 refine ⟨_, rfl, newBytes_of_owns (by simpa using hown) ?_, ((Below.refl _ w).alloc (Nat.le_refl _) _).grown hgr (by simp) (fun k e => by cases e; exact Nat.le_refl _)⟩
 exact hnil
set_option maxHeartbeats 1000000 in
theorem clone_nil (w : World) :
  Calls Tryz.prog 38 #[.slice none 0 0] w fun e w' => e = .returned (.slice none 0 0) ∧ w = w' := by
 go_enter Tryz.func38, Tryz.ntmps38
 go_wp2
 go_ret
 exact ⟨rfl, rfl⟩
set_option maxHeartbeats 1000000 in
theorem read_ok (b B size : Nat) (f : Nat → Int) (L : List (Nat × Nat)) (addr n : Nat) (w : World) (h : MemAt w b B size f L) (hf : addr + n ≤ size) :
  Calls Tryz.prog 15 #[.pointer (some ⟨b, 0, none⟩), .int .u64 addr, .int .i64 n] w fun e w' =>
   ∃ v, e = .returned (.tuple #[v, .int .i64 0]) ∧ NewBytes w.heap.size w' v n (fun i => f (addr + i)) ∧ Below w.heap.size w w' := by
 have hs := h.small
 obtain ⟨c0, hsl, hc1, hc2⟩ := h.slice
 have hM := Lib.hid h
 have hsl' := Lib.hid hsl
 clear h hsl
 go_enter Tryz.func15, Tryz.ntmps15
 go_wp2_with fail
 refine (span_ok _ _ _ _ _ n _ hsl'.out hs hc1 hc2 hf).mono ?_
 rintro e w1 ⟨⟨ad, rfl, had⟩, hb⟩
 have had' := Lib.hid had
 have hM1 := Lib.hid (hM.out.kept (Keeps.of_below (S := fun _ => False) hb) (fun h => h) (fun h => h))
 clear had
 go_wp2_with fail
 refine (clone_some n n ad (fun i => f (addr + i)) (fun _ => False) _ ⟨by omega, fun hn => ⟨B, addr, by rw [had'.out hn], fun h => h, fun i hi => hM1.out.cells (addr + i) (by omega)⟩⟩ (by omega)).mono ?_
 rintro e w2 ⟨v, rfl, hv, hb2⟩
 go_wp2_with fail
 go_ret2
 obtain ⟨g, cap, F, hg1, hg2, hg3⟩ := hv
 have := hb.size
 exact ⟨_, rfl, ⟨g, cap, F, hg1, by omega, hg3⟩, hb.trans (hb2.mono this)⟩
set_option maxHeartbeats 1000000 in
theorem read_err (b B size : Nat) (f : Nat → Int) (L : List (Nat × Nat)) (addr n : Int) (w : World) (h : MemAt w b B size f L)
  (ha : 0 ≤ addr) (ha' : addr ≤ 18446744073709551615) (hn : -9223372036854775808 ≤ n) (hn' : n ≤ 9223372036854775807) (hc : (chk size addr n != 0) = true) :
  Calls Tryz.prog 15 #[.pointer (some ⟨b, 0, none⟩), .int .u64 addr, .int .i64 n] w fun e w' =>
   e = .returned (.tuple #[.slice none 0 0, .int .i64 (chk size addr n)]) ∧ Below w.heap.size w w' := by
 have hs := h.small
 obtain ⟨c0, hsl, -, -⟩ := h.slice
 have hsl' := Lib.hid hsl
 have HC := Lib.hid hc
 generalize hk : chk size addr n = k at *
 have HK := Lib.hid hk
 clear h hsl hc hk
 go_enter Tryz.func15, Tryz.ntmps15
 go_wp2_with fail
 refine (span_err _ _ _ _ _ _ _ hsl'.out hs ha ha' hn hn' (by rw [HK.out]; exact HC.out)).mono ?_
 rw [HK.out]
 rintro e w1 ⟨rfl, hb⟩
 go_wp2_with fail
 refine (clone_nil _).mono ?_
 rintro e w2 ⟨rfl, rfl⟩
 go_wp2_with fail
 go_ret2
 exact ⟨rfl, hb⟩
end Go.Proofs.YtfmabknhfehdcaaGreat
namespace Go.Proofs.YtfmabknhfehdcaaGreat
set_option linter.unusedSimpArgs false
set_option linter.unusedVariables false
open Go.RowKit
/-- Block g is a log: L. -/
def JAt (w : World) (g : Nat) (L : List (Nat × Nat)) : Prop := ∃ G, w.rowIs g 88 769 G ∧ G 768 = .int .i64 L.length ∧ RingOK G L
theorem RingOK.congr {G H : Nat → Value} {L : List (Nat × Nat)} (h : RingOK G L) (e : ∀ i, i < 769 → G i = H i) : RingOK H L := by
 refine ⟨fun i hi => by rw [← e i hi]; exact h.one i hi, ?_⟩
 intro i hi hr
 have hm := Nat.mod_lt i (show 0 < 256 by omega)
 obtain ⟨a1, a2, a3⟩ := h.at' i hi hr
 exact ⟨(e _ (by omega)).symm.trans a1, (e _ (by omega)).symm.trans a2, (e _ (by omega)).symm.trans a3⟩
theorem JAt.kept {S : Nat → Prop} {w w' : World} {g : Nat} {L : List (Nat × Nat)} (h : JAt w g L) (k : Keeps S w w') (hg : ¬ S g) : JAt w' g L := by
 obtain ⟨G, h1, h2⟩ := h
 exact ⟨G, k.rowIs h1 hg, h2⟩
theorem oneCells {G : Nat → Value} {n : Nat} (h : ∀ i, i < n → (G i).oneCell' = true) : (((List.range n).map fun j => G (0 + j)).toArray).all (·.oneCell') = true :=
 all_oneCell_toArray fun v hv => by
  simp only [List.mem_map, List.mem_range] at hv
  obtain ⟨i, hi, rfl⟩ := hv
  rw [Nat.zero_add]; exact h i hi
end Go.Proofs.YtfmabknhfehdcaaGreat
