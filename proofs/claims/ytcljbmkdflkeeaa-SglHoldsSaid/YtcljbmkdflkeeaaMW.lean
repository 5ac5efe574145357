/- sgl: made: a memory with some descriptors, and its specification. -/
import Derived.Test.YtcljbmkdflkeeaaRS
import Derived.Test.YtcljbmkdflkeeaaLB
import Derived.Test.YtcljbmkdflkeeaaDV
import Derived.Test.YtcljbmkdflkeeaaWK
import Derived.Laws.CopyOwn
namespace Go.Proofs.Ytcljbmkdflkeeaa
set_option linter.unusedVariables false
set_option linter.unusedSimpArgs false
open Go.RowKit

theorem rspans_any (d : Dsc) (n : Int) (th : Bool) (M : Value) (size : Nat) (f : Nat → Int) (L : List (Nat × Nat)) (S : Nat → Prop) (w : World) (hM : RefAt S w M size f L) (hsz : size ≤ 4194304) (hd : d.Ok) (hby : Bytes f) :
    Calls Try.prog 29 #[M, .agg d.cells, .int .i64 n, .bool th] w (SpPost w (spansM f size d n th)) := by
  by_cases hv : Vld d
  · by_cases h0 : 0 ≤ n
    · by_cases h1 : n ≤ 1048576
      · exact rspans_loop d n th M size f L S w hM hsz hd (decide_eq_true hv) hby (decide_eq_false (Int.not_lt.2 h0)) (decide_eq_false (Int.not_lt.2 h1)) _ (spansM_nxt hv h0 h1).symm
      · have e : spansM f size d n th = .error 2 := by unfold spansM; rw [if_pos (fun c => h1 c.2.2)]
        rw [e]
        exact rspans_big d n th M size f L S w hM hsz hd (decide_eq_true hv) (decide_eq_false (Int.not_lt.2 h0)) (decide_eq_true (Int.not_le.1 h1))
    · have e : spansM f size d n th = .error 2 := by unfold spansM; rw [if_pos (fun c => h0 c.2.1)]
      rw [e]
      exact rspans_neg d n th M size f L S w hM hsz hd (decide_eq_true hv) (decide_eq_true (Int.not_le.1 h0))
  · have e : spansM f size d n th = .error 2 := by unfold spansM; rw [if_pos (fun c => hv c.1)]
    rw [e]
    exact rspans_inv d n th M size f L S w hM hsz hd (decide_eq_false hv)
theorem same_mem (b B b' B' sz : Nat) (f : Nat → Int) (L L' : List (Nat × Nat)) (w : World) (h : MemAt w b B sz f L) (h' : MemAt w b' B' sz f L') :
   Calls Try.prog 34 #[.pointer (some ⟨b, 0, none⟩), .pointer (some ⟨b', 0, none⟩)] w fun e w' => e = .returned (.bool true) ∧ Below w.heap.size w w' :=
  (same_ok_ok b B sz b' B' sz f f L L' w h h').mono fun _ _ k => ⟨by rw [k.1]; simp, k.2⟩
theorem CAt.below {w w' : World} {ao : Option Addr} {n : Nat} {l : Nat → CelV} (h : CAt w ao n l) (hb : Below w.heap.size w w') : CAt w' ao n l := fun i hi => by
  obtain ⟨g, o, e, hc⟩ := h i hi
  have hg : g < w.heap.size := World.block_lt_of_cell? _ _ hc.a
  exact ⟨g, o, e, rangeAt_below hc.d hb hg, (hb.cell (p := ⟨g, o + i * 6 + 4, none⟩) hg).trans hc.a, (hb.cell (p := ⟨g, o + i * 6 + 5, none⟩) hg).trans hc.s⟩
theorem eq_self (z : Int) : (z == z) = true := by simp
/-- Two memories and the specification beside them. -/
structure Mm (w : World) (b B : Nat) (sz : Nat) (f : Nat → Int) (M : Value) (g : Nat) (W : World) : Prop where
  below : Below w.heap.size w W
  mem : MemAt W b B sz f [(0, sz)]
  ref : RefAt (fun j => j ≠ g) W M sz f []
theorem Mm.go {w : World} {b B sz : Nat} {f : Nat → Int} {M : Value} {g : Nat} {W W' : World} (h : Mm w b B sz f M g W) (hb : Below W.heap.size W W') : Mm w b B sz f M g W' := ⟨h.below.trans (hb.mono h.below.size), h.mem.below hb, h.ref.below hb⟩
/-- What made leaves. -/
def MadePost (w : World) (n size : Nat) (e : Ending) (w' : World) : Prop := ∃ b B g f,
  e = .returned (.tuple #[.pointer (some ⟨b, 0, none⟩), .agg #[.slice (some ⟨g, 0, none⟩) size size, .slice none 0 0], .bool (decide (n ≤ 300))]) ∧
  w.heap.size ≤ b ∧ w.heap.size ≤ B ∧ w.heap.size ≤ g ∧ g ≠ b ∧ g ≠ B ∧ Below w.heap.size w w' ∧ MemAt w' b B size f [(0, size)] ∧ RefAt (fun j => j ≠ g) w' (.agg #[.slice (some ⟨g, 0, none⟩) size size, .slice none 0 0]) size f [] ∧ Bytes f

def zRM : Array Value := #[.slice none 0 0, .slice none 0 0]
theorem zeroRM (w : World) : (zeroValue 45).run Try.prog w = .ok (.agg zRM) w := by kernel_rfl
theorem sizeRMz : (Try.prog.info? 45).map (·.size) = some zRM.size := by kernel_rfl
/-- The bytes of a block. -/
def RowB (W : World) (g n : Nat) (F : Nat → Int) : Prop := W.rowIs g 5 n (fun j => .int .u8 (F j)) ∧ Bytes F
def dBs (d : Dsc) : List Value := (List.range 16).map fun j => .int .u8 (dB d j)
theorem dBs_length (d : Dsc) : (dBs d).length = 16 := by simp [dBs]
theorem dBs_get (d : Dsc) (j : Nat) (h : j < 16) : (dBs d)[j]? = some (.int .u8 (dB d j)) := by simp [dBs, h]
theorem dBs_one (d : Dsc) : ∀ v ∈ dBs d, v.oneCell' = true := by
  intro v hv
  simp only [dBs, List.mem_map] at hv
  obtain ⟨j, -, rfl⟩ := hv
  rfl
theorem rowB_splice {W : World} {g n a : Nat} {F : Nat → Int} {cu : List Value} {d : Dsc} (hcu : cu.length = n) (hget : ∀ i, i < n → cu[i]? = some (.int .u8 (F i))) (hF : Bytes F) (ha : a + 16 ≤ n)
    (hg : W.heap[g]? = some (.cells (splice cu a (dBs d)).toArray 5 (0, 0))) : RowB W g n (fun j => if a ≤ j ∧ j < a + 16 then dB d (j - a) else F j) := by
  have hl : (splice cu a (dBs d)).length = n := by rw [length_splice cu a (dBs d) (by rw [dBs_length]; omega)]; exact hcu
  refine ⟨⟨_, hg, by rw [List.size_toArray]; exact hl, fun i hi => ?_⟩, fun j => ?_⟩
  · show (splice cu a (dBs d)).toArray[i]? = some (Value.int IntKind.u8 (if a ≤ i ∧ i < a + 16 then dB d (i - a) else F i))
    rw [List.getElem?_toArray]
    unfold splice
    by_cases h1 : i < a
    · rw [List.getElem?_append_left (by rw [List.length_take]; omega), List.getElem?_take, if_pos h1, hget i hi, if_neg (by omega)]
    · rw [List.getElem?_append_right (by rw [List.length_take]; omega), List.length_take, Nat.min_eq_left (by omega)]
      by_cases h2 : i < a + 16
      · rw [List.getElem?_append_left (by rw [dBs_length]; omega), dBs_get d _ (by omega), if_pos (by omega)]
      · rw [List.getElem?_append_right (by rw [dBs_length]; omega), List.getElem?_drop, dBs_length, show a + 16 + (i - a - 16) = i by omega, hget i hi, if_neg (by omega)]
  · show 0 ≤ (if a ≤ j ∧ j < a + 16 then dB d (j - a) else F j) ∧ (if a ≤ j ∧ j < a + 16 then dB d (j - a) else F j) ≤ 255
    split
    · exact dB_bd d _
    · exact hF j
theorem rowB_set {W : World} {g n : Nat} {F : Nat → Int} (h : RowB W g n F) (i : Nat) (v : Int) (hv : 0 ≤ v ∧ v ≤ 255) : RowB (W.setCell ⟨g, i, none⟩ (.int .u8 v)) g n (fun j => if j = i then v else F j) := by
  refine ⟨?_, fun j => ?_⟩
  · have := h.1.set i (.int .u8 v)
    refine this.congr fun j hj => ?_
    by_cases e : j = i
    · simp [e]
    · simp [e]
  · show 0 ≤ (if j = i then v else F j) ∧ (if j = i then v else F j) ≤ 255
    split
    · exact hv
    · exact h.2 j

theorem keeps_from {B : Nat} {a b : World} (h : Below B a b) : Keeps (fun j => B ≤ j) a b := ⟨h.os, h.tape, h.output, h.size, fun k _ hS => h.block k (Nat.lt_of_not_le hS)⟩
section
variable (pg : Int) (ao : Option Addr) (n c : Nat) (l : Nat → CelV) (w : World) (hp0 : 0 ≤ pg) (hp1 : pg ≤ 255) (hC : CAt w ao n l) (hok : ∀ i, i < n → (l i).Ok) (hn : n ≤ maxLen)
include hp0 hp1 hC hok hn
set_option maxRecDepth 100000 in
set_option maxHeartbeats 8000000 in
theorem made_any (N : Nat) (hN : N = 1 + pg.toNat % 4) : Calls Try.prog 18 #[.int .u8 pg, .slice ao n c] w (MadePost w n (N * 4096)) := by
  have hl : ∀ g o, ao = some ⟨g, o, none⟩ → 0 < n → g < w.heap.size := fun g o e h => by
    obtain ⟨g', o', e', hi⟩ := hC 0 h
    rw [e] at e'
    cases e'
    exact World.block_lt_of_cell? _ _ hi.a
  have HCC := Lib.hid hC
  have HOK := Lib.hid hok
  have HLT := Lib.hid hl
  have hnm : n ≤ 9223372036854775807 := by unfold maxLen at hn; omega
  obtain ⟨q, hq⟩ : ∃ q : Nat, q = pg.toNat % 4 := ⟨_, rfl⟩
  have htm : pg.tmod 4 = (q : Int) := by rw [Int.tmod_eq_emod_of_nonneg hp0]; omega
  have hq3 : q ≤ 3 := by omega
  have hN1 : 1 ≤ N := by omega
  have hN4 : N ≤ 4 := by omega
  have hNI : (1 : Int) + (q : Int) = (N : Int) := by omega
  have HNI := Lib.hid hNI
  obtain ⟨sz, hsz⟩ : ∃ z : Nat, z = N * 4096 := ⟨_, rfl⟩
  have hmk : ∀ w, (Instr.makeSlice 42 (.int .i64 (4096 * (N : Int))) (.int .i64 (4096 * (N : Int)))).run Try.prog w = .ok (.slice (some ⟨w.heap.size, 0, none⟩) sz sz) (w.alloc (.cells (madeCells #[.int .u8 0] sz) 5)) := fun w => by
    have h := run_make_row' (P := Try.prog) 42 5 (.int .u8 0) 1 Try.underlying42 infoU8 rfl .i64 .i64 sz (by omega) (by omega) w
    rw [show ((sz : Nat) : Int) = 4096 * (N : Int) by omega] at h
    exact h
  rw [← hsz]
  have HSZ := Lib.hid hsz
  have HNN := Lib.hid hN
  clear hC hok hl hn hq hNI hsz hN
  go_enter Try.func18, Try.ntmps18
  go_upto_region 2 with ((with_reducible show wpList _ _ _ (⟨some 5, _, _, _, _, _⟩ :: _) _ _); refine wpList_alloc rfl 45 rfl zeroRM ?_; rw [show (Value.agg zRM).cells = zRM from rfl])
  rw [HNI.out]
  obtain ⟨W0, hW⟩ : ∃ z, z = w.alloc (.cells zRM 45) := ⟨_, rfl⟩
  have B0 := Lib.hid (show Below w.heap.size w W0 by rw [hW]; exact (Below.refl _ _).alloc (Nat.le_refl _) _)
  have A5 := Lib.hid (show ArrAt W0 w.heap.size zRM by rw [hW]; exact ArrAt.fresh w zRM _ (by decide))
  rw [← hW]
  have HNW := Lib.hid (show ∀ W, Calls Try.prog 23 #[.int .i64 (N : Nat)] W fun e w' => ∃ b B, e = .returned (.tuple #[.pointer (some ⟨b, 0, none⟩), .int .i64 0]) ∧ W.heap.size ≤ b ∧ W.heap.size ≤ B ∧ Below W.heap.size W w' ∧ MemAt w' b B sz (fun _ => 0) [] from fun W => by rw [HSZ.out]; exact new_ok N W hN1 (by omega))
  have hw0 : w.heap.size < W0.heap.size := A5.out.lt
  clear hW
  go_upto_region 3 with (go_at_call 23; refine (HNW.out _).mono ?_; rintro e w1 ⟨b, B, rfl, hb, hB, hbl, hm⟩; have B1 := Lib.hid (B0.out.trans (hbl.mono B0.out.size)); have A51 := Lib.hid (A5.out.below hbl); have HM1 := Lib.hid hm; have hbs := hbl.size; clear hbl hm)
  go_upto_region 4 with fail
  obtain ⟨gb, hgb⟩ : ∃ z, z = w1.heap.size := ⟨_, rfl⟩
  obtain ⟨Wa, hW⟩ : ∃ z, z = w1.alloc (.cells (madeCells #[.int .u8 0] sz) 5) := ⟨_, rfl⟩
  have hba : Below gb w1 Wa := by rw [hW, hgb]; exact (Below.refl _ _).alloc (Nat.le_refl _) _
  have ROW0 := Lib.hid (show RowB Wa gb sz (fun _ => 0) from ⟨by rw [hW, hgb]; exact World.rowIs_made w1 (.int .u8 0) sz 5, bytes0⟩)
  have hgw : w.heap.size < gb := by omega
  have hbg : b < gb := by rw [hgb]; exact HM1.out.lt
  have hBg : B < gb := by rw [hgb]; exact HM1.out.lt'
  have hb1 : w.heap.size ≤ b := by omega
  have hB1 : w.heap.size ≤ B := by omega
  rw [hgb] at hba
  have Ba := Lib.hid (B1.out.trans (hba.mono B1.out.size))
  have Ma := Lib.hid (HM1.out.below hba)
  have A5a := Lib.hid (A51.out.below hba)
  rw [← hW, ← hgb]
  clear hW hba hgb B1 HM1 A51 HNW hmk hbs
  go_wp2_with fail
  go_loopw [11, 12] (fun v11 _ wr => ∃ (k : Nat) (F : Nat → Int), v11 = .int .i64 (k : Nat) ∧ k ≤ n ∧ k ≤ 300 ∧ RowB wr gb sz F ∧ Below gb Wa wr) (fun v11 _ _ => n - (intOf v11).toNat)
  case atStart => exact ⟨0, _, rfl, by omega, by omega, ROW0.out, Below.refl _ _⟩
  case round =>
    obtain ⟨k, F, rfl, hk, hk3, hrow, hbr⟩ := hrel
    have ROW := Lib.hid hrow
    have BR := Lib.hid hbr
    clear hrow hbr
    by_cases hkn : k < n ∧ k < 300
    case pos =>
      obtain ⟨h1, h2⟩ := hkn
      have q1 : decide ((k : Int) < (n : Int)) = true := decide_eq_true (by omega)
      have q2 : decide ((k : Int) < 300) = true := decide_eq_true (by omega)
      obtain ⟨ag, oa, rfl, hci⟩ := HCC.out k h1
      have hag : ag < w.heap.size := HLT.out ag oa rfl (by omega)
      have hagw : ag < gb := by omega
      have hwr : w.heap.size < wr.heap.size := by have := BR.out.size; have := ROW.out.1.lt; omega
      have BW := Lib.hid (show Below w.heap.size w wr from Ba.out.trans (BR.out.mono (by omega)))
      have x4 : wr.cell? ⟨ag, oa + k * 6 + 4, none⟩ = some (.int .u64 (l k).at') := (BW.out.cell (p := ⟨ag, oa + k * 6 + 4, none⟩) hag).trans hci.a
      have x5 : wr.cell? ⟨ag, oa + k * 6 + 5, none⟩ = some (.int .u8 (l k).sp) := (BW.out.cell (p := ⟨ag, oa + k * 6 + 5, none⟩) hag).trans hci.s
      have XD := Lib.hid (rangeAt_below hci.d BW.out hag)
      have HK := Lib.hid (HOK.out k h1)
      obtain ⟨At, hAt⟩ : ∃ z, z = (l k).at' := ⟨_, rfl⟩
      obtain ⟨sp, hsp⟩ : ∃ z, z = (l k).sp := ⟨_, rfl⟩
      have hAt0 : 0 ≤ At ∧ At ≤ 18446744073709551615 := by rw [hAt]; exact HK.out.a
      have hsp0 : 0 ≤ sp ∧ sp ≤ 255 := by rw [hsp]; exact HK.out.s
      rw [← hAt] at x4
      rw [← hsp] at x5
      have hszN := HSZ.out
      obtain ⟨r, hr⟩ : ∃ r : Nat, (r : Int) = At % (sz : Int) := ⟨(At % (sz : Int)).toNat, by have := Int.emod_nonneg At (show (sz : Int) ≠ 0 by omega); omega⟩
      have hrs : r < sz := by have := Int.emod_lt_of_pos At (show (0 : Int) < sz by omega); omega
      have t1 : At.tmod (sz : Int) = (r : Int) := by rw [Int.tmod_eq_emod_of_nonneg hAt0.1, hr]
      obtain ⟨a16, ha16⟩ : ∃ z : Nat, z = r / 16 * 16 := ⟨_, rfl⟩
      have t2 : (r : Int) / 16 * 16 = (a16 : Int) := by omega
      have hfit : a16 + 16 ≤ sz := by omega
      have T2 := Lib.hid t2
      have HA16 := Lib.hid ha16
      have HRR := Lib.hid hr
      have hz0 : ¬ sz = 0 := by omega
      have hz1 : ((sz : Int) == 0) = false := beq_eq_false_iff_ne.2 (by omega)
      have hz2 : sz ≤ 16384 := by omega
      clear hAt hsp hci hszN ha16 hr t2
      go_upto_region 8 with fail
      rw [T2.out]
      have hne : ¬ sz = a16 := by omega
      obtain ⟨e16, he16⟩ : ∃ z : Nat, z = a16 + 16 := ⟨_, rfl⟩
      have hw16 : IntKind.i64.wrap ((a16 : Int) + 16) = (e16 : Int) := by rw [IntWalk.i64_in _ (by omega)]; omega
      have hE1 : e16 ≤ sz := by omega
      have hE2 : a16 ≤ e16 := by omega
      have hE3 : e16 - a16 = 16 := by omega
      clear he16
      have ROWX := ROW.out.1
      obtain ⟨cu, hcu1, hcu2, hcu3⟩ := ROWX
      have HCU := Lib.hid hcu1
      have HCU2 := Lib.hid hcu2
      have HCU3 := Lib.hid hcu3
      obtain ⟨DD, hDD⟩ : ∃ A : Array Value, A = (l k).d.cells := ⟨_, rfl⟩
      have HSZD := Lib.hid (show (Try.prog.info? 26).map (·.size) = some DD.size by rw [hDD]; exact sizeD)
      have HBY := Lib.hid (show ∀ W, Calls Try.prog 25 #[.agg DD] W fun e w' => NewRow W w' 16 (dB (l k).d) e from fun W => by rw [hDD]; exact bytes_any (l k).d W HK.out.d)
      rw [← hDD] at XD
      clear hcu1 hcu2 hcu3 hDD

      refine wp_region_held_drew (S := fun w' => Below gb wr w') (by kernel_rfl) ((Below.refl _ _).drew) (fun hS0 => ?_)
      refine takeD 48 (i := 0) (v := .slice (some ⟨gb, 0, none⟩) sz sz) rfl rfl (by kernel_rfl) (by kernel_rfl) (by kernel_rfl) (fun _ _ _ h => h) (Or.inl ⟨by rfl, by (intro w' _; go_simp)⟩) (by assumption) ?_
      try simp only [Act.put, List.setIfInBounds_toArray, List.set_cons_zero, List.set_cons_succ]
      refine takeD 49 (i := 1) (v := .int .i64 (a16 : Nat)) rfl rfl (by kernel_rfl) (by kernel_rfl) (by kernel_rfl) (fun _ _ _ h => h) (Or.inl ⟨by rfl, by (intro w' _; go_simp)⟩) (by assumption) ?_
      try simp only [Act.put, List.setIfInBounds_toArray, List.set_cons_zero, List.set_cons_succ]
      refine takeD 50 (i := 2) (v := .int .i64 (a16 : Nat)) rfl rfl (by kernel_rfl) (by kernel_rfl) (by kernel_rfl) (fun _ _ _ h => h) (Or.inl ⟨by rfl, by (intro w' _; go_simp)⟩) (by assumption) ?_
      try simp only [Act.put, List.setIfInBounds_toArray, List.set_cons_zero, List.set_cons_succ]
      refine takeD 51 (i := 3) (v := .int .i64 (e16 : Nat)) rfl rfl (by kernel_rfl) (by kernel_rfl) (by kernel_rfl) (fun _ _ _ h => h) (Or.inl ⟨by rfl, by (intro w' _; go_simp)⟩) (by assumption) ?_
      try simp only [Act.put, List.setIfInBounds_toArray, List.set_cons_zero, List.set_cons_succ]
      refine takeD 52 (i := 4) (v := .slice (some ⟨gb, a16, none⟩) 16 (sz - a16)) rfl rfl (by kernel_rfl) (by kernel_rfl) (by kernel_rfl) (fun _ _ _ h => h) (Or.inl ⟨by rfl, by (intro w' _; go_simp)⟩) (by assumption) ?_
      try simp only [Act.put, List.setIfInBounds_toArray, List.set_cons_zero, List.set_cons_succ]
      refine takeD 53 (i := 5) (v := .slice (some ⟨ag, oa, none⟩) n c) rfl rfl (by kernel_rfl) (by kernel_rfl) (by kernel_rfl) (fun _ _ _ h => h) (Or.inl ⟨by rfl, by (intro w' _; go_simp)⟩) (by assumption) ?_
      try simp only [Act.put, List.setIfInBounds_toArray, List.set_cons_zero, List.set_cons_succ]
      refine takeD 54 (i := 6) (v := .int .i64 (k : Nat)) rfl rfl (by kernel_rfl) (by kernel_rfl) (by kernel_rfl) (fun _ _ _ h => h) (Or.inl ⟨by rfl, by (intro w' _; go_simp)⟩) (by assumption) ?_
      try simp only [Act.put, List.setIfInBounds_toArray, List.set_cons_zero, List.set_cons_succ]
      refine takeD 55 (i := 7) (v := .pointer (some ⟨ag, oa + k * 6, none⟩)) rfl rfl (by kernel_rfl) (by kernel_rfl) (by kernel_rfl) (fun _ _ _ h => h) (Or.inl ⟨by rfl, by (intro w' _; go_simp)⟩) (by assumption) ?_
      try simp only [Act.put, List.setIfInBounds_toArray, List.set_cons_zero, List.set_cons_succ]
      refine takeD 56 (i := 8) (v := .pointer (some ⟨ag, oa + k * 6, none⟩)) rfl rfl (by kernel_rfl) (by kernel_rfl) (by kernel_rfl) (fun _ _ _ h => h) (Or.inl ⟨by rfl, by (intro w' _; go_simp)⟩) (by assumption) ?_
      try simp only [Act.put, List.setIfInBounds_toArray, List.set_cons_zero, List.set_cons_succ]
      refine takeD 57 (i := 9) (v := .agg DD) rfl rfl (by kernel_rfl) (by kernel_rfl) (by kernel_rfl) (fun _ _ _ h => h) (yieldsR (by rfl) 26 (.tmp 56) rfl (ag) (oa + k * 6) (by first | rfl | simp [Act.eval, Act.put]) DD (fun w h => (rangeAt_below XD.out h hagw)) Try.underlying26 rfl HSZD.out) (by assumption) ?_
      try simp only [Act.put, List.setIfInBounds_toArray, List.set_cons_zero, List.set_cons_succ]
      refine wpAnyH_ready (rs := [10]) (by kernel_rfl) (by simp) (AllReadyH.cons rfl (fun K hK => ?_) AllReadyH.nil)
      rw [if_pos (by rfl)]
      go_simp
      refine (HBY.out _).mono ?_
      rintro e w7 ⟨g7, rfl, hg7, hb7, hr7⟩
      have hs7 := hS0.size
      have hbs7 := hb7.size
      have hgr : gb < wr.heap.size := ROW.out.1.lt
      have hS1 : Below gb wr w7 := hS0.trans (hb7.mono (by omega))
      have hu7 : w7.heap[gb]? = some (.cells cu.toList.toArray 5 (0, 0)) := (hb7.block gb (by omega)).trans (by rw [Array.toArray_toList]; exact HCU.out)
      refine hK.out _ _ hS1 (fun hS1' => ?_)
      clear hK K
      try simp only [Act.put, List.setIfInBounds_toArray, List.set_cons_zero, List.set_cons_succ]
      refine wpAnyH_ready (rs := [11]) (by kernel_rfl) (by simp) (AllReadyH.cons rfl (fun K hK => ?_) AllReadyH.nil)
      refine step_copy_splice rfl (.tmp 52) (.tmp 58) 42 42 rfl 5 Try.underlying42 (by kernel_rfl) _ _ _ _ _ _ rfl rfl gb a16 cu.toList 5 hu7 (dBs (l k).d) (by rw [dBs_length]; rfl) (fun _ => ⟨rfl, _, rfl, fun j v hj => ?src⟩) (by rw [dBs_length, Array.length_toList, HCU2.out]; exact hfit) (dBs_one _) gb w7 (Below.refl _ _) (Nat.le_refl _) ?_
      case src =>
        have hj16 : j < 16 := by rw [← dBs_length (l k).d]; exact (List.getElem?_eq_some_iff.1 hj).1
        rw [dBs_get _ j hj16] at hj
        cases hj
        rw [Addr.add_mid, Nat.zero_add]
        exact hr7.cell hj16
      intro w8 HG8 hb8
      refine hK.out _ _ (hS1'.trans hb8) (fun hS8 => ?_)
      clear hK K
      try simp only [Act.put, List.setIfInBounds_toArray, List.set_cons_zero, List.set_cons_succ]
      refine wpAnyH_done (by kernel_rfl) ?_ _
      have hrow8 : RowB w8 gb sz (fun j => if a16 ≤ j ∧ j < a16 + 16 then dB (l k).d (j - a16) else F j) := rowB_splice (by rw [Array.length_toList]; exact HCU2.out) (fun i hi => by rw [Array.getElem?_toList]; exact HCU3.out i hi) ROW.out.2 hfit HG8.out
      obtain ⟨F8, hF8⟩ : ∃ z : Nat → Int, z = (fun j => if a16 ≤ j ∧ j < a16 + 16 then dB (l k).d (j - a16) else F j) := ⟨_, rfl⟩
      rw [← hF8] at hrow8
      have ROW8 := Lib.hid hrow8
      have BR8 := Lib.hid (BR.out.trans hS8)
      have y4 : w8.cell? ⟨ag, oa + k * 6 + 4, none⟩ = some (.int .u64 At) := (hS8.cell (p := ⟨ag, oa + k * 6 + 4, none⟩) hagw).trans x4
      have y5 : w8.cell? ⟨ag, oa + k * 6 + 5, none⟩ = some (.int .u8 sp) := (hS8.cell (p := ⟨ag, oa + k * 6 + 5, none⟩) hagw).trans x5
      obtain ⟨r2, hr2⟩ : ∃ z : Nat, (z : Int) = At % 16 := ⟨(At % 16).toNat, by omega⟩
      have t3 : At.tmod 16 = (r2 : Int) := by rw [Int.tmod_eq_emod_of_nonneg hAt0.1, hr2]
      have t4 : At % 16 = (r2 : Int) := hr2.symm
      have hr16 : r2 < 16 := by omega
      obtain ⟨ip, hip⟩ : ∃ z : Nat, z = a16 + r2 := ⟨_, rfl⟩
      have e17 : IntKind.i64.wrap ((a16 : Int) + (r2 : Int)) = (ip : Int) := by rw [IntWalk.i64_in _ (by omega)]; omega
      have e18 : IntKind.i64.wrap (r2 : Int) = (r2 : Int) := IntWalk.i64_in _ (by omega)
      have hips : ip < sz := by omega
      have y9 : w8.cell? ⟨gb, ip, none⟩ = some (.int .u8 (F8 ip)) := ROW8.out.1.cell hips
      have yf : w8.frozen? ⟨gb, ip, none⟩ = false := ROW8.out.1.frozen ip
      obtain ⟨v8, hv8⟩ : ∃ z, z = F8 ip := ⟨_, rfl⟩
      rw [← hv8] at y9
      have hv80 : 0 ≤ v8 ∧ v8 ≤ 255 := by rw [hv8]; exact ROW8.out.2 ip
      have HW8 := Lib.hid (show w.heap.size < w8.heap.size by have := BR8.out.size; have := ROW8.out.1.lt; omega)
      clear hr2 hip hv8 hrow8 hF8 hS8 hb8 HG8 hS1' hu7 hS1 hb7 hr7 hS0 hs7 hbs7 x4 x5
      go_upto_region 9 with fail
      go_region
      all_goals
        go_wp2_with fail
        have hrowE := rowB_set ROW8.out ip ((v8 + sp) % 256) (by omega)
        refine ⟨⟨k + 1, _, by go_num, by omega, by omega, ⟨hrowE.1.drew, hrowE.2⟩, (BR8.out.setCell (p := ⟨gb, ip, none⟩) (Nat.le_refl gb) _).drew⟩, by simp [intOf]; omega⟩
    case neg =>
      have hbs := BR.out.size
      have hgs := ROW.out.1.lt
      have BW := Lib.hid (Ba.out.trans (BR.out.mono (by omega)))
      have A5r := Lib.hid (A5a.out.kept (S := fun j => gb ≤ j) (keeps_from BR.out) (fun e => by have e : gb ≤ w.heap.size := e; omega))
      have Mr := Lib.hid (Ma.out.kept (S := fun j => gb ≤ j) (keeps_from BR.out) (fun e => by have e : gb ≤ b := e; omega) (fun e => by have e : gb ≤ B := e; omega))
      have HF := Lib.hid ROW.out.2
      have hsrc : Src (Two b B) wr (some ⟨gb, 0, none⟩) sz F := ⟨by have := HSZ.out; omega, fun _ => ⟨gb, 0, rfl, fun e => by rcases e with e | e <;> omega, fun i hi => by rw [Nat.zero_add]; exact ROW.out.1.cell hi⟩⟩
      have HWR := Lib.hid (write_ok' b B sz (fun _ => 0) [] 0 sz sz (some ⟨gb, 0, none⟩) F 0 wr Mr.out (by simp) (by omega) hsrc rfl)
      have hb3 : (b : Nat) < wr.heap.size := by omega
      have hz3 : w.heap.size < wr.heap.size := by omega
      clear hsrc
      obtain ⟨c3, hc3, hc4⟩ : ∃ c3 : Bool, decide ((n : Int) ≤ 300) = c3 ∧ decide (n ≤ 300) = c3 := ⟨_, rfl, by rw [decide_eq_decide]; omega⟩
      obtain ⟨MC, hMC⟩ : ∃ A : Array Value, A = #[.slice (some ⟨gb, 0, none⟩) sz sz, .slice none 0 0] := ⟨_, rfl⟩
      have HBLD := Lib.hid (show ∀ w, (Instr.build 45 #[(0, .slice (some ⟨gb, 0, none⟩) sz sz)]).run Try.prog w = .ok (.agg MC) w from fun w => by rw [hMC]; kernel_rfl)
      have SMC := Lib.hid (show MC.size = 2 by rw [hMC]; rfl)
      have OMC := Lib.hid (show MC.all (·.oneCell') = true by rw [hMC]; simp [Value.oneCell'])
      have HMC := Lib.hid hMC
      have HC4 := Lib.hid hc4
      clear hMC hc4
      by_cases h1 : k < n
      · have q1 : decide ((k : Int) < (n : Int)) = true := decide_eq_true (by omega)
        have q2 : decide ((k : Int) < 300) = false := decide_eq_false (by omega)
        go_wp2_with (first
          | (go_at_call 26; refine HWR.out.mono ?_; rintro e w5 ⟨rfl, hk5, hm5⟩; have A55 := Lib.hid (A5r.out.kept hk5 (fun e => by rcases e with e | e <;> omega)); have K5 := Lib.hid hk5; have M5 := Lib.hid hm5; clear hk5 hm5)
          | (go_at_call 13; refine (num_any _ _).mono ?_; rintro e w' ⟨rfl, rfl⟩)
          | ((with_reducible show wpList _ _ _ (⟨some 84, _, _, _, _, _⟩ :: _) _ _); refine wpList_build1 rfl 45 0 (.tmp 83) rfl (.slice (some ⟨gb, 0, none⟩) sz sz) (by first | rfl | simp [Act.eval, Act.put]) (HBLD.out _) ?_)
          | ((with_reducible show wpList _ _ _ (⟨none, .store _ (.tmp 5) _, _, _, _, _⟩ :: _) _ _); refine wpList_storeA rfl (b := w.heap.size) (A := zRM) (A' := MC) A55.out 45 (.tmp 5) (.tmp 84) rfl (by simp [Act.eval, Act.put]) (by simp [Act.eval, Act.put]) sizeRMz (by rw [SMC.out]; rfl) OMC.out ?_))
        have aE := A55.out.store MC (by rw [SMC.out]; rfl)
        have kE : Keeps (One w.heap.size) w5 (w5.setCells w.heap.size 0 MC.toList) := Keeps.store (S := One w.heap.size) (Keeps.refl _ _) (fun _ => rfl) _ _
        have row5 := K5.out.rowIs ROW.out.1 (fun e => by rcases e with e | e <;> omega)
        have rowE := kE.rowIs row5 (fun e => by have e : gb = w.heap.size := e; omega)
        refine bodyPost_ret (results_tct rfl _ _ _ aE rfl Try.underlying45 rfl (by rw [SMC.out]; exact sizeRM)) rfl ?_
        refine ⟨b, B, gb, upd (fun _ => 0) 0 sz F, ?_, by omega, by omega, by omega, by omega, by omega, ?_, ?_, ?_, bytes_upd bytes0 HF.out⟩
        · rw [← HMC.out, HC4.out]; rfl
        · exact bstore (BW.out.trans (K5.out.below (B := w.heap.size) (by omega) (fun j hj e => by rcases e with e | e <;> omega))) _ (Nat.le_refl _) _ _
        · have hlog : logged [] 0 sz = [(0, sz)] := by unfold logged; rw [if_neg (by have := HSZ.out; omega)]; rfl
          rw [← hlog]
          exact M5.out.kept kE (fun e => by have e : b = w.heap.size := e; omega) (fun e => by have e : B = w.heap.size := e; omega)
        · refine ⟨⟨gb, 0, none⟩, sz, none, 0, rfl, Nat.le_refl _, by have := HSZ.out; omega, Nat.le_refl _, by omega, fun _ => ⟨rfl, rfl⟩, ⟨by have := HSZ.out; omega, fun _ => ⟨gb, 0, rfl, fun e => e rfl, fun i hi => ?_⟩⟩, fun h => absurd h (by simp)⟩
          rw [Nat.zero_add, rowE.cell hi]
          unfold upd
          rw [if_pos (by omega)]
          rfl
      · have q1 : decide ((k : Int) < (n : Int)) = false := decide_eq_false (by omega)
        go_wp2_with (first
          | (go_at_call 26; refine HWR.out.mono ?_; rintro e w5 ⟨rfl, hk5, hm5⟩; have A55 := Lib.hid (A5r.out.kept hk5 (fun e => by rcases e with e | e <;> omega)); have K5 := Lib.hid hk5; have M5 := Lib.hid hm5; clear hk5 hm5)
          | (go_at_call 13; refine (num_any _ _).mono ?_; rintro e w' ⟨rfl, rfl⟩)
          | ((with_reducible show wpList _ _ _ (⟨some 84, _, _, _, _, _⟩ :: _) _ _); refine wpList_build1 rfl 45 0 (.tmp 83) rfl (.slice (some ⟨gb, 0, none⟩) sz sz) (by first | rfl | simp [Act.eval, Act.put]) (HBLD.out _) ?_)
          | ((with_reducible show wpList _ _ _ (⟨none, .store _ (.tmp 5) _, _, _, _, _⟩ :: _) _ _); refine wpList_storeA rfl (b := w.heap.size) (A := zRM) (A' := MC) A55.out 45 (.tmp 5) (.tmp 84) rfl (by simp [Act.eval, Act.put]) (by simp [Act.eval, Act.put]) sizeRMz (by rw [SMC.out]; rfl) OMC.out ?_))
        have aE := A55.out.store MC (by rw [SMC.out]; rfl)
        have kE : Keeps (One w.heap.size) w5 (w5.setCells w.heap.size 0 MC.toList) := Keeps.store (S := One w.heap.size) (Keeps.refl _ _) (fun _ => rfl) _ _
        have row5 := K5.out.rowIs ROW.out.1 (fun e => by rcases e with e | e <;> omega)
        have rowE := kE.rowIs row5 (fun e => by have e : gb = w.heap.size := e; omega)
        refine bodyPost_ret (results_tct rfl _ _ _ aE rfl Try.underlying45 rfl (by rw [SMC.out]; exact sizeRM)) rfl ?_
        refine ⟨b, B, gb, upd (fun _ => 0) 0 sz F, ?_, by omega, by omega, by omega, by omega, by omega, ?_, ?_, ?_, bytes_upd bytes0 HF.out⟩
        · rw [← HMC.out, HC4.out]; rfl
        · exact bstore (BW.out.trans (K5.out.below (B := w.heap.size) (by omega) (fun j hj e => by rcases e with e | e <;> omega))) _ (Nat.le_refl _) _ _
        · have hlog : logged [] 0 sz = [(0, sz)] := by unfold logged; rw [if_neg (by have := HSZ.out; omega)]; rfl
          rw [← hlog]
          exact M5.out.kept kE (fun e => by have e : b = w.heap.size := e; omega) (fun e => by have e : B = w.heap.size := e; omega)
        · refine ⟨⟨gb, 0, none⟩, sz, none, 0, rfl, Nat.le_refl _, by have := HSZ.out; omega, Nat.le_refl _, by omega, fun _ => ⟨rfl, rfl⟩, ⟨by have := HSZ.out; omega, fun _ => ⟨gb, 0, rfl, fun e => e rfl, fun i hi => ?_⟩⟩, fun h => absurd h (by simp)⟩
          rw [Nat.zero_add, rowE.cell hi]
          unfold upd
          rw [if_pos (by omega)]
          rfl
end
end Go.Proofs.Ytcljbmkdflkeeaa
