/- memory: few; the law MemoryNone returns true and writes to nothing that was there. -/
import Derived.Test.YtobbnfdflogicaaM2
import Derived.Deep.CutRange
namespace Go.Proofs.Ytobbnfdflogicaa
open Go.RowKit

def FewPost (n : Nat) (m : Int) (ln : Nat → Nat) (w : World) (e : Ending) (w' : World) : Prop := ∃ r : Bool, e = .returned (.bool r) ∧ (r = true → (n : Int) ≤ m ∧ ∀ i, i < n → ln i ≤ 5000) ∧ w = w'
theorem FewPost.no {n : Nat} {m : Int} {ln : Nat → Nat} {w : World} : FewPost n m ln w (.returned (.bool false)) w := ⟨false, rfl, fun h => (by cases h), rfl⟩

set_option maxHeartbeats 1000000 in
theorem few_any (ao : Option Addr) (n c : Nat) (m : Int) (hm100 : m ≤ 100) (ab : Nat → Option Addr) (ln cp : Nat → Nat) (w : World) (h : ∀ i, i < n → ∃ g o, ao = some ⟨g, o, none⟩ ∧ w.cell? ⟨g, o + i * 5 + 3, none⟩ = some (.slice (ab i) (ln i) (cp i))) :
   Calls Try.prog 19 #[.slice ao n c, .int .i64 m] w (FewPost n m ln w) := by
  have H := Lib.hid h
  clear h
  by_cases hm : m < (n : Int)
  · go_enter Try.func19, Try.ntmps19
    go_wp2_with fail
    go_ret
    exact FewPost.no
  have hn100 : n ≤ 100 := by omega
  go_enter Try.func19, Try.ntmps19
  go_wp2_with fail
  go_loop [5] (fun i => ∃ k : Nat, k ≤ n ∧ i = .int .i64 (k : Nat) ∧ ∀ j, j < k → ln j ≤ 5000) (fun i => n - (intOf i).toNat)
  case atStart => exact ⟨0, Nat.zero_le _, rfl, fun j hj => by omega⟩
  case round =>
    obtain ⟨k, hk, rfl, hln⟩ := hrel
    have HLN := Lib.hid hln
    clear hln
    by_cases hlt : k < n
    · obtain ⟨g, o, rfl, hc⟩ := H.out k hlt
      by_cases hl : 5000 < ln k
      · have hd : decide ((5000 : Int) < ((ln k : Nat) : Int)) = true := by simp; omega
        generalize ln k = l at *
        go_wp2_with fail
        go_ret
        exact FewPost.no
      · have hd : decide ((5000 : Int) < ((ln k : Nat) : Int)) = false := by simp; omega
        have HL := Lib.hid hl
        clear hl
        obtain ⟨l, hlk⟩ : ∃ l, l = ln k := ⟨_, rfl⟩
        rw [← hlk] at hd hc
        have HLK := Lib.hid hlk
        clear hlk
        go_wp2_with fail
        go_round
        case rel =>
          refine ⟨k + 1, by omega, by go_num, fun j hj => ?_⟩
          by_cases e : j = k
          · subst e; have := HL.out; omega
          · exact HLN.out j (by omega)
        case measure => simp [intOf]; omega
    · have hkn : k = n := by omega
      subst hkn
      go_wp2_with fail
      go_ret
      exact ⟨true, rfl, fun _ => ⟨by omega, HLN.out⟩, rfl⟩
/-- What MemoryNone keeps from call to call: p is no memory; the boxed act; a memory of one page. -/
structure NoneInv (w : World) (p : Option Addr) (b B : Nat) (len addr value : Int) (v : Value) (W : World) : Prop where
  nomem : NoMem W p
  k1 : W.cell? ⟨w.heap.size, 1, none⟩ = some (.int .i64 len)
  k2 : W.cell? ⟨w.heap.size, 2, none⟩ = some (.int .u64 addr)
  k3 : W.cell? ⟨w.heap.size, 3, none⟩ = some v
  k4 : W.cell? ⟨w.heap.size, 4, none⟩ = some (.int .u8 value)
  mem : MemAt W b B 4096 (fun _ => 0) []
  below : Below w.heap.size w W

theorem NoneInv.step {w W W' : World} {p : Option Addr} {b B : Nat} {len addr value : Int} {v : Value} (h : NoneInv w p b B len addr value v W) (hb : Below W.heap.size W W') : NoneInv w p b B len addr value v W' := by
  have e : ∀ {q : Addr} {u : Value}, W.cell? q = some u → W'.cell? q = some u := fun hc => (hb.cell (World.block_lt_of_cell? _ _ hc)).trans hc
  exact ⟨h.nomem.below hb, e h.k1, e h.k2, e h.k3, e h.k4, h.mem.below hb, h.below.trans (hb.mono h.below.size)⟩

set_option maxRecDepth 100000 in
theorem build_mem0 (w : World) : (Instr.build 69 #[]).run Try.prog w = .ok (.agg (zjl ++ [Value.slice none 0 0]).toArray) w := by kernel_rfl

set_option maxRecDepth 100000 in
set_option maxHeartbeats 4000000 in
theorem none_walk (kind len addr value : Int) (ao : Option Addr) (n c : Nat) (zero : Bool) (w : World) (ha : 0 ≤ addr) (ha' : addr ≤ 18446744073709551615) (hl : -9223372036854775808 ≤ len) (hl' : len ≤ 9223372036854775807) :
    Calls Try.prog 8 #[.agg #[.int .i64 kind, .int .i64 len, .int .u64 addr, .slice ao n c, .int .u8 value], .bool zero] w fun e w' => e = .returned (.bool true) ∧ Below w.heap.size w w' := by
  go_enter Try.func8, Try.ntmps8
  go_wp2_with fail
  obtain ⟨w2, hw2⟩ : ∃ w2, w2 = ((w.alloc (.cells #[.int .i64 kind, .int .i64 len, .int .u64 addr, .slice ao n c, .int .u8 value] 58)).alloc (.cells #[.int .i64 kind, .int .i64 len, .int .u64 addr, .slice ao n c, .int .u8 value] 58)) := ⟨_, rfl⟩
  rw [← hw2]
  have hb2 : Below w.heap.size w w2 := by rw [hw2]; exact ((Below.refl _ w).alloc (Nat.le_refl _) _).alloc (by simp) _
  have c1 : w2.cell? ⟨w.heap.size, 1, none⟩ = some (.int .i64 len) := by rw [hw2]; go_simp
  have c2 : w2.cell? ⟨w.heap.size, 2, none⟩ = some (.int .u64 addr) := by rw [hw2]; go_simp
  have c3 : w2.cell? ⟨w.heap.size, 3, none⟩ = some (.slice ao n c) := by rw [hw2]; go_simp
  have c4 : w2.cell? ⟨w.heap.size, 4, none⟩ = some (.int .u8 value) := by rw [hw2]; go_simp
  have c5 : w2.cell? ⟨w.heap.size + 1, 0 + 0 * 5 + 3, none⟩ = some (.slice ao n c) := by rw [hw2]; go_simp
  have hs2 : w2.heap.size = w.heap.size + 2 := by rw [hw2]; simp
  clear hw2
  refine (few_any (some ⟨w.heap.size + 1, 0, none⟩) 1 1 1 (by omega) (fun _ => ao) (fun _ => n) (fun _ => c) w2 (fun i hi => ⟨_, _, rfl, by
    have : i = 0 := by omega
    subst this; exact c5⟩)).mono ?_
  rintro e w3 ⟨r, rfl, hr, rfl⟩
  cases r
  · go_wp2_with fail
    refine (works_any _).mono ?_
    rintro e w3 ⟨rfl, hb3⟩
    go_wp2_with fail
    go_ret
    exact ⟨rfl, hb2.trans (hb3.mono hb2.size)⟩
  have hn5 : n ≤ 5000 := (hr rfl).2 0 (by omega)
  clear hr
  go_upto_if 13 with fail
  go_cut [5] from 12 to 15 (fun v wc => ∃ p, v = .pointer p ∧ NoMem wc p ∧ Below w2.heap.size w2 wc)
  case first =>
    cases zero
    · go_wp2_with fail
      go_meet
      case rel => exact ⟨_, rfl, .inl rfl, Below.refl _ _⟩
    · go_wp2_with ((with_reducible show wpList _ _ _ (⟨some 14, _, _, _, _, _⟩ :: _) _ _); refine wpList_build0 rfl 69 rfl (build_mem0 _) ?_)
      go_meet
      refine ⟨_, rfl, .inr ⟨w.heap.size + 2, 0, 0, rfl, ?_⟩, (Below.refl _ _).alloc (Nat.le_refl _) _⟩
      rw [← hs2, World.cell?_alloc_new]
      have : (zjl ++ [Value.slice none 0 0]).toArray[769]? = (zjl ++ [Value.slice none 0 0])[769]? := by simp
      rw [this, List.getElem?_append_right (by rw [zjl_length]; omega), zjl_length]; rfl
  case rest =>
    obtain ⟨p, rfl, hp, hb3⟩ := hcut
    go_wp2_with fail
    refine (new_ok 1 wc (by omega) (by omega)).mono ?_
    rintro e w4 ⟨b, B, rfl, hb, hB, hb4, hm4⟩
    have hb34 : Below w2.heap.size w2 w4 := hb3.trans (hb4.mono hb3.size)
    have H4 := Lib.hid (show NoneInv w p b B len addr value (.slice ao n c) w4 from ⟨hp.below hb4, (hb34.cell (by rw [hs2]; show w.heap.size < _; omega)).trans c1, (hb34.cell (by rw [hs2]; show w.heap.size < _; omega)).trans c2, (hb34.cell (by rw [hs2]; show w.heap.size < _; omega)).trans c3, (hb34.cell (by rw [hs2]; show w.heap.size < _; omega)).trans c4, hm4, hb2.trans (hb34.mono hb2.size)⟩)
    clear hp hb2 hb3 hb4 hb34 hm4 c1 c2 c3 c4 c5
    go_wp2_with fail
    refine (size_no p _ H4.out.nomem).mono ?_
    rintro e w' ⟨rfl, rfl⟩
    have e1 := H4.out.k1
    have e2 := H4.out.k2
    go_wp2_with fail
    refine (check_no p _ H4.out.nomem _ _).mono ?_
    clear e1 e2
    rintro e w' ⟨rfl, rfl⟩
    go_wp2_with fail
    refine (num_any _ _).mono ?_
    rintro e w' ⟨rfl, rfl⟩
    have e1 := H4.out.k1
    have e2 := H4.out.k2
    go_wp2_with fail
    refine (reads_no p _ H4.out.nomem _ _).mono ?_
    clear e1 e2
    rintro e w' ⟨rfl, rfl⟩
    have e2 := H4.out.k2
    have e3 := H4.out.k3
    go_wp2_with fail
    refine (write_no p _ H4.out.nomem _ _ _ _ ha (by omega)).mono ?_
    clear e2 e3
    rintro e w5 ⟨rfl, hb⟩
    have H5 := Lib.hid (H4.out.step hb)
    clear hb
    go_wp2_with fail
    refine (num_any _ _).mono ?_
    rintro e w' ⟨rfl, rfl⟩
    have e1 := H5.out.k1
    have e2 := H5.out.k2
    have e4 := H5.out.k4
    go_wp2_with fail
    refine (fill_no p _ H5.out.nomem _ _ _).mono ?_
    clear e1 e2 e4
    rintro e w6 ⟨rfl, hb⟩
    have H6 := Lib.hid (H5.out.step hb)
    clear hb
    go_wp2_with fail
    refine (num_any _ _).mono ?_
    rintro e w' ⟨rfl, rfl⟩
    go_wp2_with fail
    refine (logs_no p _ H6.out.nomem).mono ?_
    rintro e w7 ⟨rfl, hb⟩
    have H7 := Lib.hid (H6.out.step hb)
    clear hb
    go_wp2_with fail
    refine (clear_no p _ H7.out.nomem).mono ?_
    rintro e w' ⟨rfl, rfl⟩
    go_wp2_with fail
    refine (num_any _ _).mono ?_
    rintro e w' ⟨rfl, rfl⟩
    go_wp2_with fail
    refine (copy_no p _ H7.out.nomem).mono ?_
    rintro e w' ⟨rfl, rfl⟩
    go_wp2_with fail
    refine (same_no_no p none _ H7.out.nomem (.inl rfl)).mono ?_
    rintro e w' ⟨rfl, rfl⟩
    go_wp2_with fail
    refine (same_no_ok p _ H7.out.nomem b B 4096 _ _ H7.out.mem).mono ?_
    rintro e w' ⟨rfl, rfl⟩
    go_wp2_with fail
    refine (works_any _).mono ?_
    rintro e w8 ⟨rfl, hb⟩
    have H8 := Lib.hid (H7.out.step hb)
    clear hb
    go_wp2_with fail
    go_ret
    exact ⟨rfl, H8.out.below⟩
end Go.Proofs.Ytobbnfdflogicaa
