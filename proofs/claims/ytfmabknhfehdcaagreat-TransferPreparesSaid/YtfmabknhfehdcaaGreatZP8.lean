/- sgl: Encode. -/
import Derived.Test.YtfmabknhfehdcaaGreatZP7
import Derived.Outline
namespace Go.Proofs.YtfmabknhfehdcaaGreat
set_option linter.unusedSimpArgs false
set_option linter.unusedVariables false
open Go.RowKit
/-- the second word of a valid descriptor -/
def word1 (d : Dsc) : Int := d.n + d.key * 16777216 + (d.k - 1) * 1152921504606846976
def encA (d : Dsc) : Array Value := if Vld d then #[.int .u64 d.a, .int .u64 (word1 d)] else #[.int .u64 0, .int .u64 0]
def encE (d : Dsc) : Int := if Vld d then 0 else 2
theorem size2w : (Tryz.prog.info? 25).map (·.size) = some 2 := by kernel_rfl
def zer2 : Array Value := #[.int .u64 0, .int .u64 0]
theorem size2z : (Tryz.prog.info? 25).map (·.size) = some zer2.size := by kernel_rfl
theorem zero2 (w : World) : (zeroValue 25).run Tryz.prog w = .ok (.agg zer2) w := by kernel_rfl
theorem build2z (w : World) : (Instr.build 25 #[]).run Tryz.prog w = .ok (.agg zer2) w := by kernel_rfl
theorem u64s_one (x y : Int) : (#[Value.int .u64 x, .int .u64 y]).all (·.oneCell') = true := by simp [Value.oneCell']
theorem zer2_one : zer2.all (·.oneCell') = true := u64s_one 0 0
/-- the descriptor boxed, and the result beside it -/
theorem enc_start (c : Array Value) (w w1 : World) (hb : Below ((w.alloc (.cells c 72)).alloc (.cells zer2 25)).heap.size ((w.alloc (.cells c 72)).alloc (.cells zer2 25)) w1) :
  ArrAt w1 (w.heap.size + 1) zer2 ∧ Below w.heap.size w w1 ∧ w.heap.size + 2 ≤ w1.heap.size := by
 have h := ArrAt.fresh (w.alloc (.cells c 72)) zer2 25 (by decide)
 rw [show (w.alloc (.cells c 72)).heap.size = w.heap.size + 1 by simp] at h
 refine ⟨h.below hb, (((Below.refl _ w).alloc (Nat.le_refl _) _).alloc (by simp) _).trans (hb.mono (by simp; omega)), ?_⟩
 have := hb.size
 simp at this
 omega
theorem u64_or_shift (a b : Int) (k : Nat) (ha : 0 ≤ a) (ha' : a < 2 ^ k) (hb : 0 ≤ b) (h1 : a ≤ 18446744073709551615) (h2 : b * 2 ^ k ≤ 18446744073709551615) : bits .or .u64 a (b * 2 ^ k) = a + b * 2 ^ k := by
 have m1 : 0 ≤ b * 2 ^ k := Int.mul_nonneg hb (Int.le_of_lt (Int.pow_pos (by omega)))
 obtain ⟨x, rfl⟩ := Int.eq_ofNat_of_zero_le ha
 obtain ⟨y, rfl⟩ := Int.eq_ofNat_of_zero_le hb
 have e : (y : Int) * 2 ^ k = ((y <<< k : Nat) : Int) := by rw [Nat.shiftLeft_eq]; push_cast; rfl
 rw [e] at m1 h2 ⊢
 have hx : x < 2 ^ k := by
  have : ((x : Nat) : Int) < ((2 ^ k : Nat) : Int) := by push_cast; exact ha'
  exact Int.ofNat_lt.1 this
 rw [u64_or _ _ (by omega) (by omega) (by omega) (by omega)]
 have h := Nat.shiftLeft_add_eq_or_of_lt hx y
 rw [Nat.or_comm] at h
 simp only [Int.toNat_natCast]
 omega
theorem enc_or (n key i k : Int) (h3 : key = 0 ∨ k = 5) (n0 : 0 ≤ n) (n1 : n < lim k) (y0 : 0 ≤ key) (y1 : key ≤ 4294967295) (i0 : 0 ≤ i) (i4 : i ≤ 4) :
  bits .or .u64 n (key * 16777216) = n + key * 16777216 ∧ bits .or .u64 (n + key * 16777216) (i * 1152921504606846976) = n + key * 16777216 + i * 1152921504606846976 := by
 unfold lim at n1
 refine ⟨?_, u64_or_shift _ i 60 (by omega) (by split at n1 <;> omega) i0 (by split at n1 <;> omega) (by omega)⟩
 by_cases h : k = 5
 ·rw [if_pos h] at n1
  exact u64_or_shift n key 24 n0 (by omega) y0 (by omega) (by omega)
 ·rw [if_neg h] at n1
  obtain rfl : key = 0 := by omega
  have := u64_or_shift n 0 32 n0 (by omega) (by omega) (by omega) (by omega)
  simpa using this
/-- the kinds laid down -/
theorem kinds_world {w0 w1 W : World} (hb : Below w0.heap.size w0 w1) (hW : W = (w1.alloc (.cells zer5 117)).setCells w1.heap.size 0 kinds5.toList) :
  Below w0.heap.size w0 W ∧ W.cell? ⟨w1.heap.size, 0, none⟩ = some (.int .i64 1) ∧ W.cell? ⟨w1.heap.size, 1, none⟩ = some (.int .i64 2) ∧ W.cell? ⟨w1.heap.size, 2, none⟩ = some (.int .i64 3) ∧ W.cell? ⟨w1.heap.size, 3, none⟩ = some (.int .i64 4) ∧ W.cell? ⟨w1.heap.size, 4, none⟩ = some (.int .i64 5) := by
 have A3 : ArrAt W w1.heap.size kinds5 := by rw [hW]; exact (ArrAt.fresh w1 zer5 _ (by decide)).store kinds5 rfl
 have hb2 : Below w1.heap.size w1 W := by rw [hW]; exact bstore ((Below.refl _ _).alloc (Nat.le_refl _) _) _ (Nat.le_refl _) _ _
 exact ⟨hb.trans (hb2.mono hb.size), A3.cell rfl, A3.cell rfl, A3.cell rfl, A3.cell rfl, A3.cell rfl⟩
theorem index_is (b : Nat) (k r : Int) (hr : k - 1 = r) (h1 : 1 ≤ k) (h5 : k ≤ 5) (w : World) (c0 : w.cell? ⟨b, 0, none⟩ = some (.int .i64 1)) (c1 : w.cell? ⟨b, 1, none⟩ = some (.int .i64 2)) (c2 : w.cell? ⟨b, 2, none⟩ = some (.int .i64 3)) (c3 : w.cell? ⟨b, 3, none⟩ = some (.int .i64 4)) (c4 : w.cell? ⟨b, 4, none⟩ = some (.int .i64 5)) :
  Calls Tryz.prog 65 #[.slice (some ⟨b, 0, none⟩) 5 5, .int .i64 k] w fun e w' => e = .returned (.int .i64 r) ∧ w = w' := by
 subst hr
 have := index5 b k w c0 c1 c2 c3 c4
 rw [if_pos ⟨h1, h5⟩] at this
 exact this
set_option maxRecDepth 100000 in
set_option maxHeartbeats 2000000 in
theorem encode_no (d : Dsc) (w : World) (hok : d.Ok) (hv : ¬ Vld d) :
  Calls Tryz.prog 25 #[.agg d.cells] w fun e w' => e = .returned (.tuple #[.agg #[.int .u64 0, .int .u64 0], .int .i64 2]) ∧ Below w.heap.size w w' := by
 have HV := Lib.hid fun w => svalid_any d false (decide_eq_false hv) w hok
 obtain ⟨k, a, n, key⟩ := d
 unfold Dsc.cells at *
 simp only [] at *
 clear hv hok
 go_enter Tryz.func25, Tryz.ntmps25
 go_wp2_with (first
  | ((with_reducible show wpList _ _ _ (⟨some 2, _, _, _, _, _⟩ :: _) _ _); refine wpList_alloc rfl 25 rfl zero2 ?_; rw [show (Value.agg zer2).cells = zer2 from rfl])
  | (go_at_call 63; refine (HV.out _).mono ?_; rintro e w1 ⟨rfl, hb⟩; obtain ⟨ha, hb1, hs⟩ := enc_start _ _ _ hb; have A2 := Lib.hid ha; have HB := Lib.hid hb1; clear ha hb hb1)
  | ((with_reducible show wpList _ _ _ (⟨some 9, _, _, _, _, _⟩ :: _) _ _); refine wpList_build0 rfl 25 rfl (build2z _) ?_)
  | ((with_reducible show wpList _ _ _ (⟨none, .store _ (.tmp 2) _, _, _, _, _⟩ :: _) _ _); refine wpList_storeA rfl (b := w.heap.size + 1) (A := zer2) (A' := zer2) A2.out 25 (.tmp 2) (.tmp 9) rfl (by simp [Act.eval, Act.put]) (by simp [Act.eval, Act.put]) size2z rfl zer2_one ?_))
 exact bodyPost_ret (results_ct rfl _ _ _ (A2.out.store zer2 rfl) rfl Tryz.underlying25 rfl size2z) rfl ⟨rfl, bstore HB.out _ (by omega) _ _⟩
set_option maxRecDepth 100000 in
set_option maxHeartbeats 2000000 in
theorem encode_ok (d : Dsc) (w : World) (hok : d.Ok) (hv : Vld d) :
  Calls Tryz.prog 25 #[.agg d.cells] w fun e w' => e = .returned (.tuple #[.agg #[.int .u64 d.a, .int .u64 (word1 d)], .int .i64 0]) ∧ Below w.heap.size w w' := by
 have HV := Lib.hid fun w => svalid_any d true (decide_eq_true hv) w hok
 obtain ⟨k, a, n, key⟩ := d
 unfold Dsc.cells at *
 simp only [] at *
 obtain ⟨⟨h1, h5⟩, ⟨n0, n1⟩, h3, h4⟩ := hv
 obtain ⟨hk, ⟨a0, a1⟩, hn, ⟨y0, y1⟩⟩ := hok
 simp only [] at *
 have hn2 : n < 4294967296 := by unfold lim at n1; split at n1 <;> omega
 have HN1 := Lib.hid n1
 have H3 := Lib.hid h3
 clear n1 h3 h4 hk hn
 obtain ⟨i, hi⟩ : ∃ i, i = k - 1 := ⟨_, rfl⟩
 have i0 : 0 ≤ i := by omega
 have i4 : i ≤ 4 := by omega
 have HI := Lib.hid hi
 clear hi
 go_enter Tryz.func25, Tryz.ntmps25
 go_upto_region 4 with (first
  | ((with_reducible show wpList _ _ _ (⟨some 2, _, _, _, _, _⟩ :: _) _ _); refine wpList_alloc rfl 25 rfl zero2 ?_; rw [show (Value.agg zer2).cells = zer2 from rfl])
  | (go_at_call 63; refine (HV.out _).mono ?_; rintro e w0 ⟨rfl, hb0⟩; obtain ⟨ha, hb1, hs⟩ := enc_start _ _ _ hb0; have A2 := Lib.hid ha; have HB := Lib.hid hb1; obtain ⟨hc, hf⟩ := bcell hb0; clear ha hb1)
  | (go_at_call 64; refine (types_any _).mono ?_; rintro e w1 ⟨rfl, hb⟩)
  | ((with_reducible show wpList _ _ _ (⟨some 4, _, _, _, _, _⟩ :: _) _ _); refine wpList_alloc rfl 117 rfl zero5 ?_; rw [show (Value.agg zer5).cells = zer5 from rfl])
  | ((with_reducible show wpList _ _ _ (⟨none, .store _ (.tmp 4) _, _, _, _, _⟩ :: _) _ _); refine wpList_storeA rfl (b := w1.heap.size) (A := zer5) (A' := kinds5) (ArrAt.fresh w1 zer5 _ (by decide)) 117 (.tmp 4) (.tmp 10) rfl (by simp [Act.eval, Act.put]) (by simp [Act.eval, Act.put]) size5 rfl kinds5_one ?_))
 obtain ⟨W, hW⟩ : ∃ W, W = (w1.alloc (.cells zer5 117)).setCells w1.heap.size 0 kinds5.toList := ⟨_, rfl⟩
 rw [← hW]
 obtain ⟨hbW, c0, c1, c2, c3, c4⟩ := kinds_world hb hW
 have d0 : W.cell? ⟨w.heap.size, 0, none⟩ = some (.int .i64 k) := (hbW.cell (p := ⟨w.heap.size, 0, none⟩) (by simp; omega)).trans ((hb0.cell (p := ⟨w.heap.size, 0, none⟩) (by simp; omega)).trans (by go_simp))
 have d1 : W.cell? ⟨w.heap.size, 1, none⟩ = some (.int .u64 a) := (hbW.cell (p := ⟨w.heap.size, 1, none⟩) (by simp; omega)).trans ((hb0.cell (p := ⟨w.heap.size, 1, none⟩) (by simp; omega)).trans (by go_simp))
 have d2 : W.cell? ⟨w.heap.size, 2, none⟩ = some (.int .i64 n) := (hbW.cell (p := ⟨w.heap.size, 2, none⟩) (by simp; omega)).trans ((hb0.cell (p := ⟨w.heap.size, 2, none⟩) (by simp; omega)).trans (by go_simp))
 have d3 : W.cell? ⟨w.heap.size, 3, none⟩ = some (.int .u32 key) := (hbW.cell (p := ⟨w.heap.size, 3, none⟩) (by simp; omega)).trans ((hb0.cell (p := ⟨w.heap.size, 3, none⟩) (by simp; omega)).trans (by go_simp))
 obtain ⟨b3, hb3⟩ : ∃ z, z = w1.heap.size := ⟨_, rfl⟩
 rw [← hb3] at c0 c1 c2 c3 c4 ⊢
 have HC : Hid (∀ n, Calls Tryz.prog 65 #[.slice (some ⟨b3, 0, none⟩) 5 5, .int .i64 k] (W.drewN n) fun e w'' => e = .returned (.int .i64 i) ∧ ∃ m, w'' = W.drewN m) := Lib.hid fun n => (index_is b3 k i HI.out.symm h1 h5 (W.drewN n) c0 c1 c2 c3 c4).mono fun _ _ h => ⟨h.1, _, h.2.symm⟩
 have A4 := Lib.hid (A2.out.below hbW)
 have HB4 := Lib.hid (HB.out.trans (hbW.mono (by omega)))
 clear hb hW hb3 hbW A2 HB hb0 hc hf
 simp only [Act.put, List.setIfInBounds_toArray, List.set_cons_succ, List.set_cons_zero]
 go_quiet ((go_at_call 65; exact HC.out _))
 obtain ⟨e1, e2⟩ := enc_or n key i k H3.out n0 HN1.out y0 y1 i0 i4
 obtain ⟨v, hv⟩ : ∃ z, z = n + key * 16777216 + i * 1152921504606846976 := ⟨_, rfl⟩
 rw [← hv] at e2
 have HV2 := Lib.hid (show v = n + key * 16777216 + (k - 1) * 1152921504606846976 by rw [hv, HI.out])
 clear hv
 obtain ⟨W2, hW2⟩ : ∃ z, z = W.drewN nq := ⟨_, rfl⟩
 rw [← hW2]
 have hN : Below W.heap.size W W2 := by rw [hW2]; exact belowN (Below.refl _ _) _
 have A5 := Lib.hid (A4.out.below hN)
 have HB5 := Lib.hid (belowN HB4.out nq)
 rw [← hW2] at HB5
 have hs2 := HB5.out.size
 have g1 : W2.cell? ⟨w.heap.size, 1, none⟩ = some (.int .u64 a) := by rw [hW2]; exact d1
 have g2 : W2.cell? ⟨w.heap.size, 2, none⟩ = some (.int .i64 n) := by rw [hW2]; exact d2
 have g3 : W2.cell? ⟨w.heap.size, 3, none⟩ = some (.int .u32 key) := by rw [hW2]; exact d3
 clear hW2 hN A4 HB4 d0 d1 d2 d3 c0 c1 c2 c3 c4 HC
 go_wp2_with (first
  | ((with_reducible show wpList _ _ _ (⟨none, .store _ (.tmp 2) _, _, _, _, _⟩ :: _) _ _); refine wpList_storeA rfl (b := w.heap.size + 1) (A := zer2) (A' := #[.int .u64 a, .int .u64 v]) A5.out 25 (.tmp 2) (.tmp 29) rfl (by simp [Act.eval, Act.put]) (by simp [Act.eval, Act.put]) size2z rfl (u64s_one _ _) ?_))
 rw [show word1 ⟨k, a, n, key⟩ = v from HV2.out.symm]
 exact bodyPost_ret (results_ct rfl _ _ _ (A5.out.store #[.int .u64 a, .int .u64 v] rfl) rfl Tryz.underlying25 rfl size2z) rfl ⟨rfl, bstore HB5.out _ (by omega) _ _⟩
end Go.Proofs.YtfmabknhfehdcaaGreat
