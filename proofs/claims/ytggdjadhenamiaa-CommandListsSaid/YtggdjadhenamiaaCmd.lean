/- command: Encode. -/
import Derived.Test.YtggdjadhenamiaaWire
import Derived.Laws.CopyOwn
import Derived.Deep.RegionLaw
import Derived.Deep.CutRange
import Derived.Deep.RegionWith
import Derived.Deep.RegionHeld3
import Derived.Deep.DrawnRows
namespace Go.Proofs.Ytggdjadhenamiaa
set_option linter.unusedVariables false
set_option linter.unusedSimpArgs false
open Go.RowKit

def z8 : Nat → Value := fun _ => .int .u8 0
theorem zero64 (w : World) : (zeroValue 29).run Try.prog w = .ok (.agg (arr 64 z8)) w := by kernel_rfl
theorem size64 : (Try.prog.info? 29).map (·.size) = some 64 := by kernel_rfl

/-- A command. -/
structure Cmd where
  op : Int
  fused : Int
  sgl : Bool
  id : Int
  nsid : Int
  c2 : Int
  c3 : Int
  mt : Int
  d0 : Int
  d1 : Int
  w0 : Int
  w1 : Int
  w2 : Int
  w3 : Int
  w4 : Int
  w5 : Int

def Cmd.cells (c : Cmd) : Array Value := #[.int .u8 c.op, .int .u8 c.fused, .bool c.sgl, .int .u16 c.id, .int .u32 c.nsid, .int .u32 c.c2, .int .u32 c.c3, .int .u64 c.mt, .int .u64 c.d0, .int .u64 c.d1, .int .u32 c.w0, .int .u32 c.w1, .int .u32 c.w2, .int .u32 c.w3, .int .u32 c.w4, .int .u32 c.w5]
def Cmd.v (c : Cmd) : Value := .agg c.cells
structure Cmd.Ok (c : Cmd) : Prop where
  op : 0 ≤ c.op ∧ c.op ≤ 255
  fused : 0 ≤ c.fused ∧ c.fused ≤ 255
  id : 0 ≤ c.id ∧ c.id ≤ 65535
  nsid : 0 ≤ c.nsid ∧ c.nsid ≤ 4294967295
  c2 : 0 ≤ c.c2 ∧ c.c2 ≤ 4294967295
  c3 : 0 ≤ c.c3 ∧ c.c3 ≤ 4294967295
  mt : 0 ≤ c.mt ∧ c.mt ≤ 18446744073709551615
  d0 : 0 ≤ c.d0 ∧ c.d0 ≤ 18446744073709551615
  d1 : 0 ≤ c.d1 ∧ c.d1 ≤ 18446744073709551615
  w0 : 0 ≤ c.w0 ∧ c.w0 ≤ 4294967295
  w1 : 0 ≤ c.w1 ∧ c.w1 ≤ 4294967295
  w2 : 0 ≤ c.w2 ∧ c.w2 ≤ 4294967295
  w3 : 0 ≤ c.w3 ∧ c.w3 ≤ 4294967295
  w4 : 0 ≤ c.w4 ∧ c.w4 ≤ 4294967295
  w5 : 0 ≤ c.w5 ∧ c.w5 ≤ 4294967295

theorem u32_or_shift (a b : Int) (k : Nat) (ha : 0 ≤ a) (ha' : a < 2 ^ k) (hb : 0 ≤ b) (h1 : a ≤ 4294967295) (h2 : b * 2 ^ k ≤ 4294967295) : bits .or .u32 a (b * 2 ^ k) = a + b * 2 ^ k := by
  have m1 : 0 ≤ b * 2 ^ k := Int.mul_nonneg hb (Int.le_of_lt (Int.pow_pos (by omega)))
  obtain ⟨x, rfl⟩ := Int.eq_ofNat_of_zero_le ha
  obtain ⟨y, rfl⟩ := Int.eq_ofNat_of_zero_le hb
  have e : (y : Int) * 2 ^ k = ((y <<< k : Nat) : Int) := by rw [Nat.shiftLeft_eq]; push_cast; rfl
  rw [e] at m1 h2 ⊢
  have hx : x < 2 ^ k := by
    have : ((x : Nat) : Int) < ((2 ^ k : Nat) : Int) := by push_cast; exact ha'
    exact Int.ofNat_lt.1 this
  rw [u32_or _ _ (by omega) (by omega) (by omega) (by omega)]
  have h := Nat.shiftLeft_add_eq_or_of_lt hx y
  rw [Nat.or_comm] at h
  simp only [Int.toNat_natCast]
  omega

/-- the first word of an entry -/
def fword (op fused id : Int) (sgl : Bool) : Int := op + fused * 256 + id * 65536 + if sgl then 16384 else 0

theorem or_fword (op fused id : Int) (h1 : 0 ≤ op ∧ op ≤ 255) (h2 : 0 ≤ fused ∧ fused ≤ 2) (h3 : 0 ≤ id ∧ id ≤ 65535) : bits .or .u32 (bits .or .u32 op (fused * 256)) (id * 65536) = fword op fused id false := by
  have e1 := u32_or_shift op fused 8 h1.1 (by omega) h2.1 (by omega) (by omega)
  have e2 := u32_or_shift (op + fused * 2 ^ 8) id 16 (by omega) (by omega) h3.1 (by omega) (by omega)
  have p8 : (2 : Int) ^ 8 = 256 := rfl
  have p16 : (2 : Int) ^ 16 = 65536 := rfl
  rw [p8] at e1 e2
  rw [p16] at e2
  rw [e1, e2]
  simp [fword]
theorem or_fword2 (op fused id : Int) (h1 : 0 ≤ op ∧ op ≤ 255) (h2 : 0 ≤ fused ∧ fused ≤ 2) (h3 : 0 ≤ id ∧ id ≤ 65535) : bits .or .u32 (fword op fused id false) 16384 = fword op fused id true := by
  have hf : fword op fused id false = op + fused * 256 + id * 65536 := by simp [fword]
  have ht : fword op fused id true = op + fused * 256 + id * 65536 + 16384 := by simp [fword]
  rw [hf, ht]
  obtain ⟨lo, hlo⟩ : ∃ lo : Nat, op + fused * 256 = lo := ⟨(op + fused * 256).toNat, by omega⟩
  obtain ⟨i, rfl⟩ := Int.eq_ofNat_of_zero_le h3.1
  rw [hlo, u32_or _ _ (by omega) (by omega) (by omega) (by omega)]
  have e0 : ((lo : Int) + (i : Int) * 65536).toNat = lo + i * 65536 := by omega
  have e9 : (16384 : Int).toNat = 16384 := rfl
  rw [e0, e9]
  have a1 : ((lo + i * 65536) ||| 16384) / 2 ^ 16 = ((lo + i * 65536) / 2 ^ 16) ||| (16384 / 2 ^ 16) := Nat.or_div_two_pow
  have a2 : ((lo + i * 65536) ||| 16384) % 2 ^ 16 = ((lo + i * 65536) % 2 ^ 16) ||| (16384 % 2 ^ 16) := Nat.or_mod_two_pow
  have a3 : (lo + i * 65536) % 2 ^ 16 = lo := by omega
  have a4 := Nat.two_pow_add_eq_or_of_lt (i := 14) (b := lo) (by omega) 1
  have a5 : lo ||| 16384 = 16384 + lo := by rw [Nat.or_comm]; exact a4.symm
  rw [show 16384 / 2 ^ 16 = 0 from rfl, Nat.or_zero] at a1
  rw [a3, show 16384 % 2 ^ 16 = 16384 from rfl, a5] at a2
  generalize (lo + i * 65536) ||| 16384 = x at *
  omega

/-- the first four words -/
def h4 (a b c d : Int) (i : Nat) : Int := if i = 0 then a else if i = 1 then b else if i = 2 then c else d
theorem h4_bd {a b c d : Int} (h1 : 0 ≤ a ∧ a ≤ 4294967295) (h2 : 0 ≤ b ∧ b ≤ 4294967295) (h3 : 0 ≤ c ∧ c ≤ 4294967295) (h5 : 0 ≤ d ∧ d ≤ 4294967295) : ∀ i, 0 ≤ h4 a b c d i ∧ h4 a b c d i ≤ 4294967295 := by
  intro i
  unfold h4
  split
  · exact h1
  · split
    · exact h2
    · split
      · exact h3
      · exact h5
def w6f (a b c d e f : Int) (i : Nat) : Int := if i = 0 then a else if i = 1 then b else if i = 2 then c else if i = 3 then d else if i = 4 then e else f
theorem w6f_bd {a b c d e f : Int} (h1 : 0 ≤ a ∧ a ≤ 4294967295) (h2 : 0 ≤ b ∧ b ≤ 4294967295) (h3 : 0 ≤ c ∧ c ≤ 4294967295) (h4 : 0 ≤ d ∧ d ≤ 4294967295) (h5 : 0 ≤ e ∧ e ≤ 4294967295) (h6' : 0 ≤ f ∧ f ≤ 4294967295) : ∀ i, 0 ≤ w6f a b c d e f i ∧ w6f a b c d e f i ≤ 4294967295 := by
  intro i
  unfold w6f
  (repeat' split) <;> assumption
theorem fword_bd (op fused id : Int) (sgl : Bool) (h1 : 0 ≤ op ∧ op ≤ 255) (h2 : 0 ≤ fused ∧ fused ≤ 2) (h3 : 0 ≤ id ∧ id ≤ 65535) : 0 ≤ fword op fused id sgl ∧ fword op fused id sgl ≤ 4294967295 := by
  unfold fword
  split <;> omega

/-- the bytes of m numbers, n each -/
def flatB (n : Nat) (zs : Nat → Int) : Nat → List Value
  | 0 => []
  | k + 1 => flatB n zs k ++ bytesL (zs k) n
theorem flatB_length (n : Nat) (zs : Nat → Int) (m : Nat) : (flatB n zs m).length = n * m := by
  induction m with
  | zero => rfl
  | succ m ih => unfold flatB; rw [List.length_append, ih, bytesL_length]; rfl
theorem flatB_one (n : Nat) (zs : Nat → Int) (m : Nat) : ∀ u ∈ flatB n zs m, u.oneCell' = true := by
  induction m with
  | zero => intro u hu; cases hu
  | succ m ih =>
    intro u hu
    rcases List.mem_append.1 hu with h | h
    · exact ih u h
    · exact bytesL_one _ _ u h

set_option maxRecDepth 100000 in
set_option maxHeartbeats 2000000 in
theorem enc1_ok (P : Nat → Prop) (g gs o m c : Nat) (zs : Nat → Int) (xs : List Value) (w : World) (h : Wr P g w xs) (hP : P gs) (hc : ∀ i, i < m → w.cell? ⟨gs, o + i, none⟩ = some (.int .u32 (zs i))) (hz : ∀ i, 0 ≤ zs i ∧ zs i ≤ 4294967295) (hl : xs.length + 4 * m ≤ 3000) :
   Calls Try.prog 27 #[.slice (some ⟨gs, o, none⟩) m c, .pointer (some ⟨g, 0, none⟩)] w fun e w' => e = .returned (.tuple #[]) ∧ Keeps (fun k => ¬ P k) w w' ∧ Wr P g w' (xs ++ flatB 4 zs m) := by
  have H := Lib.hid h
  have HC := Lib.hid hc
  have HZ := Lib.hid hz
  clear h hc hz
  go_enter Try.func27, Try.ntmps27
  go_wp2_with fail
  go_loopw [4, 7] (fun _ i wr => ∃ k : Nat, k ≤ m ∧ i = .int .i64 k ∧ Keeps (fun k => ¬ P k) w wr ∧ Wr P g wr (xs ++ flatB 4 zs k)) (fun _ i _ => m - (intOf i).toNat)
  case atStart => exact ⟨0, Nat.zero_le _, rfl, Keeps.refl _ _, by simpa [flatB] using H.out⟩
  case round =>
    obtain ⟨k, hk, rfl, hkp, hw⟩ := hrel
    have HK := Lib.hid hkp
    have HW := Lib.hid hw
    clear hkp hw
    by_cases hlt : k < m
    · have c0 := HK.out.cell (HC.out k hlt) (fun h => h hP)
      obtain ⟨z1, z2⟩ := HZ.out k
      obtain ⟨z, hz⟩ : ∃ z, z = zs k := ⟨_, rfl⟩
      rw [← hz] at c0 z1 z2
      have HZK := Lib.hid hz
      clear hz
      go_wp2_with fail
      refine (wAdd_ok P g _ z 4 wr HW.out (by omega) (by omega) z1 (by omega) (.inr ⟨by omega, by omega⟩) (by rw [List.length_append, flatB_length]; omega)).mono ?_
      rintro e w1 ⟨rfl, hk1, hw1⟩
      have HK1 := Lib.hid (HK.out.trans hk1)
      have HW1 := Lib.hid hw1
      clear hk1 hw1
      go_wp2_with fail
      go_roundw
      case rel =>
        refine ⟨k + 1, by omega, by go_num, HK1.out, ?_⟩
        have := HW1.out
        rw [List.append_assoc, HZK.out] at this
        exact this
      case measure => simp [intOf]; omega
    · obtain rfl : m = k := by omega
      go_wp2_with fail
      go_end0
      exact ⟨rfl, HK.out, HW.out⟩

theorem results64 {f : Func} (hf : f.results = #[.cell 2 29, .tmp 3]) (tmps : Array Value) (w : World) (ab ty : Nat) (G : Nat → Value) (e : Value) (h : w.rowIs ab ty 64 G) (h2 : tmps.getD 2 undef = .pointer (some ⟨ab, 0, none⟩)) (h3 : tmps.getD 3 undef = e) :
    (results f tmps).run Try.prog w = .ok (.tuple #[.agg (arr 64 G), e]) w := by
  rw [results_cell_tmp (p := 2) (u := 3) (ty := 29) hf, h2, h3]
  have hl := run_loadVar_mid (P := Try.prog) w ab 0 29 (arr 64 G).toList _ (rowIs_range0 h) Try.underlying29 rfl (by rw [size64]; simp [arr])
  simp only [asAddr, Sem.run_pure, Result.andThen_ok, hl, Array.toArray_toList]

theorem z8_one : (arr 64 z8).all (·.oneCell') = true := arr_one fun _ _ => rfl

/-- The two blocks that Encode makes first. -/
theorem encode_start (c : Cmd) (w W : World) (hW : W = (w.alloc (.cells c.cells 28)).alloc (.cells (arr 64 z8) 29)) :
    W.rowIs w.heap.size 28 16 (fun i => c.cells.getD i undef) ∧ W.rowIs (w.heap.size + 1) 29 64 z8 ∧ Below w.heap.size w W ∧ W.heap.size = w.heap.size + 2 := by
  subst hW
  have e1 : (w.alloc (.cells c.cells 28)).heap.size = w.heap.size + 1 := by simp
  refine ⟨?_, ?_, ((Below.refl _ _).alloc (Nat.le_refl _) _).alloc (by simp) _, by simp⟩
  · refine World.rowIs.alloc ?_ _
    have := World.rowIs_alloc w c.cells 28 (fun i => c.cells.getD i undef) (fun i hi => by
      simp only [Array.getD_eq_getD_getElem?]
      rw [Array.getElem?_eq_getElem hi]; rfl)
    exact this
  · have := rowIs_arr (w.alloc (.cells c.cells 28)) 29 64 z8
    rw [e1] at this
    exact this

set_option maxRecDepth 100000 in
set_option maxHeartbeats 2000000 in
theorem cencode_err (c : Cmd) (w : World) (hok : c.Ok) (hf : 2 < c.fused) :
   Calls Try.prog 10 #[c.v] w fun e w' => e = .returned (.tuple #[.agg (arr 64 z8), .int .i64 2]) ∧ Below w.heap.size w w' := by
  have HS := Lib.hid (encode_start c w)
  have d1 : decide ((2 : Int) < c.fused) = true := by simpa using hf
  obtain ⟨op, fused, sgl, id, nsid, c2, c3, mt, d0, d1', x0, x1, x2, x3, x4, x5⟩ := c
  unfold Cmd.v Cmd.cells at *
  simp only [] at *
  go_enter Try.func10, Try.ntmps10
  go_upto_region 1 with ((with_reducible show wpList _ _ _ (⟨some 2, _, _, _, _, _⟩ :: _) _ _); refine wpList_alloc rfl 29 rfl zero64 ?_; rw [show (Value.agg (arr 64 z8)).cells = arr 64 z8 from rfl])
  obtain ⟨W, hW⟩ : ∃ W, W = (w.alloc (.cells #[.int .u8 op, .int .u8 fused, .bool sgl, .int .u16 id, .int .u32 nsid, .int .u32 c2, .int .u32 c3, .int .u64 mt, .int .u64 d0, .int .u64 d1', .int .u32 x0, .int .u32 x1, .int .u32 x2, .int .u32 x3, .int .u32 x4, .int .u32 x5] 28)).alloc (.cells (arr 64 z8) 29) := ⟨_, rfl⟩
  rw [← hW]
  obtain ⟨h1, h2, h3, h4⟩ := HS.out _ hW
  have b1 : W.cell? ⟨w.heap.size, 1, none⟩ = some (.int .u8 fused) := World.rowIs.cell h1 (i := 1) (by omega)
  have H2 := Lib.hid h2
  have HB := Lib.hid h3
  have HRA := Lib.hid (rowIs_range0 h2)
  have HTH := Lib.hid (rowIs_there h2 0 64 (by omega))
  clear h1 h2 h3 hW
  go_wp2_with (first | ((with_reducible show wpList _ _ _ (⟨some 12, _, _, _, _, _⟩ :: _) _ _); refine wpList_load_mid rfl 29 (.tmp 2) rfl (w.heap.size + 1) 0 rfl (arr 64 z8).toList _ HRA.out Try.underlying29 rfl (by rw [size64]; simp [arr]) ?_) |
    ((with_reducible show wpList _ _ _ (⟨none, _, _, _, _, _⟩ :: _) _ _); refine wpList_store_mid rfl 29 (.tmp 2) (.tmp 12) rfl (w.heap.size + 1) 0 (arr 64 z8) rfl (by simp [Act.eval, Act.put]) (by rw [arr_size]; exact HTH.out) (by rw [size64, arr_size]) z8_one ?_))
  refine bodyPost_ret (results64 rfl _ _ _ _ z8 _ (rowIs_store H2.out) rfl rfl) rfl ⟨rfl, ?_⟩
  exact HB.out.trans ((Keeps.setCells _ (Keeps.refl (One (w.heap.size + 1)) W) 0).below (B := w.heap.size) HB.out.size (fun k hk e => by have e : k = w.heap.size + 1 := e; omega))

/-- the bytes of an entry, as they are written -/
def encL (c : Cmd) : List Value := [] ++ flatB 4 (h4 (fword c.op c.fused c.id c.sgl) c.nsid c.c2 c.c3) 4 ++ bytesL c.mt 8 ++ bytesL c.d0 8 ++ bytesL c.d1 8 ++ flatB 4 (w6f c.w0 c.w1 c.w2 c.w3 c.w4 c.w5) 6

set_option maxRecDepth 100000 in
set_option maxHeartbeats 4000000 in
theorem cencode_ok (c : Cmd) (w : World) (hok : c.Ok) (hf : c.fused ≤ 2) :
   Calls Try.prog 10 #[c.v] w fun e w' => e = .returned (.tuple #[.agg (arr 64 fun j => (encL c).getD j undef), .int .i64 0]) ∧ Below w.heap.size w w' := by
  have HS := Lib.hid (encode_start c w)
  have HOK := Lib.hid hok
  have d1 : decide ((2 : Int) < c.fused) = false := by simpa using hf
  obtain ⟨op, fused, sgl, id, nsid, c2, c3, mt, d0, d1', x0, x1, x2, x3, x4, x5⟩ := c
  unfold Cmd.v Cmd.cells at *
  simp only [] at *
  obtain ⟨a1, a2⟩ := hok.op
  obtain ⟨a3, a4⟩ := hok.fused
  obtain ⟨a5, a6⟩ := hok.id
  simp only [] at a1 a2 a3 a4 a5 a6
  clear hok
  cases sgl
  · go_enter Try.func10, Try.ntmps10
    go_upto_region 1 with ((with_reducible show wpList _ _ _ (⟨some 2, _, _, _, _, _⟩ :: _) _ _); refine wpList_alloc rfl 29 rfl zero64 ?_; rw [show (Value.agg (arr 64 z8)).cells = arr 64 z8 from rfl])
    obtain ⟨W, hW⟩ : ∃ W, W = (w.alloc (.cells #[.int .u8 op, .int .u8 fused, .bool false, .int .u16 id, .int .u32 nsid, .int .u32 c2, .int .u32 c3, .int .u64 mt, .int .u64 d0, .int .u64 d1', .int .u32 x0, .int .u32 x1, .int .u32 x2, .int .u32 x3, .int .u32 x4, .int .u32 x5] 28)).alloc (.cells (arr 64 z8) 29) := ⟨_, rfl⟩
    rw [← hW]
    obtain ⟨h1, h2, h3, h4⟩ := HS.out _ hW
    have b0 : W.cell? ⟨w.heap.size, 0, none⟩ = some (.int .u8 op) := World.rowIs.cell h1 (i := 0) (by omega)
    have b1 : W.cell? ⟨w.heap.size, 1, none⟩ = some (.int .u8 fused) := World.rowIs.cell h1 (i := 1) (by omega)
    have b2 : W.cell? ⟨w.heap.size, 2, none⟩ = some (.bool false) := World.rowIs.cell h1 (i := 2) (by omega)
    have b3 : W.cell? ⟨w.heap.size, 3, none⟩ = some (.int .u16 id) := World.rowIs.cell h1 (i := 3) (by omega)
    have b4 : W.cell? ⟨w.heap.size, 4, none⟩ = some (.int .u32 nsid) := World.rowIs.cell h1 (i := 4) (by omega)
    have b5 : W.cell? ⟨w.heap.size, 5, none⟩ = some (.int .u32 c2) := World.rowIs.cell h1 (i := 5) (by omega)
    have b7 : W.cell? ⟨w.heap.size, 7, none⟩ = some (.int .u64 mt) := World.rowIs.cell h1 (i := 7) (by omega)
    have b8 : W.cell? ⟨w.heap.size, 8, none⟩ = some (.int .u64 d0) := World.rowIs.cell h1 (i := 8) (by omega)
    have b9 : W.cell? ⟨w.heap.size, 9, none⟩ = some (.int .u64 d1') := World.rowIs.cell h1 (i := 9) (by omega)
    have b6 : W.cell? ⟨w.heap.size, 6, none⟩ = some (.int .u32 c3) := World.rowIs.cell h1 (i := 6) (by omega)
    have H1 := Lib.hid h1
    have H2 := Lib.hid h2
    have HB := Lib.hid h3
    have h5 : w.heap.size < W.heap.size := by omega
    have h6 : w.heap.size + 1 < W.heap.size := by omega
    clear h1 h2 h3 h4 hW
    have ef := or_fword op fused id ⟨a1, a2⟩ ⟨a3, hf⟩ ⟨a5, a6⟩
    go_wp2_with fail
    obtain ⟨W1, hW1⟩ : ∃ W1, W1 = (W.alloc (.cells #[.slice none 0 0] 67)).alloc (.cells #[.int .u32 (fword op fused id false), .int .u32 nsid, .int .u32 c2, .int .u32 c3] 23) := ⟨_, rfl⟩
    rw [← hW1]
    have hk1 : Keeps (fun _ => False) W W1 := by rw [hW1]; exact ((Keeps.refl _ _).alloc _).alloc _
    have hw1 : Wr (fun k => k < W.heap.size ∨ k = W.heap.size + 1) W.heap.size W1 [] := by
      rw [hW1]
      refine ⟨⟨.slice none 0 0, by go_simp, World.ownsRow_nil _ _ _ _, fun k _ e => by cases e⟩, by go_simp, fun e => by rcases e with e | e <;> omega, fun k e => by rcases e with e | e <;> (simp; omega)⟩
    have hc1 : ∀ i, i < 4 → W1.cell? ⟨W.heap.size + 1, 0 + i, none⟩ = some (.int .u32 (h4 (fword op fused id false) nsid c2 c3 i)) := by
      intro i hi
      rw [hW1]
      match i, hi with
      | 0, _ => go_simp; rfl
      | 1, _ => go_simp; rfl
      | 2, _ => go_simp; rfl
      | 3, _ => go_simp; rfl
    clear hW1
    have HK1 := Lib.hid hk1
    clear hk1 b0 b1 b2 b3 b4 b5 b6 ef
    refine (enc1_ok (fun k => k < W.heap.size ∨ k = W.heap.size + 1) W.heap.size (W.heap.size + 1) 0 4 4 (h4 (fword op fused id false) nsid c2 c3) [] W1 hw1 (.inr rfl) hc1 (h4_bd (fword_bd _ _ _ _ ⟨a1, a2⟩ ⟨a3, hf⟩ ⟨a5, a6⟩) HOK.out.nsid HOK.out.c2 HOK.out.c3) (by simp)).mono ?_
    rintro e w2 ⟨rfl, hk2, hw2⟩
    have hkw : Keeps (fun k => ¬ (k < W.heap.size ∨ k = W.heap.size + 1)) W w2 := (HK1.out.mono (fun _ _ e => e.elim)).trans hk2
    have hN0 : ¬ ¬ (w.heap.size < W.heap.size ∨ w.heap.size = W.heap.size + 1) := fun e => e (.inl h5)
    have b7 := hkw.cell b7 hN0
    have b8 := hkw.cell b8 hN0
    have b9 := hkw.cell b9 hN0
    have HW2 := Lib.hid hw2
    have HKW := Lib.hid hkw
    clear hw1 hc1 hk2 hw2 hkw
    have ix0 : ∀ w, (Instr.index 71 (.agg #[.int .u64 mt, .int .u64 d0, .int .u64 d1']) (.int .i64 0)).run Try.prog w = .ok (.int .u64 mt) w := fun _ => by kernel_rfl
    have ix1 : ∀ w, (Instr.index 71 (.agg #[.int .u64 mt, .int .u64 d0, .int .u64 d1']) (.int .i64 1)).run Try.prog w = .ok (.int .u64 d0) w := fun _ => by kernel_rfl
    have ix2 : ∀ w, (Instr.index 71 (.agg #[.int .u64 mt, .int .u64 d0, .int .u64 d1']) (.int .i64 2)).run Try.prog w = .ok (.int .u64 d1') w := fun _ => by kernel_rfl
    go_wp2_with fail
    refine wp_loop_rounds 4 ?_
    rw [rounds_succ]
    go_wp2_with fail
    refine (wAdd_ok _ W.heap.size _ mt 8 w2 HW2.out (by omega) (by omega) HOK.out.mt.1 HOK.out.mt.2 (.inl rfl) (by simp [flatB_length])).mono ?_
    rintro e w3 ⟨rfl, hk3, hw3⟩
    have HW3 := Lib.hid hw3
    have HK3 := Lib.hid (HKW.out.trans hk3)
    clear hk3 hw3 b7 b8 b9
    go_wp2_with fail
    rw [rounds_succ]
    go_wp2_with fail
    refine (wAdd_ok _ W.heap.size _ d0 8 w3 HW3.out (by omega) (by omega) HOK.out.d0.1 HOK.out.d0.2 (.inl rfl) (by simp [flatB_length, bytesL_length])).mono ?_
    rintro e w4 ⟨rfl, hk4, hw4⟩
    have HW4 := Lib.hid hw4
    have HK4 := Lib.hid (HK3.out.trans hk4)
    clear hk4 hw4
    go_wp2_with fail
    rw [rounds_succ]
    go_wp2_with fail
    refine (wAdd_ok _ W.heap.size _ d1' 8 w4 HW4.out (by omega) (by omega) HOK.out.d1.1 HOK.out.d1.2 (.inl rfl) (by simp [flatB_length, bytesL_length])).mono ?_
    rintro e w5 ⟨rfl, hk5, hw5⟩
    have HW5 := Lib.hid hw5
    have HK5 := Lib.hid (HK4.out.trans hk5)
    clear hk5 hw5
    go_wp2_with fail
    rw [rounds_succ]
    go_wp2_with fail
    refine (enc1_ok _ W.heap.size w.heap.size 10 6 6 (w6f x0 x1 x2 x3 x4 x5) _ w5 HW5.out (.inl h5) (fun i hi => by
      refine HK5.out.cell ?_ hN0
      match i, hi with
      | 0, _ => exact World.rowIs.cell H1.out (i := 10) (by omega)
      | 1, _ => exact World.rowIs.cell H1.out (i := 11) (by omega)
      | 2, _ => exact World.rowIs.cell H1.out (i := 12) (by omega)
      | 3, _ => exact World.rowIs.cell H1.out (i := 13) (by omega)
      | 4, _ => exact World.rowIs.cell H1.out (i := 14) (by omega)
      | 5, _ => exact World.rowIs.cell H1.out (i := 15) (by omega)) (w6f_bd HOK.out.w0 HOK.out.w1 HOK.out.w2 HOK.out.w3 HOK.out.w4 HOK.out.w5) (by simp [flatB_length, bytesL_length])).mono ?_
    rintro e w6 ⟨rfl, hk6, hw6⟩
    obtain ⟨L, hL⟩ : ∃ L, L = [] ++ flatB 4 (h4 (fword op fused id false) nsid c2 c3) 4 ++ bytesL mt 8 ++ bytesL d0 8 ++ bytesL d1' 8 ++ flatB 4 (w6f x0 x1 x2 x3 x4 x5) 6 := ⟨_, rfl⟩
    rw [← hL] at hw6
    have hLl : L.length = 64 := by rw [hL]; simp [flatB_length, bytesL_length]
    have hL1 : ∀ u ∈ L, u.oneCell' = true := by
      rw [hL]
      intro u hu
      simp only [List.mem_append, List.not_mem_nil, false_or] at hu
      rcases hu with (((h | h) | h) | h) | h
      · exact flatB_one _ _ _ u h
      · exact bytesL_one _ _ u h
      · exact bytesL_one _ _ u h
      · exact bytesL_one _ _ u h
      · exact flatB_one _ _ _ u h
    have HW6 := Lib.hid hw6
    have HK6 := Lib.hid (HK5.out.trans hk6)
    have HL := Lib.hid hL
    have HLl := Lib.hid hLl
    have HL1 := Lib.hid hL1
    have HO6 := Lib.hid ((HK6.out.rowIs H2.out (fun e => e (.inl h6))))
    have hlt6 := HO6.out.lt
    clear hk6 hw6 hL hLl hL1
    go_wp2_with fail
    have hrow7 := HO6.out
    obtain ⟨cu, hcu1, hcu2, hcu3⟩ := hrow7
    have HCU := Lib.hid hcu1
    have hsz1 : (Try.prog.info? 5).map (·.size) = some 1 := by kernel_rfl
    clear hcu1 hcu3
    go_region_law (first
      | (rw [if_pos (by rfl)]; go_simp; refine (wBytes_ok _ W.heap.size L _ (HW6.out.kept (S := fun _ => False) ((Keeps.refl _ w6).drew) (fun e => e) (fun _ _ e => e)) (by rw [HLl.out]; omega) HL1.out (by rw [HLl.out]; omega)).mono ?_; rintro e w7 ⟨v7, rfl, ⟨g7, cap7, F7, rfl, hg7, hr7, hc7, hc7', hx7⟩, hb7⟩; have HR7 := Lib.hid hr7; have HX7 := Lib.hid hx7; have HB7 := Lib.hid hb7; have HSRC : Hid (∀ (j : Nat) u, L[j]? = some u → w7.cell? ((⟨g7, 0, none⟩ : Addr).add j) = some u) := Lib.hid (fun j u hu => by have hj : j < 64 := (by rw [← HLl.out]; exact (List.getElem?_eq_some_iff.1 hu).1); have hxj := HX7.out j (by rw [HLl.out]; exact hj); rw [hu] at hxj; cases hxj; rw [Addr.add_mid, Nat.zero_add]; exact HR7.out.cell (by have := HLl.out; omega)); clear hr7 hx7 hb7; rw [HLl.out])
      | (go_loud (refine step_copy_splice rfl (.tmp 60) (.tmp 61) 65 65 rfl 5 Try.underlying65 hsz1 _ _ _ _ _ _ rfl rfl (w.heap.size + 1) 0 cu.toList 29 ((HB7.out.block _ hlt6).trans (by rw [Array.toArray_toList]; exact HCU.out)) L (by rw [HLl.out]; rfl) (fun _ => ⟨rfl, _, rfl, HSRC.out⟩) (by rw [HLl.out, Array.length_toList]; omega) HL1.out (w.heap.size + 1) _ (Below.refl _ _) (Nat.le_refl _) ?_); intro w8 HG8 hb8))
    have hl8 := hb8.size
    have hl7 := HB7.out.size
    have hr8 : w8.rowIs (w.heap.size + 1) 29 64 (fun j => L.getD j undef) := by
      refine ⟨_, HG8.out, ?_, fun i hi => ?_⟩
      · have := HLl.out
        rw [List.size_toArray, length_splice cu.toList 0 L (by have h1 : cu.toList.length = 64 := hcu2; omega)]; exact hcu2
      · have e : splice cu.toList 0 L = L := by
          unfold splice
          rw [List.take_zero, List.nil_append, List.drop_of_length_le (by have := HLl.out; have h1 : cu.toList.length = 64 := hcu2; omega), List.append_nil]
        rw [e]
        have hi' : i < L.length := by rw [HLl.out]; exact hi
        simp [hi']
    have hone : (arr 64 fun j => L.getD j undef).all (·.oneCell') = true := arr_one fun i hi => by
      have hi' : i < L.length := by rw [HLl.out]; exact hi
      have := HL1.out L[i] (List.getElem_mem hi')
      simpa [hi'] using this
    have HONE := Lib.hid hone
    have H8 := Lib.hid hr8
    have HRA := Lib.hid (rowIs_range0 hr8)
    have HTH := Lib.hid (rowIs_there hr8 0 64 (by omega))
    have HB8 : Hid (Below w.heap.size w w8) := by
      refine Lib.hid ?_
      have k6 : Below w.heap.size w w6 := HB.out.trans (HK6.out.below HB.out.size (fun k hk e => e (.inl (by omega))))
      have k7 : Below w.heap.size w w7 := (Below.trans (b := w6.drew) k6.drew (HB7.out.mono k6.size))
      exact k7.trans (hb8.mono (by omega))
    clear hr8 hone HG8 HB7 HR7 HX7 HSRC
    go_wp2_with (first | ((with_reducible show wpList _ _ _ (⟨some 63, _, _, _, _, _⟩ :: _) _ _); refine wpList_load_mid rfl 29 (.tmp 2) rfl (w.heap.size + 1) 0 rfl (arr 64 fun j => L.getD j undef).toList _ HRA.out Try.underlying29 rfl (by rw [size64]; simp [arr]) ?_) |
      ((with_reducible show wpList _ _ _ (⟨none, _, _, _, _, _⟩ :: _) _ _); refine wpList_store_mid rfl 29 (.tmp 2) (.tmp 63) rfl (w.heap.size + 1) 0 (arr 64 fun j => L.getD j undef) rfl (by simp [Act.eval, Act.put]) (by rw [arr_size]; exact HTH.out) (by rw [size64, arr_size]) HONE.out ?_))
    refine bodyPost_ret (results64 rfl _ _ _ _ (fun j => L.getD j undef) _ (rowIs_store H8.out) rfl rfl) rfl ⟨?_, ?_⟩
    · rw [HL.out]; rfl
    · exact HB8.out.trans ((Keeps.setCells _ (Keeps.refl (One (w.heap.size + 1)) w8) 0).below (B := w.heap.size) HB8.out.size (fun k hk e => by have e : k = w.heap.size + 1 := e; omega))
  · go_enter Try.func10, Try.ntmps10
    go_upto_region 1 with ((with_reducible show wpList _ _ _ (⟨some 2, _, _, _, _, _⟩ :: _) _ _); refine wpList_alloc rfl 29 rfl zero64 ?_; rw [show (Value.agg (arr 64 z8)).cells = arr 64 z8 from rfl])
    obtain ⟨W, hW⟩ : ∃ W, W = (w.alloc (.cells #[.int .u8 op, .int .u8 fused, .bool true, .int .u16 id, .int .u32 nsid, .int .u32 c2, .int .u32 c3, .int .u64 mt, .int .u64 d0, .int .u64 d1', .int .u32 x0, .int .u32 x1, .int .u32 x2, .int .u32 x3, .int .u32 x4, .int .u32 x5] 28)).alloc (.cells (arr 64 z8) 29) := ⟨_, rfl⟩
    rw [← hW]
    obtain ⟨h1, h2, h3, h4⟩ := HS.out _ hW
    have b0 : W.cell? ⟨w.heap.size, 0, none⟩ = some (.int .u8 op) := World.rowIs.cell h1 (i := 0) (by omega)
    have b1 : W.cell? ⟨w.heap.size, 1, none⟩ = some (.int .u8 fused) := World.rowIs.cell h1 (i := 1) (by omega)
    have b2 : W.cell? ⟨w.heap.size, 2, none⟩ = some (.bool true) := World.rowIs.cell h1 (i := 2) (by omega)
    have b3 : W.cell? ⟨w.heap.size, 3, none⟩ = some (.int .u16 id) := World.rowIs.cell h1 (i := 3) (by omega)
    have b4 : W.cell? ⟨w.heap.size, 4, none⟩ = some (.int .u32 nsid) := World.rowIs.cell h1 (i := 4) (by omega)
    have b5 : W.cell? ⟨w.heap.size, 5, none⟩ = some (.int .u32 c2) := World.rowIs.cell h1 (i := 5) (by omega)
    have b7 : W.cell? ⟨w.heap.size, 7, none⟩ = some (.int .u64 mt) := World.rowIs.cell h1 (i := 7) (by omega)
    have b8 : W.cell? ⟨w.heap.size, 8, none⟩ = some (.int .u64 d0) := World.rowIs.cell h1 (i := 8) (by omega)
    have b9 : W.cell? ⟨w.heap.size, 9, none⟩ = some (.int .u64 d1') := World.rowIs.cell h1 (i := 9) (by omega)
    have b6 : W.cell? ⟨w.heap.size, 6, none⟩ = some (.int .u32 c3) := World.rowIs.cell h1 (i := 6) (by omega)
    have H1 := Lib.hid h1
    have H2 := Lib.hid h2
    have HB := Lib.hid h3
    have h5 : w.heap.size < W.heap.size := by omega
    have h6 : w.heap.size + 1 < W.heap.size := by omega
    clear h1 h2 h3 h4 hW
    have ef := or_fword op fused id ⟨a1, a2⟩ ⟨a3, hf⟩ ⟨a5, a6⟩
    have eg := or_fword2 op fused id ⟨a1, a2⟩ ⟨a3, hf⟩ ⟨a5, a6⟩
    go_wp2_with fail
    obtain ⟨W1, hW1⟩ : ∃ W1, W1 = (W.alloc (.cells #[.slice none 0 0] 67)).alloc (.cells #[.int .u32 (fword op fused id true), .int .u32 nsid, .int .u32 c2, .int .u32 c3] 23) := ⟨_, rfl⟩
    rw [← hW1]
    have hk1 : Keeps (fun _ => False) W W1 := by rw [hW1]; exact ((Keeps.refl _ _).alloc _).alloc _
    have hw1 : Wr (fun k => k < W.heap.size ∨ k = W.heap.size + 1) W.heap.size W1 [] := by
      rw [hW1]
      refine ⟨⟨.slice none 0 0, by go_simp, World.ownsRow_nil _ _ _ _, fun k _ e => by cases e⟩, by go_simp, fun e => by rcases e with e | e <;> omega, fun k e => by rcases e with e | e <;> (simp; omega)⟩
    have hc1 : ∀ i, i < 4 → W1.cell? ⟨W.heap.size + 1, 0 + i, none⟩ = some (.int .u32 (h4 (fword op fused id true) nsid c2 c3 i)) := by
      intro i hi
      rw [hW1]
      match i, hi with
      | 0, _ => go_simp; rfl
      | 1, _ => go_simp; rfl
      | 2, _ => go_simp; rfl
      | 3, _ => go_simp; rfl
    clear hW1
    have HK1 := Lib.hid hk1
    clear hk1 b0 b1 b2 b3 b4 b5 b6 ef eg
    refine (enc1_ok (fun k => k < W.heap.size ∨ k = W.heap.size + 1) W.heap.size (W.heap.size + 1) 0 4 4 (h4 (fword op fused id true) nsid c2 c3) [] W1 hw1 (.inr rfl) hc1 (h4_bd (fword_bd _ _ _ _ ⟨a1, a2⟩ ⟨a3, hf⟩ ⟨a5, a6⟩) HOK.out.nsid HOK.out.c2 HOK.out.c3) (by simp)).mono ?_
    rintro e w2 ⟨rfl, hk2, hw2⟩
    have hkw : Keeps (fun k => ¬ (k < W.heap.size ∨ k = W.heap.size + 1)) W w2 := (HK1.out.mono (fun _ _ e => e.elim)).trans hk2
    have hN0 : ¬ ¬ (w.heap.size < W.heap.size ∨ w.heap.size = W.heap.size + 1) := fun e => e (.inl h5)
    have b7 := hkw.cell b7 hN0
    have b8 := hkw.cell b8 hN0
    have b9 := hkw.cell b9 hN0
    have HW2 := Lib.hid hw2
    have HKW := Lib.hid hkw
    clear hw1 hc1 hk2 hw2 hkw
    have ix0 : ∀ w, (Instr.index 71 (.agg #[.int .u64 mt, .int .u64 d0, .int .u64 d1']) (.int .i64 0)).run Try.prog w = .ok (.int .u64 mt) w := fun _ => by kernel_rfl
    have ix1 : ∀ w, (Instr.index 71 (.agg #[.int .u64 mt, .int .u64 d0, .int .u64 d1']) (.int .i64 1)).run Try.prog w = .ok (.int .u64 d0) w := fun _ => by kernel_rfl
    have ix2 : ∀ w, (Instr.index 71 (.agg #[.int .u64 mt, .int .u64 d0, .int .u64 d1']) (.int .i64 2)).run Try.prog w = .ok (.int .u64 d1') w := fun _ => by kernel_rfl
    go_wp2_with fail
    refine wp_loop_rounds 4 ?_
    rw [rounds_succ]
    go_wp2_with fail
    refine (wAdd_ok _ W.heap.size _ mt 8 w2 HW2.out (by omega) (by omega) HOK.out.mt.1 HOK.out.mt.2 (.inl rfl) (by simp [flatB_length])).mono ?_
    rintro e w3 ⟨rfl, hk3, hw3⟩
    have HW3 := Lib.hid hw3
    have HK3 := Lib.hid (HKW.out.trans hk3)
    clear hk3 hw3 b7 b8 b9
    go_wp2_with fail
    rw [rounds_succ]
    go_wp2_with fail
    refine (wAdd_ok _ W.heap.size _ d0 8 w3 HW3.out (by omega) (by omega) HOK.out.d0.1 HOK.out.d0.2 (.inl rfl) (by simp [flatB_length, bytesL_length])).mono ?_
    rintro e w4 ⟨rfl, hk4, hw4⟩
    have HW4 := Lib.hid hw4
    have HK4 := Lib.hid (HK3.out.trans hk4)
    clear hk4 hw4
    go_wp2_with fail
    rw [rounds_succ]
    go_wp2_with fail
    refine (wAdd_ok _ W.heap.size _ d1' 8 w4 HW4.out (by omega) (by omega) HOK.out.d1.1 HOK.out.d1.2 (.inl rfl) (by simp [flatB_length, bytesL_length])).mono ?_
    rintro e w5 ⟨rfl, hk5, hw5⟩
    have HW5 := Lib.hid hw5
    have HK5 := Lib.hid (HK4.out.trans hk5)
    clear hk5 hw5
    go_wp2_with fail
    rw [rounds_succ]
    go_wp2_with fail
    refine (enc1_ok _ W.heap.size w.heap.size 10 6 6 (w6f x0 x1 x2 x3 x4 x5) _ w5 HW5.out (.inl h5) (fun i hi => by
      refine HK5.out.cell ?_ hN0
      match i, hi with
      | 0, _ => exact World.rowIs.cell H1.out (i := 10) (by omega)
      | 1, _ => exact World.rowIs.cell H1.out (i := 11) (by omega)
      | 2, _ => exact World.rowIs.cell H1.out (i := 12) (by omega)
      | 3, _ => exact World.rowIs.cell H1.out (i := 13) (by omega)
      | 4, _ => exact World.rowIs.cell H1.out (i := 14) (by omega)
      | 5, _ => exact World.rowIs.cell H1.out (i := 15) (by omega)) (w6f_bd HOK.out.w0 HOK.out.w1 HOK.out.w2 HOK.out.w3 HOK.out.w4 HOK.out.w5) (by simp [flatB_length, bytesL_length])).mono ?_
    rintro e w6 ⟨rfl, hk6, hw6⟩
    obtain ⟨L, hL⟩ : ∃ L, L = [] ++ flatB 4 (h4 (fword op fused id true) nsid c2 c3) 4 ++ bytesL mt 8 ++ bytesL d0 8 ++ bytesL d1' 8 ++ flatB 4 (w6f x0 x1 x2 x3 x4 x5) 6 := ⟨_, rfl⟩
    rw [← hL] at hw6
    have hLl : L.length = 64 := by rw [hL]; simp [flatB_length, bytesL_length]
    have hL1 : ∀ u ∈ L, u.oneCell' = true := by
      rw [hL]
      intro u hu
      simp only [List.mem_append, List.not_mem_nil, false_or] at hu
      rcases hu with (((h | h) | h) | h) | h
      · exact flatB_one _ _ _ u h
      · exact bytesL_one _ _ u h
      · exact bytesL_one _ _ u h
      · exact bytesL_one _ _ u h
      · exact flatB_one _ _ _ u h
    have HW6 := Lib.hid hw6
    have HK6 := Lib.hid (HK5.out.trans hk6)
    have HL := Lib.hid hL
    have HLl := Lib.hid hLl
    have HL1 := Lib.hid hL1
    have HO6 := Lib.hid ((HK6.out.rowIs H2.out (fun e => e (.inl h6))))
    have hlt6 := HO6.out.lt
    clear hk6 hw6 hL hLl hL1
    go_wp2_with fail
    have hrow7 := HO6.out
    obtain ⟨cu, hcu1, hcu2, hcu3⟩ := hrow7
    have HCU := Lib.hid hcu1
    have hsz1 : (Try.prog.info? 5).map (·.size) = some 1 := by kernel_rfl
    clear hcu1 hcu3
    go_region_law (first
      | (rw [if_pos (by rfl)]; go_simp; refine (wBytes_ok _ W.heap.size L _ (HW6.out.kept (S := fun _ => False) ((Keeps.refl _ w6).drew) (fun e => e) (fun _ _ e => e)) (by rw [HLl.out]; omega) HL1.out (by rw [HLl.out]; omega)).mono ?_; rintro e w7 ⟨v7, rfl, ⟨g7, cap7, F7, rfl, hg7, hr7, hc7, hc7', hx7⟩, hb7⟩; have HR7 := Lib.hid hr7; have HX7 := Lib.hid hx7; have HB7 := Lib.hid hb7; have HSRC : Hid (∀ (j : Nat) u, L[j]? = some u → w7.cell? ((⟨g7, 0, none⟩ : Addr).add j) = some u) := Lib.hid (fun j u hu => by have hj : j < 64 := (by rw [← HLl.out]; exact (List.getElem?_eq_some_iff.1 hu).1); have hxj := HX7.out j (by rw [HLl.out]; exact hj); rw [hu] at hxj; cases hxj; rw [Addr.add_mid, Nat.zero_add]; exact HR7.out.cell (by have := HLl.out; omega)); clear hr7 hx7 hb7; rw [HLl.out])
      | (go_loud (refine step_copy_splice rfl (.tmp 60) (.tmp 61) 65 65 rfl 5 Try.underlying65 hsz1 _ _ _ _ _ _ rfl rfl (w.heap.size + 1) 0 cu.toList 29 ((HB7.out.block _ hlt6).trans (by rw [Array.toArray_toList]; exact HCU.out)) L (by rw [HLl.out]; rfl) (fun _ => ⟨rfl, _, rfl, HSRC.out⟩) (by rw [HLl.out, Array.length_toList]; omega) HL1.out (w.heap.size + 1) _ (Below.refl _ _) (Nat.le_refl _) ?_); intro w8 HG8 hb8))
    have hl8 := hb8.size
    have hl7 := HB7.out.size
    have hr8 : w8.rowIs (w.heap.size + 1) 29 64 (fun j => L.getD j undef) := by
      refine ⟨_, HG8.out, ?_, fun i hi => ?_⟩
      · have := HLl.out
        rw [List.size_toArray, length_splice cu.toList 0 L (by have h1 : cu.toList.length = 64 := hcu2; omega)]; exact hcu2
      · have e : splice cu.toList 0 L = L := by
          unfold splice
          rw [List.take_zero, List.nil_append, List.drop_of_length_le (by have := HLl.out; have h1 : cu.toList.length = 64 := hcu2; omega), List.append_nil]
        rw [e]
        have hi' : i < L.length := by rw [HLl.out]; exact hi
        simp [hi']
    have hone : (arr 64 fun j => L.getD j undef).all (·.oneCell') = true := arr_one fun i hi => by
      have hi' : i < L.length := by rw [HLl.out]; exact hi
      have := HL1.out L[i] (List.getElem_mem hi')
      simpa [hi'] using this
    have HONE := Lib.hid hone
    have H8 := Lib.hid hr8
    have HRA := Lib.hid (rowIs_range0 hr8)
    have HTH := Lib.hid (rowIs_there hr8 0 64 (by omega))
    have HB8 : Hid (Below w.heap.size w w8) := by
      refine Lib.hid ?_
      have k6 : Below w.heap.size w w6 := HB.out.trans (HK6.out.below HB.out.size (fun k hk e => e (.inl (by omega))))
      have k7 : Below w.heap.size w w7 := (Below.trans (b := w6.drew) k6.drew (HB7.out.mono k6.size))
      exact k7.trans (hb8.mono (by omega))
    clear hr8 hone HG8 HB7 HR7 HX7 HSRC
    go_wp2_with (first | ((with_reducible show wpList _ _ _ (⟨some 63, _, _, _, _, _⟩ :: _) _ _); refine wpList_load_mid rfl 29 (.tmp 2) rfl (w.heap.size + 1) 0 rfl (arr 64 fun j => L.getD j undef).toList _ HRA.out Try.underlying29 rfl (by rw [size64]; simp [arr]) ?_) |
      ((with_reducible show wpList _ _ _ (⟨none, _, _, _, _, _⟩ :: _) _ _); refine wpList_store_mid rfl 29 (.tmp 2) (.tmp 63) rfl (w.heap.size + 1) 0 (arr 64 fun j => L.getD j undef) rfl (by simp [Act.eval, Act.put]) (by rw [arr_size]; exact HTH.out) (by rw [size64, arr_size]) HONE.out ?_))
    refine bodyPost_ret (results64 rfl _ _ _ _ (fun j => L.getD j undef) _ (rowIs_store H8.out) rfl rfl) rfl ⟨?_, ?_⟩
    · rw [HL.out]; rfl
    · exact HB8.out.trans ((Keeps.setCells _ (Keeps.refl (One (w.heap.size + 1)) w8) 0).below (B := w.heap.size) HB8.out.size (fun k hk e => by have e : k = w.heap.size + 1 := e; omega))
end Go.Proofs.Ytggdjadhenamiaa
