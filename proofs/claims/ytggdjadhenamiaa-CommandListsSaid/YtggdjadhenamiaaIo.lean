/- command: PutIO and GetIO; the reference's. -/
import Derived.Test.YtggdjadhenamiaaCmdR
import Derived.Test.YtggdjadhenamiaaDec
import Derived.StillTailTactics
import Derived.RegionTactic
import Derived.BigRegion
namespace Go.Proofs.Ytggdjadhenamiaa
set_option linter.unusedVariables false
set_option linter.unusedSimpArgs false
open Go.RowKit

/-- Parameters. -/
structure Io where
  lba : Int
  bl : Int
  li : Bool
  un : Bool
  ck : Int
  rf : Int
  app : Int
  mask : Int
def Io.cells (x : Io) : Array Value := #[.int .u64 x.lba, .int .i64 x.bl, .bool x.li, .bool x.un, .int .u8 x.ck, .int .u32 x.rf, .int .u16 x.app, .int .u16 x.mask]
structure Io.Ok (x : Io) : Prop where
  lba : 0 ≤ x.lba ∧ x.lba ≤ 18446744073709551615
  bl : -9223372036854775808 ≤ x.bl ∧ x.bl ≤ 9223372036854775807
  ck : 0 ≤ x.ck ∧ x.ck ≤ 255
  rf : 0 ≤ x.rf ∧ x.rf ≤ 4294967295
  app : 0 ≤ x.app ∧ x.app ≤ 65535
  mask : 0 ≤ x.mask ∧ x.mask ≤ 65535
/-- the third dword -/
def ioW2 (w2 : Int) (x : Io) : Int := w2 / 65536 % 1024 * 65536 + (x.bl - 1) + x.ck * 67108864 + bv x.un 1073741824 + bv x.li 2147483648
def putIo (c : Cmd) (x : Io) : Cmd := { c with w0 := x.lba % 4294967296, w1 := x.lba / 4294967296, w2 := ioW2 c.w2 x, w4 := x.rf, w5 := x.app + x.mask * 65536 }
def Io.good (x : Io) : Prop := 1 ≤ x.bl ∧ x.bl ≤ 65536 ∧ x.ck ≤ 15
def getIo (c : Cmd) : Io := { lba := c.w0 + c.w1 * 4294967296, bl := c.w2 % 65536 + 1, li := c.w2 / 2147483648 == 1, un := c.w2 / 1073741824 % 2 == 1, ck := c.w2 / 67108864 % 16, rf := c.w4, app := c.w5 % 65536, mask := c.w5 / 65536 }

theorem u32_or_comm (a b : Int) (h1 : 0 ≤ a ∧ a ≤ 4294967295) (h2 : 0 ≤ b ∧ b ≤ 4294967295) : bits .or .u32 a b = bits .or .u32 b a := by
  rw [u32_or a b h1.1 (by omega) h2.1 (by omega), u32_or b a h2.1 (by omega) h1.1 (by omega), Nat.or_comm]
theorem u64_or_comm (a b : Int) (h1 : 0 ≤ a ∧ a ≤ 18446744073709551615) (h2 : 0 ≤ b ∧ b ≤ 18446744073709551615) : bits .or .u64 a b = bits .or .u64 b a := by
  rw [u64_or a b h1.1 (by omega) h2.1 (by omega), u64_or b a h2.1 (by omega) h1.1 (by omega), Nat.or_comm]
theorem u32_mask (x : Int) (h : 0 ≤ x ∧ x ≤ 4294967295) : bits .andNot .u32 x 4227923967 = x / 65536 % 1024 * 65536 := by
  obtain ⟨n, rfl⟩ := Int.eq_ofNat_of_zero_le h.1
  rw [u32_andNot _ _ (by omega) (by omega) (by omega) (by omega)]
  have e : (4294967295 - (4227923967 : Int).toNat : Nat) = 67043328 := rfl
  rw [e, Int.toNat_natCast]
  have h1 : (n &&& 67043328) / 2 ^ 16 = (n / 2 ^ 16) &&& (67043328 / 2 ^ 16) := Nat.and_div_two_pow
  have h2 : (n &&& 67043328) % 2 ^ 16 = (n % 2 ^ 16) &&& (67043328 % 2 ^ 16) := Nat.and_mod_two_pow
  rw [show 67043328 / 2 ^ 16 = 2 ^ 10 - 1 from rfl, Nat.and_two_pow_sub_one_eq_mod] at h1
  rw [show 67043328 % 2 ^ 16 = 0 from rfl, Nat.and_zero] at h2
  generalize n &&& 67043328 = y at *
  omega
theorem u32_and_low (x : Int) (k : Nat) (h : 0 ≤ x ∧ x ≤ 4294967295) (hk : k ≤ 16) : bits .and .u32 x (((2 ^ k - 1 : Nat) : Nat) : Int) = x % 2 ^ k := by
  obtain ⟨n, rfl⟩ := Int.eq_ofNat_of_zero_le h.1
  have hp : (2 ^ k - 1 : Nat) < 4294967296 := by
    have : 2 ^ k ≤ 2 ^ 16 := Nat.pow_le_pow_right (by omega) hk
    omega
  rw [u32_and _ _ (by omega) (by omega) (by omega) (by omega)]
  simp only [Int.toNat_natCast]
  rw [Nat.and_two_pow_sub_one_eq_mod]
  push_cast
  rfl
set_option maxHeartbeats 1000000 in
theorem cbit30 (b : Bool) (w : World) : Calls Try.prog 34 #[.bool b, .int .i64 30] w fun e w' => e = .returned (.int .u32 (bv b 1073741824)) ∧ w' = w := by
  go_enter Try.func34, Try.ntmps34
  cases b <;> (go_wp2; go_ret; exact ⟨rfl, rfl⟩)
set_option maxHeartbeats 1000000 in
theorem cbit31 (b : Bool) (w : World) : Calls Try.prog 34 #[.bool b, .int .i64 31] w fun e w' => e = .returned (.int .u32 (bv b 2147483648)) ∧ w' = w := by
  go_enter Try.func34, Try.ntmps34
  cases b <;> (go_wp2; go_ret; exact ⟨rfl, rfl⟩)

set_option maxRecDepth 100000 in
set_option maxHeartbeats 4000000 in
theorem getio_any (c : Cmd) (h : c.Ok) (w : World) : Calls Try.prog 25 #[c.v] w fun e w' => e = .returned (.agg (getIo c).cells) ∧ Below w.heap.size w w' := by
  have z : ∀ w, (zeroValue 43).run Try.prog w = .ok (.agg #[.int .u64 0, .int .i64 0, .bool false, .bool false, .int .u8 0, .int .u32 0, .int .u16 0, .int .u16 0]) w := fun _ => by kernel_rfl
  have b0 := h.w0
  have b1 := h.w1
  have b2 := h.w2
  have b5 := h.w5
  have e1 : bits .or .u64 (c.w1 * 4294967296) c.w0 = c.w0 + c.w1 * 4294967296 := by
    rw [u64_or_comm _ _ (by omega) (by omega)]
    have := u64_or_shift c.w0 c.w1 32 b0.1 (by omega) b1.1 (by omega) (by omega)
    exact this
  have e2 : bits .and .u32 c.w2 65535 = c.w2 % 65536 := u32_and_low c.w2 16 b2 (by omega)
  have e3 : bits .and .u32 (c.w2 / 1073741824) 1 = c.w2 / 1073741824 % 2 := u32_and_low _ 1 (by omega) (by omega)
  have e4 : bits .and .u32 (c.w2 / 67108864) 15 = c.w2 / 67108864 % 16 := u32_and_low _ 4 (by omega) (by omega)
  have e5 : IntKind.u16.wrap c.w5 = c.w5 % 65536 := rfl
  have e6 : IntKind.i64.wrap (c.w2 % 65536) = c.w2 % 65536 := IntWalk.i64_in _ (by omega)
  have e7 : IntKind.i64.wrap (c.w2 % 65536 + 1) = c.w2 % 65536 + 1 := IntWalk.i64_in _ (by omega)
  have e8 : c.w2 / 67108864 % 16 % 256 = c.w2 / 67108864 % 16 := by omega
  unfold Cmd.v Cmd.cells
  go_enter Try.func25, Try.ntmps25
  go_wp2_with fail
  exact bodyPost_ret (v := .agg (getIo c).cells) (by simp [results, Try.results25, go_sem, Io.cells, getIo]) rfl ⟨rfl, ((Below.refl _ _).alloc (Nat.le_refl _) _).alloc (by simp) _⟩
set_option maxRecDepth 100000 in
set_option maxHeartbeats 8000000 in
theorem rgetio_any (c : Cmd) (h : c.Ok) (w : World) : Calls Try.prog 26 #[c.v] w fun e w' => e = .returned (.agg (getIo c).cells) ∧ Below w.heap.size w w' := by
  have z : ∀ w, (zeroValue 43).run Try.prog w = .ok (.agg #[.int .u64 0, .int .i64 0, .bool false, .bool false, .int .u8 0, .int .u32 0, .int .u16 0, .int .u16 0]) w := fun _ => by kernel_rfl
  have b0 := h.w0
  have b1 := h.w1
  have b2 := h.w2
  have b5 := h.w5
  have e6 : IntKind.i64.wrap (c.w2 % 65536) = c.w2 % 65536 := IntWalk.i64_in _ (by omega)
  have e7 : IntKind.i64.wrap (c.w2 % 65536 + 1) = c.w2 % 65536 + 1 := IntWalk.i64_in _ (by omega)
  have e8 : c.w2 / 67108864 % 16 % 256 = c.w2 / 67108864 % 16 := by omega
  unfold Cmd.v Cmd.cells
  go_enter Try.func26, Try.ntmps26
  go_upto_region 9 with fail
  go_region_with fail
  all_goals
    go_wp2_with fail
    exact bodyPost_ret (v := .agg (getIo c).cells) (by simp [results, Try.results26, go_sem, Io.cells, getIo]) rfl ⟨rfl, ((((Below.refl _ _).alloc (Nat.le_refl _) _).alloc (by simp) _).alloc (by simp; omega) _).drew⟩

def zCmdC : Array Value := #[.int .u8 0, .int .u8 0, .bool false, .int .u16 0, .int .u32 0, .int .u32 0, .int .u32 0, .int .u64 0, .int .u64 0, .int .u64 0, .int .u32 0, .int .u32 0, .int .u32 0, .int .u32 0, .int .u32 0, .int .u32 0]
theorem zeroCmd (w : World) : (zeroValue 28).run Try.prog w = .ok (.agg zCmdC) w := by kernel_rfl
theorem buildCmd (w : World) : (Instr.build 28 #[]).run Try.prog w = .ok (.agg zCmdC) w := by kernel_rfl
set_option maxRecDepth 100000 in
set_option maxHeartbeats 8000000 in
theorem putio_err (c : Cmd) (x : Io) (hc : c.Ok) (hx : x.Ok) (hg : ¬ x.good) (w : World) : Calls Try.prog 15 #[c.v, .agg x.cells] w fun e w' => e = .returned (.tuple #[.agg zCmdC, .int .i64 2]) ∧ Below w.heap.size w w' := by
  have z := zeroCmd
  have bz := buildCmd
  have b1 := hx.bl
  have b2 := hx.ck
  have h3 : x.bl < 1 ∨ (1 ≤ x.bl ∧ 65536 < x.bl) ∨ (1 ≤ x.bl ∧ x.bl ≤ 65536 ∧ 15 < x.ck) := by unfold Io.good at hg; omega
  clear hg
  unfold zCmdC at *
  unfold Cmd.v Cmd.cells Io.cells
  go_enter Try.func15, Try.ntmps15
  rcases h3 with h3 | ⟨h3, h4⟩ | ⟨h3, h4, h5⟩ <;>
    (go_wp2_with fail
     exact bodyPost_ret (v := .tuple #[.agg zCmdC, .int .i64 2]) (by simp [results, Try.results15, go_sem, zCmdC]) rfl ⟨rfl, (((Below.refl _ _).alloc (Nat.le_refl _) _).alloc (by simp) _).alloc (by simp; omega) _⟩)
set_option maxRecDepth 100000 in
set_option maxHeartbeats 8000000 in
theorem rputio_err (c : Cmd) (x : Io) (hc : c.Ok) (hx : x.Ok) (hg : ¬ x.good) (w : World) : Calls Try.prog 16 #[c.v, .agg x.cells] w fun e w' => e = .returned (.tuple #[.agg zCmdC, .int .i64 2]) ∧ Below w.heap.size w w' := by
  have z := zeroCmd
  have bz := buildCmd
  have b1 := hx.bl
  have b2 := hx.ck
  have h3 : x.bl < 1 ∨ (1 ≤ x.bl ∧ 65536 < x.bl) ∨ (1 ≤ x.bl ∧ x.bl ≤ 65536 ∧ 16 ≤ x.ck) := by unfold Io.good at hg; omega
  clear hg
  unfold zCmdC at *
  unfold Cmd.v Cmd.cells Io.cells
  go_enter Try.func16, Try.ntmps16
  rcases h3 with h3 | ⟨h3, h4⟩ | ⟨h3, h4, h5⟩ <;>
    (go_wp2_with fail
     exact bodyPost_ret (v := .tuple #[.agg zCmdC, .int .i64 2]) (by simp [results, Try.results16, go_sem, zCmdC]) rfl ⟨rfl, (((Below.refl _ _).alloc (Nat.le_refl _) _).alloc (by simp) _).alloc (by simp; omega) _⟩)
end Go.Proofs.Ytggdjadhenamiaa
