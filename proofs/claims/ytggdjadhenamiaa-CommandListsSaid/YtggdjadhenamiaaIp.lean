/- command: PutIO. -/
import Derived.Test.YtggdjadhenamiaaIo
namespace Go.Proofs.Ytggdjadhenamiaa
set_option linter.unusedVariables false
set_option linter.unusedSimpArgs false
open Go.RowKit

theorem ioW2_parts (w2 : Int) (x : Io) (h2 : 0 ≤ w2 ∧ w2 ≤ 4294967295) (hx : x.good) (hck : 0 ≤ x.ck) : ∃ A B C D : Int, bits .andNot .u32 w2 4227923967 = A ∧ bits .or .u32 A (x.bl - 1) = B ∧ bits .or .u32 B (x.ck * 67108864) = C ∧
    bits .or .u32 C (bv x.un 1073741824) = D ∧ bits .or .u32 D (bv x.li 2147483648) = ioW2 w2 x ∧ (0 ≤ ioW2 w2 x ∧ ioW2 w2 x ≤ 4294967295) := by
  unfold Io.good at hx
  have e1 := u32_mask w2 h2
  have e2 : bits .or .u32 (w2 / 65536 % 1024 * 65536) (x.bl - 1) = (x.bl - 1) + w2 / 65536 % 1024 * 65536 := by
    rw [u32_or_comm _ _ (by omega) (by omega)]
    exact u32_or_shift (x.bl - 1) (w2 / 65536 % 1024) 16 (by omega) (by omega) (by omega) (by omega) (by omega)
  have e3 := u32_or_shift ((x.bl - 1) + w2 / 65536 % 1024 * 65536) x.ck 26 (by omega) (by omega) hck (by omega) (by omega)
  have p26 : (2 : Int) ^ 26 = 67108864 := rfl
  rw [p26] at e3
  have hu : bv x.un 1073741824 = (bv x.un 1) * 2 ^ 30 := by cases x.un <;> rfl
  have hl : bv x.li 2147483648 = (bv x.li 1) * 2 ^ 31 := by cases x.li <;> rfl
  have b1 := bv_bd x.un 1 (by omega)
  have b2 := bv_bd x.li 1 (by omega)
  have p30 : (2 : Int) ^ 30 = 1073741824 := rfl
  have p31 : (2 : Int) ^ 31 = 2147483648 := rfl
  have e4 := u32_or_shift ((x.bl - 1) + w2 / 65536 % 1024 * 65536 + x.ck * 67108864) (bv x.un 1) 30 (by omega) (by omega) b1.1 (by omega) (by omega)
  have e5 := u32_or_shift ((x.bl - 1) + w2 / 65536 % 1024 * 65536 + x.ck * 67108864 + bv x.un 1 * 2 ^ 30) (bv x.li 1) 31 (by omega) (by omega) b2.1 (by omega) (by omega)
  refine ⟨_, _, _, (x.bl - 1) + w2 / 65536 % 1024 * 65536 + x.ck * 67108864 + bv x.un 1 * 2 ^ 30, e1, e2, e3, by rw [hu]; exact e4, ?_, ?_⟩
  · rw [hl, e5]
    unfold ioW2
    rw [hu, hl]
    omega
  · unfold ioW2
    rw [hu, hl]
    omega

/-- what PutIO's memory holds -/
def pW (w : World) (C : Array Value) (x : Io) : World := ((w.alloc (.cells C 28)).alloc (.cells x.cells 43)).alloc (.cells zCmdC 28)
set_option maxRecDepth 100000 in
set_option maxHeartbeats 8000000 in
theorem putio_ok (c : Cmd) (x : Io) (hc : c.Ok) (hx : x.Ok) (hg : x.good) (w : World) : Calls Try.prog 15 #[c.v, .agg x.cells] w fun e w' => e = .returned (.tuple #[(putIo c x).v, .int .i64 0]) ∧ Below w.heap.size w w' := by
  have z := zeroCmd
  obtain ⟨A, B, C, D, e1, e2, e3, e4, e5, bW⟩ := ioW2_parts c.w2 x hc.w2 hg hx.ck.1
  have e6 : bits .or .u32 (x.mask * 65536) x.app = x.app + x.mask * 65536 := by
    have h1 := hx.app
    have h2 := hx.mask
    rw [u32_or_comm _ _ (by omega) (by omega)]
    exact u32_or_shift x.app x.mask 16 (by omega) (by omega) (by omega) (by omega) (by omega)
  obtain ⟨X, hX⟩ : ∃ X, X = ioW2 c.w2 x := ⟨_, rfl⟩
  rw [← hX] at e5 bW
  have HX := Lib.hid hX
  have hb := hg.1
  have hb2 := hg.2.1
  have hck := hg.2.2
  have hck0 := hx.ck.1
  have hlba := hx.lba
  have hw2 := hc.w2
  have happ := hx.app
  have hmask := hx.mask
  have f1 : IntKind.i64.wrap (x.bl - 1) = x.bl - 1 := IntWalk.i64_in _ (by omega)
  have f2 : IntKind.u32.wrap (x.bl - 1) = x.bl - 1 := IntWalk.u32_in _ (by omega)
  have f3 : IntKind.u32.wrap x.ck = x.ck := IntWalk.u32_in _ (by omega)
  have f4 : IntKind.u32.wrap (x.ck * 67108864) = x.ck * 67108864 := IntWalk.u32_in _ (by omega)
  have f5 : IntKind.u32.wrap x.lba = x.lba % 4294967296 := rfl
  have f6 : IntKind.u32.wrap (x.lba / 4294967296) = x.lba / 4294967296 := IntWalk.u32_in _ (by omega)
  have f7 : IntKind.u32.wrap x.mask = x.mask := IntWalk.u32_in _ (by omega)
  have f8 : IntKind.u32.wrap (x.mask * 65536) = x.mask * 65536 := IntWalk.u32_in _ (by omega)
  have f9 : IntKind.u32.wrap x.app = x.app := IntWalk.u32_in _ (by omega)
  have q1 : decide (x.bl < 1) = false := decide_eq_false (by omega)
  have q2 : decide (65536 < x.bl) = false := decide_eq_false (by omega)
  have q3 : decide (15 < x.ck) = false := decide_eq_false (by omega)
  clear hX hg
  unfold zCmdC at z
  unfold Cmd.v Cmd.cells Io.cells
  go_enter Try.func15, Try.ntmps15
  go_upto_region 3 with fail
  go_cut [5] from 6 to 69 (fun v wc => v = .int .i64 0 ∧ wc = (pW w #[.int .u8 c.op, .int .u8 c.fused, .bool c.sgl, .int .u16 c.id, .int .u32 c.nsid, .int .u32 c.c2, .int .u32 c.c3, .int .u64 c.mt, .int .u64 c.d0, .int .u64 c.d1, .int .u32 (x.lba % 4294967296), .int .u32 (x.lba / 4294967296), .int .u32 c.w2, .int .u32 c.w3, .int .u32 c.w4, .int .u32 c.w5] x).drew)
  case first =>
    clear e1 e2 e3 e4 e5 e6
    go_region_with fail
    all_goals
      go_wp2_with fail
      go_meet
      exact ⟨rfl, rfl⟩
  case rest =>
    obtain ⟨rfl, rfl⟩ := hcut
    unfold pW zCmdC Io.cells
    clear q1 q2 q3 f5 f6
    go_upto_region 4 with fail
    go_cut [5] from 6 to 69 (fun v wc => v = .int .i64 0 ∧ wc = (pW w #[.int .u8 c.op, .int .u8 c.fused, .bool c.sgl, .int .u16 c.id, .int .u32 c.nsid, .int .u32 c.c2, .int .u32 c.c3, .int .u64 c.mt, .int .u64 c.d0, .int .u64 c.d1, .int .u32 (x.lba % 4294967296), .int .u32 (x.lba / 4294967296), .int .u32 (X), .int .u32 c.w3, .int .u32 c.w4, .int .u32 c.w5] x).drew.drew)
    case first =>
      refine wp_region_still_tail 24 (by kernel_rfl) (by kernel_rfl) ?_
      simp only [List.take_succ_cons, List.take_zero, List.drop_succ_cons, List.drop_zero]
      change wpStill _ _ (World.drew _) _ _ _
      iterate 16 still_step
      refine wpStill_step (fun K hK => ?_)
      go_simp
      refine ⟨_, cbit30 _ _, hK _ ?_⟩
      clear hK K
      iterate 3 still_step
      refine wpStill_step (fun K hK => ?_)
      go_simp
      refine ⟨_, cbit31 _ _, hK _ ?_⟩
      clear hK K
      iterate 3 still_step
      refine wpStill_nil ?_
      change wpList _ _ _ _ _ (World.drew _)
      go_wp2_with fail
      go_meet
      exact ⟨rfl, rfl⟩
    case rest =>
      obtain ⟨rfl, rfl⟩ := hcut
      unfold pW zCmdC Io.cells
      clear e1 e2 e3 e4 e5 f1 f2 f3 f4
      go_upto_region 5 with fail
      go_cut [5] from 6 to 69 (fun v wc => v = .int .i64 0 ∧ wc = (pW w #[.int .u8 c.op, .int .u8 c.fused, .bool c.sgl, .int .u16 c.id, .int .u32 c.nsid, .int .u32 c.c2, .int .u32 c.c3, .int .u64 c.mt, .int .u64 c.d0, .int .u64 c.d1, .int .u32 (x.lba % 4294967296), .int .u32 (x.lba / 4294967296), .int .u32 (X), .int .u32 c.w3, .int .u32 (x.rf), .int .u32 (x.app + x.mask * 65536)] x).drew.drew.drew)
      case first =>
        go_region_with fail
        all_goals
          go_wp2_with fail
          go_meet
          exact ⟨rfl, rfl⟩
      case rest =>
        obtain ⟨rfl, rfl⟩ := hcut
        unfold pW zCmdC Io.cells
        clear e6 f7 f8 f9
        go_wp2_with fail
        refine bodyPost_ret (v := .tuple #[(putIo c x).v, .int .i64 0]) (by simp [results, Try.results15, go_sem, putIo, Cmd.v, Cmd.cells, HX.out]) rfl ⟨rfl, ?_⟩
        exact ((((((Below.refl _ _).alloc (Nat.le_refl _) _).alloc (by simp) _).alloc (by simp; omega) _).drew).drew).drew

end Go.Proofs.Ytggdjadhenamiaa
