/- command: the reference's PutIO. -/
import Derived.Test.YtggdjadhenamiaaIp
namespace Go.Proofs.Ytggdjadhenamiaa
set_option linter.unusedVariables false
set_option linter.unusedSimpArgs false
open Go.RowKit
set_option maxRecDepth 100000 in
set_option maxHeartbeats 8000000 in
theorem rputio_ok (c : Cmd) (x : Io) (hc : c.Ok) (hx : x.Ok) (hg : x.good) (w : World) : Calls Try.prog 16 #[c.v, .agg x.cells] w fun e w' => e = .returned (.tuple #[(putIo c x).v, .int .i64 0]) ∧ Below w.heap.size w w' := by
  have z := zeroCmd
  obtain ⟨A, B, C, D, -, -, -, -, -, bW⟩ := ioW2_parts c.w2 x hc.w2 hg hx.ck.1
  have eW : ioW2 c.w2 x = c.w2 / 65536 % 1024 * 65536 + (x.bl - 1) + x.ck * 67108864 + bv x.un 1073741824 + bv x.li 2147483648 := rfl
  have hb := hg.1
  have hb2 := hg.2.1
  have hck := hg.2.2
  have hck0 := hx.ck.1
  have hlba := hx.lba
  have hw2 := hc.w2
  have happ := hx.app
  have hmask := hx.mask
  obtain ⟨lba, bl, li, un, ck, rf, app, mask⟩ := x
  simp only at hb hb2 hck hck0 hlba happ hmask eW
  obtain ⟨E, hE⟩ : ∃ E, E = c.w2 / 65536 % 1024 * 65536 + (bl - 1) + ck * 67108864 := ⟨_, rfl⟩
  have hE0 : 0 ≤ E ∧ E ≤ 1073741823 := by omega
  rw [← hE] at eW
  have f1 : IntKind.i64.wrap (bl - 1) = bl - 1 := IntWalk.i64_in _ (by omega)
  have f2 : IntKind.u32.wrap (bl - 1) = bl - 1 := IntWalk.u32_in _ (by omega)
  have f5 : IntKind.u32.wrap (lba % 4294967296) = lba % 4294967296 := IntWalk.u32_in _ (by omega)
  have f6 : IntKind.u32.wrap (lba / 4294967296) = lba / 4294967296 := IntWalk.u32_in _ (by omega)
  have f12 : IntKind.u64.wrap (lba / 4294967296) = lba / 4294967296 := IntWalk.u64_in _ (by omega)
  have f10 : lba.tmod 4294967296 = lba % 4294967296 := Int.tmod_eq_emod_of_nonneg (by omega)
  have f11 : lba.tdiv 4294967296 = lba / 4294967296 := Int.tdiv_eq_ediv_of_nonneg (by omega)
  have q1 : decide (bl < 1) = false := decide_eq_false (by omega)
  have q2 : decide (65536 < bl) = false := decide_eq_false (by omega)
  have q3 : decide (16 ≤ ck) = false := decide_eq_false (by omega)
  have HE := Lib.hid hE
  have HEW := Lib.hid eW
  clear hg hE eW bW
  unfold zCmdC at z
  unfold Cmd.v Cmd.cells Io.cells
  go_enter Try.func16, Try.ntmps16
  go_upto_region 3 with fail
  go_cut [5] from 7 to 75 (fun v wc => v = .int .i64 0 ∧ wc = (pW w #[.int .u8 c.op, .int .u8 c.fused, .bool c.sgl, .int .u16 c.id, .int .u32 c.nsid, .int .u32 c.c2, .int .u32 c.c3, .int .u64 c.mt, .int .u64 c.d0, .int .u64 c.d1, .int .u32 (lba % 4294967296), .int .u32 (lba / 4294967296), .int .u32 c.w2, .int .u32 c.w3, .int .u32 c.w4, .int .u32 c.w5] ⟨lba, bl, li, un, ck, rf, app, mask⟩).drew)
  case first =>
    go_region_with fail
    all_goals
      go_wp2_with fail
      go_meet
      exact ⟨rfl, rfl⟩
  case rest =>
    obtain ⟨rfl, rfl⟩ := hcut
    unfold pW zCmdC Io.cells
    clear q1 q2 q3 f5 f6 f10 f11 f12
    go_upto_if 51 with fail
    rw [← HE.out]
    go_cut [6] from 7 to 75 (fun v wc => v = .int .u32 (E + bv un 1073741824) ∧ wc = (pW w #[.int .u8 c.op, .int .u8 c.fused, .bool c.sgl, .int .u16 c.id, .int .u32 c.nsid, .int .u32 c.c2, .int .u32 c.c3, .int .u64 c.mt, .int .u64 c.d0, .int .u64 c.d1, .int .u32 (lba % 4294967296), .int .u32 (lba / 4294967296), .int .u32 c.w2, .int .u32 c.w3, .int .u32 c.w4, .int .u32 c.w5] ⟨lba, bl, li, un, ck, rf, app, mask⟩).drew)
    case first =>
      cases un
      · go_wp2_with fail
        go_meet
        exact ⟨by simp [bv], rfl⟩
      · go_wp2_with fail
        go_meet
        exact ⟨rfl, rfl⟩
    case rest =>
      obtain ⟨rfl, rfl⟩ := hcut
      unfold pW zCmdC Io.cells
      have hu := bv_bd un 1073741824 (by omega)
      obtain ⟨G, hG⟩ : ∃ G, G = E + bv un 1073741824 := ⟨_, rfl⟩
      rw [← hG]
      have hG0 : 0 ≤ G ∧ G ≤ 2147483647 := by omega
      have HGG := Lib.hid hG
      clear hG hu
      go_upto_if 55 with fail
      go_cut [6] from 7 to 75 (fun v wc => v = .int .u32 (G + bv li 2147483648) ∧ wc = (pW w #[.int .u8 c.op, .int .u8 c.fused, .bool c.sgl, .int .u16 c.id, .int .u32 c.nsid, .int .u32 c.c2, .int .u32 c.c3, .int .u64 c.mt, .int .u64 c.d0, .int .u64 c.d1, .int .u32 (lba % 4294967296), .int .u32 (lba / 4294967296), .int .u32 c.w2, .int .u32 c.w3, .int .u32 c.w4, .int .u32 c.w5] ⟨lba, bl, li, un, ck, rf, app, mask⟩).drew)
      case first =>
        cases li
        · go_wp2_with fail
          go_meet
          exact ⟨by simp [bv], rfl⟩
        · go_wp2_with fail
          go_meet
          exact ⟨rfl, rfl⟩
      case rest =>
        obtain ⟨rfl, rfl⟩ := hcut
        unfold pW zCmdC Io.cells
        obtain ⟨X, hX⟩ : ∃ X, X = G + bv li 2147483648 := ⟨_, rfl⟩
        rw [← hX]
        have HX := Lib.hid (show X = ioW2 c.w2 ⟨lba, bl, li, un, ck, rf, app, mask⟩ by rw [HEW.out, hX, HGG.out])
        clear hX
        go_wp2_with fail
        refine bodyPost_ret (v := .tuple #[(putIo c ⟨lba, bl, li, un, ck, rf, app, mask⟩).v, .int .i64 0]) (by simp [results, Try.results16, go_sem, putIo, Cmd.v, Cmd.cells, HX.out]) rfl ⟨rfl, ?_⟩
        exact ((((Below.refl _ _).alloc (Nat.le_refl _) _).alloc (by simp) _).alloc (by simp; omega) _).drew
end Go.Proofs.Ytggdjadhenamiaa
