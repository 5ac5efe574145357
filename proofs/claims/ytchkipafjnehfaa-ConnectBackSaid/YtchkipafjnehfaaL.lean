/- connect: Encode of a valid command. -/
import Derived.Test.YtchkipafjnehfaaK
namespace Go.Proofs.Ytchkipafjnehfaa
set_option linter.unusedVariables false
set_option linter.unusedSimpArgs false
open Go.RowKit

/-- the first five bytes -/
def hv (f : Fab) : Nat → Int := fun i => if i = 0 then 127 else if i = 1 then 64 else if i = 2 then f.id % 256 else if i = 3 then f.id / 256 else f.kind
def hd (f : Fab) (k : Nat) : Nat → Value := fun j => if j < k then .int .u8 (hv f j) else .int .u8 0
theorem hv_bd {f : Fab} (hok : f.Ok) (i : Nat) : 0 ≤ hv f i ∧ hv f i ≤ 255 := by
  obtain ⟨k1, k2⟩ := hok.kind
  obtain ⟨i1, i2⟩ := hok.id
  unfold hv
  split
  · omega
  · split
    · omega
    · split
      · omega
      · split <;> omega
theorem hd_step {f : Fab} (hok : f.Ok) (k : Nat) (j : Nat) : putF (hd f k) k 1 (hv f k) j = hd f (k + 1) j := by
  have := hv_bd hok k
  unfold putF hd
  by_cases h : j = k
  · subst h
    rw [if_pos (by omega), if_pos (by omega), Nat.sub_self]
    simp
    omega
  · rw [if_neg (by omega)]
    by_cases h2 : j < k
    · rw [if_pos h2, if_pos (by omega)]
    · rw [if_neg h2, if_neg (by omega)]

theorem Wr.congr {w : World} {cb ab ty fb : Nat} {F G : Nat → Value} {f : Fab} (h : Wr w cb ab ty fb F f) (e : ∀ j, F j = G j) : Wr w cb ab ty fb G f :=
  ⟨h.c0, h.c2, World.rowIs.congr h.row (fun i _ => e i), h.fab, h.n1, h.n2, h.n3⟩
theorem Wr.kept {S : Nat → Prop} {w w' : World} {cb ab ty fb : Nat} {F : Nat → Value} {f : Fab} (h : Wr w cb ab ty fb F f) (k : Keeps S w w') (h1 : ¬ S cb) (h2 : ¬ S ab) (h3 : ¬ S fb) : Wr w' cb ab ty fb F f :=
  ⟨k.cell h.c0 h1, k.cell h.c2 h1, k.rowIs h.row h2, k.rowIs h.fab h3, h.n1, h.n2, h.n3⟩

theorem putF_one {F : Nat → Value} {p n : Nat} {v : Int} (h : ∀ j, (F j).oneCell' = true) : ∀ j, (putF F p n v j).oneCell' = true := by
  intro j
  unfold putF
  split
  · rfl
  · exact h j
theorem hd_one (f : Fab) (k : Nat) : ∀ j, (hd f k j).oneCell' = true := by
  intro j
  unfold hd
  split <;> rfl

/-- What lies in memory in the loop over the first bytes. -/
structure EncInv (w : World) (cb sb : Nat) (f : Fab) (F : Nat → Value) (W : World) : Prop where
  wr : Wr W cb (w.heap.size + 1) 43 w.heap.size F f
  lit : W.rowIs sb 40 5 (fun i => .int .u64 (hv f i))
  cur : W.cell? ⟨cb, 0, none⟩ = some (.pointer (some ⟨w.heap.size + 1, 0, none⟩))
  below : Below w.heap.size w W
  ncb : w.heap.size + 1 < cb
  nsb : w.heap.size + 1 < sb

set_option maxRecDepth 100000 in
set_option maxHeartbeats 4000000 in
theorem encode_ok (f : Fab) (w : World) (i fa fb : Nat) (G : (Nat → Value) → Nat → Value) (hok : f.Ok) (hone : ∀ j, (G (hd f 5) j).oneCell' = true) (hfind : Instr.findNow (.int .u8) (.int .u8 f.kind) layEs.toList 0 = some (some (i, lay fa fb)))
    (efa : ∀ args w, (callFunc fa args).run Try.prog w = .ok (.enter fa args) w)
    (hv' : ∀ w, Calls Try.prog 21 #[f.v] w fun e w' => e = .returned (.bool true) ∧ Below w.heap.size w w')
    (hw : ∀ (cb ab ty fb : Nat) (F : Nat → Value) (w : World), Wr w cb ab ty fb F f → Calls Try.prog fa #[.pointer (some ⟨cb, 0, none⟩), .pointer (some ⟨fb, 0, none⟩)] w fun e w' => e = .returned (.tuple #[]) ∧ Keeps (Two ab fb) w w' ∧ Wr w' cb ab ty fb (G F) f) :
    Calls Try.prog 19 #[f.v] w fun e w' => e = .returned (.tuple #[.agg (arr 64 (G (hd f 5))), .int .i64 0]) ∧ Below w.heap.size w w' := by
  have HV := Lib.hid hv'
  have HONE := Lib.hid (arr_one (n := 64) (fun j _ => hone j))
  clear hone
  have HF := Lib.hid hfind
  have HW := Lib.hid hw
  have HOK := Lib.hid hok
  have HS := Lib.hid (encode_start f w)
  obtain ⟨k1, k2⟩ := hok.kind
  obtain ⟨i1, i2⟩ := hok.id
  have eand : bits .and .u64 f.id 255 = f.id % 256 := by
    rw [u64_and f.id 255 i1 (by omega) (by omega) (by omega)]
    have := Nat.and_two_pow_sub_one_eq_mod f.id.toNat 8
    rw [show (255 : Int).toNat = 2 ^ 8 - 1 from rfl, this]
    omega
  have hfl : ∀ w, (Instr.field 90 (.agg #[.func (.func fa) #[] #[], .func (.func fb) #[] #[]]) 0).run Try.prog w = .ok (.func (.func fa) #[] #[]) w := fun w => by kernel_rfl
  clear hv' hfind hw hok
  unfold Fab.v at *
  go_enter Try.func19, Try.ntmps19
  go_wp2_with ((with_reducible show wpList _ _ _ (⟨some 2, _, _, _, _, _⟩ :: _) _ _); refine wpList_alloc rfl 43 rfl zero64 ?_; rw [show (Value.agg (arr 64 z8)).cells = arr 64 z8 from rfl])
  obtain ⟨h1, h2, h3, h4⟩ := HS.out _ rfl
  refine (HV.out _).mono ?_
  rintro e w1 ⟨rfl, hb⟩
  have hl1 : w.heap.size < w1.heap.size := by have := hb.size; omega
  have hl2 : w.heap.size + 1 < w1.heap.size := by have := hb.size; omega
  have H1 := Lib.hid (World.rowIs.of_block h1 (hb.block _ (by omega)))
  have H2 := Lib.hid (h2.of_block (hb.block _ h2.lt))
  have HB := Lib.hid (h3.trans (hb.mono h3.size))
  have g0 : w1.cell? ⟨w.heap.size, 0, none⟩ = some (.int .u8 f.kind) := World.rowIs.cell H1.out (by omega)
  have g1 : w1.cell? ⟨w.heap.size, 1, none⟩ = some (.int .u16 f.id) := World.rowIs.cell H1.out (by omega)
  clear h1 h2 h3 h4 hb
  go_wp2_with fail
  obtain ⟨W, hW⟩ : ∃ W, W = (w1.alloc (.cells #[.pointer (some ⟨w.heap.size + 1, 0, none⟩), .int .i64 0, .bool false] 84)).alloc (.cells #[.int .u64 127, .int .u64 64, .int .u64 (f.id % 256), .int .u64 (f.id / 256), .int .u64 f.kind] 40) := ⟨_, rfl⟩
  rw [← hW]
  have hI : EncInv w w1.heap.size (w1.heap.size + 1) f (hd f 0) W := by
    have kk : Keeps (fun _ => False) w1 W := by rw [hW]; exact ((Keeps.refl _ _).alloc _).alloc _
    have hc : W.rowIs w1.heap.size 84 3 (fun i => if i = 0 then .pointer (some ⟨w.heap.size + 1, 0, none⟩) else if i = 1 then .int .i64 0 else .bool false) := by
      rw [hW]
      refine World.rowIs.alloc ?_ _
      exact World.rowIs_alloc w1 _ _ _ (fun i hi => by match i, hi with | 0, _ => rfl | 1, _ => rfl | 2, _ => rfl)
    refine ⟨⟨hc.cell (by omega), hc.cell (by omega), (kk.rowIs H2.out (fun h => h)).congr fun i _ => rfl, kk.rowIs H1.out (fun h => h), by omega, by omega, by omega⟩, ?_, hc.cell (by omega), ?_, by omega, by omega⟩
    · rw [hW]
      have e1 : (w1.alloc (.cells #[.pointer (some ⟨w.heap.size + 1, 0, none⟩), .int .i64 0, .bool false] 84)).heap.size = w1.heap.size + 1 := by simp
      have := World.rowIs_alloc (w1.alloc (.cells #[.pointer (some ⟨w.heap.size + 1, 0, none⟩), .int .i64 0, .bool false] 84)) #[.int .u64 127, .int .u64 64, .int .u64 (f.id % 256), .int .u64 (f.id / 256), .int .u64 f.kind] 40 (fun i => .int .u64 (hv f i)) (fun i hi => by match i, hi with | 0, _ => rfl | 1, _ => rfl | 2, _ => rfl | 3, _ => rfl | 4, _ => rfl)
      rw [e1] at this
      exact this
    · rw [hW]
      exact (HB.out.alloc HB.out.size _).alloc (by have := HB.out.size; simp; omega) _
  have HI := Lib.hid hI
  have hWs : w1.heap.size + 1 < W.heap.size := by rw [hW]; simp
  clear hI hW g0 g1
  go_loopw [5, 6, 26] (fun _ _ i wr => ∃ k : Nat, k ≤ 5 ∧ i = .int .i64 k ∧ EncInv w w1.heap.size (w1.heap.size + 1) f (hd f k) wr) (fun _ _ i _ => 5 - (intOf i).toNat)
  case atStart => exact ⟨0, by omega, rfl, HI.out⟩
  case round =>
    obtain ⟨k, hk, rfl, hI⟩ := hrel
    have HI' := Lib.hid hI
    by_cases hlt : k < 5
    · have c0 : wr.cell? ⟨w1.heap.size + 1, k, none⟩ = some (.int .u64 (hv f k)) := hI.lit.cell hlt
      clear hI
      obtain ⟨v1, v2⟩ := hv_bd HOK.out k
      obtain ⟨v, ev⟩ : ∃ v, v = hv f k := ⟨_, rfl⟩
      rw [← ev] at c0 v1 v2
      have EV := Lib.hid ev
      clear ev
      go_wp2_with fail
      refine (field_w w1.heap.size (w.heap.size + 1) 43 k 1 v (hd f k) wr HI'.out.wr.c0 HI'.out.wr.c2 HI'.out.wr.row (by omega) (by omega) v1 (by omega) HI'.out.wr.n1).mono ?_
      rintro e w2 ⟨rfl, hk2, hr2⟩
      have hI2 : EncInv w w1.heap.size (w1.heap.size + 1) f (hd f (k + 1)) w2 := by
        have h := HI'.out
        have e := EV.out
        subst e
        refine ⟨(h.wr.put hk2 hr2).congr (hd_step HOK.out k), hk2.rowIs h.lit (fun e => ?_), hk2.cell h.cur (fun e => ?_), h.below.trans (hk2.below (B := w.heap.size) h.below.size (fun j hj e => ?_)), h.ncb, h.nsb⟩
        · have e : w1.heap.size + 1 = w.heap.size + 1 := e
          omega
        · have e : w1.heap.size = w.heap.size + 1 := e
          omega
        · have e : j = w.heap.size + 1 := e
          omega
      have HI2 := Lib.hid hI2
      clear hk2 hr2 hI2
      go_wp2_with fail
      go_roundw
      case rel => exact ⟨k + 1, by omega, by go_num, HI2.out⟩
      case measure => simp [intOf]; omega
    · have hk5 : k = 5 := by omega
      subst hk5
      clear hI
      go_wp2_with fail
      have c0 : wr.cell? ⟨w.heap.size, 0, none⟩ = some (.int .u8 f.kind) := World.rowIs.cell HI'.out.wr.fab (by omega)
      go_cut [42] from 36 to 43 (fun _ wc => Wr wc w1.heap.size (w.heap.size + 1) 43 w.heap.size (G (hd f 5)) f ∧ Below w.heap.size w wc)
      case first =>
        go_region_with (first
          | (go_at_call 39; refine (layouts_any _).mono ?_; rintro e w2 ⟨mb, rfl, hm, hmb, hb⟩; have l1 := lay_at w2 mb hm f.kind i _ false HF.out; unfold lay at l1; have kk : Keeps (fun _ => False) wr w2 := (Keeps.refl _ wr).drew.trans (Keeps.of_below hb); have HI2 := Lib.hid (HI'.out.wr.kept kk (fun h => h) (fun h => h) (fun h => h)); have HB2 := Lib.hid (HI'.out.below.trans (kk.below (B := w.heap.size) HI'.out.below.size (fun _ _ h => h))); have c0' : w2.cell? ⟨w.heap.size, 0, none⟩ = some (.int .u8 f.kind) := kk.cell c0 (fun h => h); clear hm hmb hb kk)
          | ((with_reducible refine (HW.out _ _ _ _ (hd f 5) _ HI2.out).mono ?_); rintro e w3 ⟨rfl, hk3, h3⟩; have H3 := Lib.hid h3; have HB3 := Lib.hid (HB2.out.trans (hk3.below (B := w.heap.size) HB2.out.size (fun j hj e => by rcases e with e | e <;> omega))); clear hk3 h3))
        all_goals
          go_wp2_with fail
          go_meet
          exact ⟨H3.out, HB3.out⟩
      case rest =>
        obtain ⟨hwr, hb⟩ := hcut
        have HR := Lib.hid hwr.row
        have HBB := Lib.hid hb
        have HRA := Lib.hid (rowIs_range0 hwr.row)
        have HTH := Lib.hid (rowIs_there hwr.row 0 64 (by omega))
        clear hwr hb
        go_wp2_with (first | ((with_reducible show wpList _ _ _ (⟨some 43, _, _, _, _, _⟩ :: _) _ _); refine wpList_load_mid rfl 43 (.tmp 2) rfl (w.heap.size + 1) 0 rfl (arr 64 (G (hd f 5))).toList _ HRA.out Try.underlying43 rfl (by rw [arr64]; simp [arr]) ?_) |
          ((with_reducible show wpList _ _ _ (⟨none, _, _, _, _, _⟩ :: _) _ _); refine wpList_store_mid rfl 43 (.tmp 2) (.tmp 43) rfl (w.heap.size + 1) 0 (arr 64 (G (hd f 5))) rfl (by simp [Act.eval, Act.put]) (by rw [arr_size]; exact HTH.out) (by rw [arr64, arr_size]) HONE.out ?_))
        refine bodyPost_ret (encode_results _ _ _ _ (G (hd f 5)) _ (rowIs_store HR.out) rfl rfl) rfl ⟨rfl, ?_⟩
        exact HBB.out.trans ((Keeps.setCells _ (Keeps.refl (One (w.heap.size + 1)) wc) 0).below (B := w.heap.size) HBB.out.size (fun k hk e => by have e : k = w.heap.size + 1 := e; omega))

def F0 : Fab := ⟨0, 0, 0, 0, 0, false, 0, 0, 0⟩

/-- Encode of the command of the chapter's example. -/
theorem encode_known (w : World) : Calls Try.prog 19 #[Fab.v ⟨1, 7, 1, 31, 0, false, 0, 0, 0⟩] w fun e w' =>
    e = .returned (.tuple #[.agg (arr 64 (putF (putF (putF (hd ⟨1, 7, 1, 31, 0, false, 0, 0, 0⟩ 5) 42 2 1) 44 2 31) 48 4 0)), .int .i64 0]) ∧ Below w.heap.size w w' := by
  have hok : Fab.Ok ⟨1, 7, 1, 31, 0, false, 0, 0, 0⟩ := ⟨by decide, by decide, by decide, by decide, by decide, by decide, by decide, by decide⟩
  refine encode_ok ⟨1, 7, 1, 31, 0, false, 0, 0, 0⟩ w 1 59 60 (fun F => putF (putF (putF F 42 2 1) 44 2 31) 48 4 0) hok (putF_one (putF_one (putF_one (hd_one _ _)))) rfl (fun args w => by simp [go_sem]) ?_ ?_
  · intro w
    exact valid_hit ⟨1, 7, 1, 31, 0, false, 0, 0, 0⟩ w 1 59 60 true rfl (fun args w => by simp [go_sem]) (fun w => conn_any ⟨1, 7, 1, 31, 0, false, 0, 0, 0⟩ w)
  · intro cb ab ty fb F w h
    exact conn_w cb ab ty fb F _ w h hok
end Go.Proofs.Ytchkipafjnehfaa
