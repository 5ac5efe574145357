/- completion: statuses: Make, Code, is, Retry, Kind, Good; the reference's. -/
import Derived.Test.YtiinjjfggmmkmaaRf
import Derived.Test.YtiinjjfggmmkmaaDecR
import Derived.Laws.BitsAllLaws
namespace Go.Proofs.Ytiinjjfggmmkmaa
set_option linter.unusedVariables false
set_option linter.unusedSimpArgs false
open Go.RowKit

/-- A status. -/
structure Sta where
  ty : Int
  code : Int
  more : Bool
  never : Bool
def Sta.cells (s : Sta) : Array Value := #[.int .u8 s.ty, .int .u8 s.code, .bool s.more, .bool s.never]
structure Sta.Ok (s : Sta) : Prop where
  ty : 0 ≤ s.ty ∧ s.ty ≤ 255
  code : 0 ≤ s.code ∧ s.code ≤ 255
def Sta.no (s : Sta) : Int := s.ty * 256 + s.code
theorem Sta.no_bd {s : Sta} (h : s.Ok) : 0 ≤ s.no ∧ s.no ≤ 65535 := by
  have h1 := h.ty
  have h2 := h.code
  unfold Sta.no
  omega
/-- the status with a code -/
def mkSt (k : Int) (never : Bool) : Sta := { ty := k / 256 % 8, code := k % 256, more := false, never := never }
theorem mkSt_ok (k : Int) (b : Bool) : (mkSt k b).Ok := ⟨by show 0 ≤ k / 256 % 8 ∧ k / 256 % 8 ≤ 255; omega, by show 0 ≤ k % 256 ∧ k % 256 ≤ 255; omega⟩

theorem u16_or_shift (a b : Int) (h1 : 0 ≤ a ∧ a ≤ 255) (h2 : 0 ≤ b ∧ b ≤ 255) : bits .or .u16 (a * 256) b = a * 256 + b := by
  obtain ⟨x, rfl⟩ := Int.eq_ofNat_of_zero_le h1.1
  obtain ⟨y, rfl⟩ := Int.eq_ofNat_of_zero_le h2.1
  rw [u16_or _ _ (by omega) (by omega) (by omega) (by omega)]
  have h := Nat.shiftLeft_add_eq_or_of_lt (i := 8) (b := y) (by omega) x
  have e1 : ((x : Int) * 256).toNat = x <<< 8 := by rw [Nat.shiftLeft_eq]; omega
  have e8 : (2 : Nat) ^ 8 = 256 := rfl
  rw [e1, Int.toNat_natCast, ← h, Nat.shiftLeft_eq, e8]
  omega
theorem u16_and7 (x : Int) (h : 0 ≤ x ∧ x ≤ 65535) : bits .and .u16 x 7 = x % 8 := by
  obtain ⟨n, rfl⟩ := Int.eq_ofNat_of_zero_le h.1
  rw [u16_and _ _ (by omega) (by omega) (by omega) (by omega)]
  have e : ((7 : Int)).toNat = 2 ^ 3 - 1 := rfl
  rw [e, Int.toNat_natCast, Nat.and_two_pow_sub_one_eq_mod]
  push_cast
  rfl

theorem zeroSt (w : World) : (zeroValue 24).run Try.prog w = .ok (.agg #[.int .u8 0, .int .u8 0, .bool false, .bool false]) w := by kernel_rfl
set_option maxHeartbeats 2000000 in
theorem code_any (s : Sta) (h : s.Ok) (w : World) : Calls Try.prog 11 #[.agg s.cells] w fun e w' => e = .returned (.int .u16 s.no) ∧ Below w.heap.size w w' := by
  obtain ⟨ty, code, more, never⟩ := s
  obtain ⟨t0, t1⟩ := h.ty
  obtain ⟨c0, c1⟩ := h.code
  simp only [] at t0 t1 c0 c1
  have e1 := u16_or_shift ty code ⟨t0, t1⟩ ⟨c0, c1⟩
  have e2 : IntKind.u16.wrap ty = ty := IntWalk.u16_in _ (by omega)
  have e3 : IntKind.u16.wrap code = code := IntWalk.u16_in _ (by omega)
  have e4 : IntKind.u16.wrap (ty * 256) = ty * 256 := IntWalk.u16_in _ (by omega)
  unfold Sta.cells Sta.no
  clear h
  simp only []
  go_enter Try.func11, Try.ntmps11
  go_wp2_with fail
  try (go_quiet (fail))
  try go_wp2_with fail
  go_ret
  exact ⟨rfl, (Below.refl _ _).alloc (Nat.le_refl _) _⟩
set_option maxHeartbeats 2000000 in
theorem rcode_any (s : Sta) (h : s.Ok) (w : World) : Calls Try.prog 12 #[.agg s.cells] w fun e w' => e = .returned (.int .i64 s.no) ∧ Below w.heap.size w w' := by
  obtain ⟨ty, code, more, never⟩ := s
  obtain ⟨t0, t1⟩ := h.ty
  obtain ⟨c0, c1⟩ := h.code
  simp only [] at t0 t1 c0 c1
  have e2 : IntKind.i64.wrap ty = ty := IntWalk.i64_in _ (by omega)
  have e3 : IntKind.i64.wrap code = code := IntWalk.i64_in _ (by omega)
  have e4 : IntKind.i64.wrap (256 * ty) = 256 * ty := IntWalk.i64_in _ (by omega)
  have e5 : IntKind.i64.wrap (256 * ty + code) = 256 * ty + code := IntWalk.i64_in _ (by omega)
  have HE := Lib.hid (show ty * 256 + code = 256 * ty + code by omega)
  unfold Sta.cells Sta.no
  clear h
  simp only []
  rw [HE.out]
  go_enter Try.func12, Try.ntmps12
  go_wp2_with fail
  try (go_quiet (fail))
  try go_wp2_with fail
  go_ret
  exact ⟨rfl, (Below.refl _ _).alloc (Nat.le_refl _) _⟩
set_option maxHeartbeats 2000000 in
theorem make_any (k : Int) (b : Bool) (h0 : 0 ≤ k) (h1 : k ≤ 65535) (w : World) : Calls Try.prog 10 #[.int .u16 k, .bool b] w fun e w' => e = .returned (.agg (mkSt k b).cells) ∧ Below w.heap.size w w' := by
  have e1 := u16_and7 (k / 256) (by omega)
  have e2 : IntKind.u8.wrap (k / 256 % 8) = k / 256 % 8 := IntWalk.u8_in _ (by omega)
  have e3 : IntKind.u8.wrap k = k % 256 := by rw [IntKind.wrap_u8]
  unfold Sta.cells mkSt
  simp only []
  go_enter Try.func10, Try.ntmps10
  go_wp2_with fail
  exact bodyPost_ret (v := .agg #[.int .u8 (k / 256 % 8), .int .u8 (k % 256), .bool false, .bool b]) (by simp [results, Try.results10, go_sem]) rfl ⟨rfl, (Below.refl _ _).alloc (Nat.le_refl _) _⟩

/-- the first place of a number in a row, or -1 -/
def ixIn (n : Nat) (f : Nat → Int) (k : Int) : Int := match (List.range n).find? fun i => f i == k with | some i => (i : Nat) | none => -1
def memIn (n : Nat) (f : Nat → Int) (k : Int) : Bool := decide (0 ≤ ixIn n f k)
theorem ixIn_some {n : Nat} {f : Nat → Int} {k : Int} {i : Nat} (hi : i < n) (h : ∀ j, j < i → f j ≠ k) (hk : f i = k) : ixIn n f k = (i : Nat) := by
  have : (List.range n).find? (fun i => f i == k) = some i := by
    rw [List.find?_range_eq_some]
    exact ⟨by simpa using hk, List.mem_range.2 hi, fun j hj => by simpa using h j hj⟩
  unfold ixIn
  rw [this]
theorem ixIn_none {n : Nat} {f : Nat → Int} {k : Int} (h : ∀ j, j < n → f j ≠ k) : ixIn n f k = -1 := by
  have : (List.range n).find? (fun i => f i == k) = none := by
    rw [List.find?_eq_none]
    intro i hi
    simpa using h i (List.mem_range.1 hi)
  unfold ixIn
  rw [this]
theorem ixIn_bd (n : Nat) (f : Nat → Int) (k : Int) : -1 ≤ ixIn n f k ∧ ixIn n f k < n := by
  unfold ixIn
  split
  · rename_i i h
    have := List.mem_range.1 (List.mem_of_find?_eq_some h)
    omega
  · omega
set_option maxHeartbeats 2000000 in
theorem index_any (g n c : Nat) (f : Nat → Int) (k : Int) (w : World) (hn : n ≤ 100) (hc : ∀ i, i < n → w.cell? ⟨g, i, none⟩ = some (.int .u16 (f i))) :
    Calls Try.prog 61 #[.slice (some ⟨g, 0, none⟩) n c, .int .u16 k] w fun e w' => e = .returned (.int .i64 (ixIn n f k)) ∧ w = w' := by
  have HC := Lib.hid hc
  clear hc
  go_enter Try.func61, Try.ntmps61
  go_wp2_with fail
  go_loop [5, 8] (fun _ vi => ∃ i : Nat, vi = .int .i64 i ∧ i ≤ n ∧ ∀ j, j < i → f j ≠ k) (fun _ vi => n - (intOf vi).toNat)
  case atStart => exact ⟨0, rfl, Nat.zero_le _, fun j hj => by omega⟩
  case round =>
    obtain ⟨i, rfl, hi, hno⟩ := hrel
    have HNO := Lib.hid hno
    clear hno
    by_cases hlt : i < n
    · have c1 := HC.out i hlt
      obtain ⟨x, hx⟩ : ∃ x, x = f i := ⟨_, rfl⟩
      rw [← hx] at c1
      have HX := Lib.hid hx
      have e1 : IntKind.i64.wrap ((i : Int) + 1) = (i : Int) + 1 := IntWalk.i64_in _ (by omega)
      clear hx
      by_cases hxk : k = x
      · have hb : (k == x) = true := by simpa using hxk
        have HXK := Lib.hid hxk
        clear hxk
        go_wp2_with fail
        go_ret
        rw [ixIn_some hlt HNO.out (HX.out.symm.trans HXK.out.symm)]
        exact ⟨rfl, rfl⟩
      · have hb : (k == x) = false := by simpa using hxk
        have HXK := Lib.hid hxk
        clear hxk
        go_wp2_with fail
        go_round
        case rel => exact ⟨i + 1, by go_num, by omega, fun j hj => by
          by_cases hji : j = i
          · subst hji; rw [← HX.out]; exact fun e => HXK.out e.symm
          · exact HNO.out j (by omega)⟩
        case measure => simp [intOf]; omega
    · obtain rfl : i = n := by omega
      go_wp2_with fail
      go_ret
      rw [ixIn_none HNO.out]
      exact ⟨rfl, rfl⟩
set_option maxHeartbeats 2000000 in
theorem contains_any (g n c : Nat) (f : Nat → Int) (k : Int) (w : World) (hn : n ≤ 100) (hc : ∀ i, i < n → w.cell? ⟨g, i, none⟩ = some (.int .u16 (f i))) :
    Calls Try.prog 54 #[.slice (some ⟨g, 0, none⟩) n c, .int .u16 k] w fun e w' => e = .returned (.bool (memIn n f k)) ∧ w = w' := by
  have H := Lib.hid (index_any g n c f k w hn hc)
  unfold memIn
  obtain ⟨b0, b1⟩ := ixIn_bd n f k
  obtain ⟨x, hx⟩ : ∃ x, x = ixIn n f k := ⟨_, rfl⟩
  rw [← hx] at H ⊢
  clear hc hx b0 b1
  go_enter Try.func54, Try.ntmps54
  go_wp2_with (go_at_call 61; refine H.out.mono ?_; rintro e w' ⟨rfl, rfl⟩)
  go_ret
  exact ⟨rfl, rfl⟩
set_option maxHeartbeats 2000000 in
theorem is_any (s : Sta) (h : s.Ok) (g n c : Nat) (f : Nat → Int) (w : World) (hn : n ≤ 100) (hc : ∀ i, i < n → w.cell? ⟨g, i, none⟩ = some (.int .u16 (f i))) :
    Calls Try.prog 40 #[.agg s.cells, .slice (some ⟨g, 0, none⟩) n c] w fun e w' => e = .returned (.bool (memIn n f s.no)) ∧ Below w.heap.size w w' := by
  have HC := Lib.hid (fun W => code_any s h W)
  have HCO := Lib.hid (show ∀ W, Below w.heap.size w W → Calls Try.prog 54 #[.slice (some ⟨g, 0, none⟩) n c, .int .u16 s.no] W fun e w' => e = .returned (.bool (memIn n f s.no)) ∧ W = w' from fun W hb => contains_any g n c f s.no W hn (fun i hi => (hb.cell (World.block_lt_of_cell? _ _ (hc i hi))).trans (hc i hi)))
  obtain ⟨m, hm⟩ : ∃ m, m = memIn n f s.no := ⟨_, rfl⟩
  rw [← hm] at HCO ⊢
  unfold Sta.cells at HC ⊢
  have HB := Lib.hid (show Below w.heap.size w (w.alloc (.cells #[.int .u8 s.ty, .int .u8 s.code, .bool s.more, .bool s.never] 24)) from (Below.refl _ _).alloc (Nat.le_refl _) _)
  clear hc hm h
  go_enter Try.func40, Try.ntmps40
  go_wp2_with (first
    | (go_at_call 11; refine (HC.out _).mono ?_; rintro e w1 ⟨rfl, hb⟩; have HB1 := Lib.hid (HB.out.trans (hb.mono HB.out.size)); clear hb)
    | (go_at_call 54; refine (HCO.out _ HB1.out).mono ?_; rintro e w' ⟨rfl, rfl⟩))
  go_ret
  exact ⟨rfl, HB1.out⟩

/-- the codes that are never retried -/
def noL (i : Nat) : Int := if i = 0 then 0 else if i = 1 then 1 else if i = 2 then 2 else if i = 3 then 11 else if i = 4 then 128 else if i = 5 then 265 else if i = 6 then 645 else 640
def retryB (s : Sta) : Bool := !s.never && !memIn 8 noL s.no
theorem noL_spec (k : Int) : (memIn 8 noL k = true ∧ (k = 0 ∨ k = 1 ∨ k = 2 ∨ k = 11 ∨ k = 128 ∨ k = 265 ∨ k = 645 ∨ k = 640)) ∨ (memIn 8 noL k = false ∧ k ≠ 0 ∧ k ≠ 1 ∧ k ≠ 2 ∧ k ≠ 11 ∧ k ≠ 128 ∧ k ≠ 265 ∧ k ≠ 645 ∧ k ≠ 640) := by
  have key : memIn 8 noL k = true ↔ ∃ i, i < 8 ∧ noL i = k := by
    unfold memIn ixIn
    constructor
    · intro h
      split at h
      · rename_i i hf
        exact ⟨i, List.mem_range.1 (List.mem_of_find?_eq_some hf), by simpa using List.find?_some hf⟩
      · simp at h
    · rintro ⟨i, hi, he⟩
      split
      · simp
      · rename_i hf
        rw [List.find?_eq_none] at hf
        exact absurd (by simpa using he) (hf i (List.mem_range.2 hi))
  by_cases h : ∃ i, i < 8 ∧ noL i = k
  · left
    refine ⟨key.2 h, ?_⟩
    obtain ⟨i, hi, rfl⟩ := h
    have : i = 0 ∨ i = 1 ∨ i = 2 ∨ i = 3 ∨ i = 4 ∨ i = 5 ∨ i = 6 ∨ i = 7 := by omega
    rcases this with rfl | rfl | rfl | rfl | rfl | rfl | rfl | rfl <;> simp [noL]
  · right
    refine ⟨by cases hm : memIn 8 noL k with | false => rfl | true => exact absurd (key.1 hm) h, ?_⟩
    refine ⟨fun e => h ⟨0, by omega, e.symm⟩, fun e => h ⟨1, by omega, e.symm⟩, fun e => h ⟨2, by omega, e.symm⟩, fun e => h ⟨3, by omega, e.symm⟩, fun e => h ⟨4, by omega, e.symm⟩, fun e => h ⟨5, by omega, e.symm⟩, fun e => h ⟨6, by omega, e.symm⟩, fun e => h ⟨7, by omega, e.symm⟩⟩
end Go.Proofs.Ytiinjjfggmmkmaa
