/- wire: Get, take, field, each of numbers, All: a reader. -/
import Derived.Test.YtiinjjfggmmkmaaCplR
import Derived.Laws.BitsAllLaws
namespace Go.Proofs.Ytiinjjfggmmkmaa
set_option linter.unusedVariables false
set_option linter.unusedSimpArgs false
open Go.RowKit

/-- a number of n bytes -/
def le (B : Nat → Int) (p : Nat) : Nat → Int
  | 0 => 0
  | k + 1 => le B p k + B (p + k) * 2 ^ (8 * k)
theorem le_bd {B : Nat → Int} (hB : ∀ j, 0 ≤ B j ∧ B j ≤ 255) (p k : Nat) : 0 ≤ le B p k ∧ le B p k < 2 ^ (8 * k) := by
  induction k with
  | zero => exact ⟨by simp [le], by simp [le]⟩
  | succ k ih =>
    obtain ⟨h1, h2⟩ := ih
    obtain ⟨b1, b2⟩ := hB (p + k)
    have hp : (0 : Int) < 2 ^ (8 * k) := Int.pow_pos (by omega)
    have e : (2 : Int) ^ (8 * (k + 1)) = 2 ^ (8 * k) * 256 := by rw [Nat.mul_add, Int.pow_add]; rfl
    have m1 : 0 ≤ B (p + k) * 2 ^ (8 * k) := Int.mul_nonneg b1 (Int.le_of_lt hp)
    have m2 : B (p + k) * 2 ^ (8 * k) ≤ 255 * 2 ^ (8 * k) := Int.mul_le_mul_of_nonneg_right b2 (Int.le_of_lt hp)
    unfold le
    rw [e]
    omega

theorem or_step (x y : Int) (k : Nat) (hx : 0 ≤ x) (hx' : x < 2 ^ (8 * k)) (hy : 0 ≤ y) (hy' : y ≤ 255) (hk : k < 8) :
    bits .or .u64 x (y * 2 ^ (8 * k)) = x + y * 2 ^ (8 * k) ∧ 0 ≤ y * 2 ^ (8 * k) ∧ y * 2 ^ (8 * k) ≤ 18446744073709551615 := by
  have hp : (0 : Int) < 2 ^ (8 * k) := Int.pow_pos (by omega)
  have hq : (2 : Int) ^ (8 * k) ≤ 72057594037927936 := by
    have h : k = 0 ∨ k = 1 ∨ k = 2 ∨ k = 3 ∨ k = 4 ∨ k = 5 ∨ k = 6 ∨ k = 7 := by omega
    rcases h with rfl | rfl | rfl | rfl | rfl | rfl | rfl | rfl <;> simp
  have m1 : 0 ≤ y * 2 ^ (8 * k) := Int.mul_nonneg hy (Int.le_of_lt hp)
  have m2 : y * 2 ^ (8 * k) ≤ 255 * 2 ^ (8 * k) := Int.mul_le_mul_of_nonneg_right hy' (Int.le_of_lt hp)
  refine ⟨?_, m1, by omega⟩
  obtain ⟨a, rfl⟩ := Int.eq_ofNat_of_zero_le hx
  obtain ⟨b, rfl⟩ := Int.eq_ofNat_of_zero_le hy
  have e : (b : Int) * 2 ^ (8 * k) = ((b <<< (8 * k) : Nat) : Int) := by rw [Nat.shiftLeft_eq]; push_cast; rfl
  rw [e] at m1 m2 ⊢
  have ha : a < 2 ^ (8 * k) := by
    have : ((a : Nat) : Int) < ((2 ^ (8 * k) : Nat) : Int) := by push_cast; exact hx'
    exact Int.ofNat_lt.1 this
  rw [u64_or _ _ (by omega) (by omega) (by omega) (by omega)]
  have h := Nat.shiftLeft_add_eq_or_of_lt ha b
  rw [Nat.or_comm] at h
  simp only [Int.toNat_natCast]
  omega

set_option maxRecDepth 100000 in
set_option maxHeartbeats 2000000 in
theorem get_ok (g o n c : Nat) (B : Nat → Int) (w : World) (hB : ∀ j, 0 ≤ B j ∧ B j ≤ 255) (h1 : 1 ≤ n) (h8 : n ≤ 8) (hc : ∀ j, j < n → w.cell? ⟨g, o + j, none⟩ = some (.int .u8 (B (o + j)))) :
   Calls Try.prog 63 #[.slice (some ⟨g, o, none⟩) n c] w fun e w' => e = .returned (.tuple #[.int .u64 (le B o n), .int .i64 0]) ∧ w = w' := by
  have HB := Lib.hid hB
  have HC := Lib.hid hc
  clear hB hc
  have d1 : decide (n < 1) = false := by simp; omega
  have d2 : decide (8 < n) = false := by simp; omega
  have d3 : decide ((n : Int) < 1) = false := by simp; omega
  have d4 : decide (8 < (n : Int)) = false := by simp; omega
  go_enter Try.func63, Try.ntmps63
  go_wp2_with fail
  go_loop [2, 4, 5, 16] (fun v _ _ i => ∃ k : Nat, k ≤ n ∧ i = .int .i64 k ∧ v = .int .u64 (le B o k)) (fun _ _ _ i => n - (intOf i).toNat)
  case atStart => exact ⟨0, Nat.zero_le _, rfl, rfl⟩
  case round =>
    obtain ⟨k, hk, rfl, rfl⟩ := hrel
    by_cases hlt : k < n
    · have c0 := HC.out k hlt
      obtain ⟨b1, b2⟩ := HB.out (o + k)
      obtain ⟨x1, x2⟩ := le_bd HB.out o k
      obtain ⟨s1, s2, s3⟩ := or_step (le B o k) (B (o + k)) k x1 x2 b1 b2 (by omega)
      have e4 : IntKind.i64.wrap (8 * (k : Int)) = 8 * (k : Int) := IntWalk.i64_in _ (by omega)
      have HS : Hid (le B o (k + 1) = le B o k + B (o + k) * 2 ^ (8 * k)) := Lib.hid rfl
      obtain ⟨x, hx⟩ : ∃ x, x = le B o k := ⟨_, rfl⟩
      obtain ⟨b, hb⟩ : ∃ b, b = B (o + k) := ⟨_, rfl⟩
      rw [← hx] at HS s1 x1 x2 ⊢
      rw [← hb] at HS s1 s2 s3 b1 b2 c0
      clear hx hb
      go_wp2_with fail
      go_round
      case rel => exact ⟨k + 1, by omega, by go_num, by rw [HS.out]⟩
      case measure => simp [intOf]; omega
    · obtain rfl : n = k := by omega
      go_wp2_with fail
      go_ret2
      exact ⟨rfl, rfl⟩

/-- A reader's rest at block rb: len bytes from o on of block g are left. -/
structure Rst (W : World) (rb g o len : Nat) (B : Nat → Int) : Prop where
  ex : ∃ ad cap, W.cell? ⟨rb, 0, none⟩ = some (.slice (some ad) len cap) ∧ len ≤ cap ∧ cap ≤ 9223372036854775807 ∧ (0 < len → ad = ⟨g, o, none⟩)
  at' : W.cell? ⟨rb, 1, none⟩ = some (.int .i64 o)
  fr : W.frozen? ⟨rb, 0, none⟩ = false
  fr1 : W.frozen? ⟨rb, 1, none⟩ = false
  src : ∀ j, j < len → W.cell? ⟨g, o + j, none⟩ = some (.int .u8 (B (o + j)))
  ne : rb ≠ g

theorem Rst.lt {W : World} {rb g o len : Nat} {B : Nat → Int} (h : Rst W rb g o len B) : rb < W.heap.size := World.block_lt_of_cell? _ _ h.at'

theorem Rst.kept {W W' : World} {S : Nat → Prop} {rb g o len : Nat} {B : Nat → Int} (h : Rst W rb g o len B) (k : Keeps S W W') (h1 : ¬ S rb) (h2 : ¬ S g) : Rst W' rb g o len B := by
  obtain ⟨ad, cap, e1, e2⟩ := h.ex
  exact ⟨⟨ad, cap, k.cell e1 h1, e2⟩, k.cell h.at' h1, k.frozen' h.lt h1 h.fr, k.frozen' h.lt h1 h.fr1, fun j hj => k.cell (h.src j hj) h2, h.ne⟩

theorem Rst.step {W : World} {rb g o len : Nat} {B : Nat → Int} (h : Rst W rb g o len B) (n cap : Nat) (ad : Addr) (hn : n ≤ len) (hc : len - n ≤ cap) (hc' : cap ≤ 9223372036854775807) (ha : 0 < len - n → ad = ⟨g, o + n, none⟩) :
    Rst ((W.setCell ⟨rb, 0, none⟩ (.slice (some ad) (len - n) cap)).setCell ⟨rb, 1, none⟩ (.int .i64 ((o : Int) + (n : Int)))) rb g (o + n) (len - n) B := by
  obtain ⟨ad0, cap0, e1, e2⟩ := h.ex
  have e3 := h.at'
  have f0 := h.fr
  have f1 := h.fr1
  have hne := h.ne
  refine ⟨⟨ad, cap, by go_simp, hc, hc', ha⟩, ?_, by go_simp, by go_simp, fun j hj => ?_, h.ne⟩
  · rw [show (((o + n : Nat)) : Int) = (o : Int) + (n : Int) from by omega]
    exact World.cell?_setCell_same _ _ _ (show (W.setCell ⟨rb, 0, none⟩ (.slice (some ad) (len - n) cap)).cell? ⟨rb, 1, none⟩ = some (.int .i64 (o : Int)) from by go_simp)
  · have := h.src (n + j) (by omega)
    rw [← Nat.add_assoc] at this
    have k : Keeps (One rb) W ((W.setCell ⟨rb, 0, none⟩ (.slice (some ad) (len - n) cap)).setCell ⟨rb, 1, none⟩ (.int .i64 ((o : Int) + (n : Int)))) := ((Keeps.refl _ _).set1 _ _).set1 _ _
    exact k.cell this (fun e => hne e.symm)

set_option maxRecDepth 100000 in
set_option maxHeartbeats 2000000 in
theorem take_ok (rb g o len n : Nat) (B : Nat → Int) (w : World) (h : Rst w rb g o len B) (h1 : 1 ≤ n) (hn : n ≤ len) (hl : len ≤ 1000) (ho : o + n ≤ 100000) :
   Calls Try.prog 62 #[.pointer (some ⟨rb, 0, none⟩), .int .i64 n] w fun e w' => e = .returned (.tuple #[.slice (some ⟨g, o, none⟩) n n, .int .i64 0]) ∧ Keeps (One rb) w w' ∧ Rst w' rb g (o + n) (len - n) B := by
  obtain ⟨ad, cap, hs, hc, hc', had⟩ := h.ex
  have ha := h.at'
  obtain rfl := had (by omega)
  have f0 := h.fr
  have f1 := h.fr1
  have H := Lib.hid h
  clear h had
  have e1 : IntKind.i64.wrap ((o : Int) + (n : Int)) = (o : Int) + (n : Int) := by rw [IntWalk.i64_in _ (by omega)]
  have i1 : (0 : Int) ≤ (n : Int) := by omega
  have i2 : (n : Int) ≤ (cap : Int) := by omega
  have i3 : (n : Int) ≤ (len : Int) := by omega
  have d1 : decide ((n : Int) < 0) = false := by simp
  have d2 : decide (len < n) = false := by simp; omega
  by_cases hcn : cap = n
  · obtain rfl : len = n := by omega
    subst hcn
    go_enter Try.func62, Try.ntmps62
    go_wp2_with fail
    go_region
    go_wp2_with fail
    go_ret2
    have k := H.out.step cap 0 ⟨g, o, none⟩ (by omega) (by omega) (by omega) (by omega)
    rw [Nat.sub_self] at k
    refine ⟨rfl, (((Keeps.refl _ _).set1 _ _).set1 _ _).drew, ?_⟩
    rw [Nat.sub_self]
    exact k.kept (S := fun _ => False) (Keeps.refl _ _).drew (fun e => e) (fun e => e)
  · go_enter Try.func62, Try.ntmps62
    go_wp2_with fail
    go_region
    go_wp2_with fail
    go_ret2
    have k := H.out.step n (cap - n) ⟨g, o + n, none⟩ (by omega) (by omega) (by omega) (fun _ => rfl)
    exact ⟨rfl, (((Keeps.refl _ _).set1 _ _).set1 _ _).drew, k.kept (S := fun _ => False) (Keeps.refl _ _).drew (fun e => e) (fun e => e)⟩

theorem infoU64 : (Try.prog.info? 77).map (fun i => (i.zero, i.size, i.bytes)) = some (some (.int .u64 0), 1, 8) := by kernel_rfl

set_option maxRecDepth 100000 in
set_option maxHeartbeats 2000000 in
theorem field_ok (rb g o len n : Nat) (B : Nat → Int) (w : World) (hB : ∀ j, 0 ≤ B j ∧ B j ≤ 255) (h : Rst w rb g o len B) (h1 : 1 ≤ n) (h8 : n ≤ 8) (hn : n ≤ len) (hl : len ≤ 1000) (ho : o + n ≤ 100000) :
   Calls Try.prog 57 #[.pointer (some ⟨rb, 0, none⟩), .int .i64 n] w fun e w' => ∃ q, e = .returned (.tuple #[.slice (some ⟨q, 0, none⟩) 1 1, .int .i64 0]) ∧ Keeps (One rb) w w' ∧ Rst w' rb g (o + n) (len - n) B ∧ w.heap.size ≤ q ∧ w'.cell? ⟨q, 0, none⟩ = some (.int .u64 (le B o n)) := by
  have H := Lib.hid h
  have HB := Lib.hid hB
  clear h hB
  have d1 : decide ((n : Int) < 1) = false := by simp; omega
  have d3 : decide (8 < (n : Int)) = false := by simp; omega
  have d2 : decide (n < 1) = false := by simp; omega
  have d4 : decide (8 < n) = false := by simp; omega
  go_enter Try.func57, Try.ntmps57
  go_wp2_with fail
  refine (take_ok rb g o len n B w H.out h1 hn hl ho).mono ?_
  rintro e w1 ⟨rfl, hk, hr⟩
  have hs1 := hk.size
  have HK := Lib.hid hk
  have HR := Lib.hid hr
  clear hk hr
  go_wp2_with fail
  refine (get_ok g o n n B w1 HB.out h1 h8 (fun j hj => HK.out.cell (H.out.src j (by omega)) (fun e => H.out.ne e.symm))).mono ?_
  rintro e w2 ⟨rfl, rfl⟩
  go_wp2_with fail
  go_ret2
  exact ⟨_, rfl, HK.out.alloc _, HR.out.kept (S := fun _ => False) ((Keeps.refl _ _).alloc _) (fun e => e) (fun e => e), hs1, by go_simp⟩

/-- where number k begins -/
def offN (ns : Nat → Nat) : Nat → Nat
  | 0 => 0
  | k + 1 => offN ns k + ns k
/-- the first k numbers -/
def numsL (B : Nat → Int) (ns : Nat → Nat) : Nat → List Value
  | 0 => []
  | k + 1 => numsL B ns k ++ [.int .u64 (le B (offN ns k) (ns k))]
theorem numsL_len (B : Nat → Int) (ns : Nat → Nat) (k : Nat) : (numsL B ns k).length = k := by
  induction k with
  | zero => rfl
  | succ k ih => simp [numsL, ih]
theorem numsL_get (B : Nat → Int) (ns : Nat → Nat) (k i : Nat) (h : i < k) : (numsL B ns k)[i]? = some (.int .u64 (le B (offN ns i) (ns i))) := by
  induction k with
  | zero => omega
  | succ k ih =>
    unfold numsL
    by_cases e : i < k
    · rw [List.getElem?_append_left (by rw [numsL_len]; exact e)]; exact ih e
    · obtain rfl : i = k := by omega
      rw [List.getElem?_append_right (by rw [numsL_len]; omega), numsL_len, Nat.sub_self]; rfl

set_option maxRecDepth 100000 in
set_option maxHeartbeats 2000000 in
theorem each_int_ok (rb g gi m c len : Nat) (ns : Nat → Nat) (B : Nat → Int) (w : World) (hB : ∀ j, 0 ≤ B j ∧ B j ≤ 255) (h : Rst w rb g 0 len B) (hm : m ≤ 100) (hi : ∀ i, i < m → w.cell? ⟨gi, i, none⟩ = some (.int .i64 (ns i))) (hn : ∀ i, 1 ≤ ns i ∧ ns i ≤ 8) (hle : ∀ k, k < m → offN ns k + ns k ≤ len) (hl : len ≤ 1000) (hne : rb ≠ gi) (hg : g < w.heap.size) :
   Calls Try.prog 56 #[.slice (some ⟨gi, 0, none⟩) m c, .func (.func 57) #[.pointer (some ⟨rb, 0, none⟩)] #[]] w fun e w' =>
     ∃ v, e = .returned (.tuple #[v, .int .i64 0]) ∧ w'.ownsRow w.heap.size 77 1 v m (numsL B ns m) ∧ Keeps (One rb) w w' ∧ Rst w' rb g (offN ns m) (len - offN ns m) B := by
  obtain ⟨i0, hii, hz0, hz1, hz2⟩ := info_parts infoU64
  have hrb := h.lt
  have HI := Lib.hid hi
  have HN := Lib.hid hn
  have HB := Lib.hid hB
  have HLE := Lib.hid hle
  have H := Lib.hid h
  clear hi hn hB hle h
  go_enter Try.func56, Try.ntmps56
  go_wp2_with fail
  go_loopw [4, 12] (fun o i wr => ∃ k : Nat, k ≤ m ∧ i = .int .i64 k ∧ wr.ownsRow w.heap.size 77 1 o k (numsL B ns k) ∧ Keeps (One rb) w wr ∧ Rst wr rb g (offN ns k) (len - offN ns k) B) (fun _ i _ => m - (intOf i).toNat)
  case atStart => exact ⟨0, Nat.zero_le _, rfl, World.ownsRow_nil _ _ _ _, Keeps.refl _ _, H.out⟩
  case round =>
    obtain ⟨k, hk, rfl, ho, hkp, hr⟩ := hrel
    have HO := Lib.hid ho
    have HK := Lib.hid hkp
    have HR := Lib.hid hr
    have hbs := hkp.size
    clear ho hkp hr
    by_cases hlt : k < m
    · have c0 := HK.out.cell (HI.out k hlt) (fun e => hne e.symm)
      obtain ⟨n1, n2⟩ := HN.out k
      have hl2 := HLE.out k hlt
      obtain ⟨n, hn⟩ : ∃ n, n = ns k := ⟨_, rfl⟩
      rw [← hn] at c0 n1 n2 hl2
      have HNK := Lib.hid hn
      clear hn
      go_wp2_with fail
      refine (field_ok rb g (offN ns k) (len - offN ns k) n B _ HB.out HR.out n1 n2 (by omega) (by omega) (by omega)).mono ?_
      rintro e w1 ⟨q, rfl, hk1, hr1, hq, hc1⟩
      have hs1 : w.heap.size ≤ w1.heap.size := Nat.le_trans hbs hk1.size
      have HO1 : Hid (w1.ownsRow w.heap.size 77 1 u4 k (numsL B ns k)) := Lib.hid (HO.out.kept (row := some rb) ⟨hk1.os, hk1.tape, hk1.output, hk1.size, fun j hj hne => hk1.block j hj (fun e => hne (by rw [show j = rb from e]))⟩ (by
        cases hvo : u4.ownBlock with
        | none => exact .inl rfl
        | some q => exact .inr (fun e => by cases e; have := (HO.out.lt rb hvo).1; omega)))
      have HK1 := Lib.hid (HK.out.trans (hk1.mono (fun _ _ h => h)))
      have HR1 := Lib.hid hr1
      have HC1 := Lib.hid hc1
      clear hk1 hr1 hc1 c0
      go_wp2_with (at_builtin; go_loud (refine wpList_append_own _ rfl _ _ 88 rfl w.heap.size 77 i0 (.int .u64 0) 1 8 Try.underlying88 hii hz0 hz1 hz2 rfl (by decide) _ _ (numsL B ns k) rfl HO1.out ⟨q, 0, none⟩ 1 1 [.int .u64 (le B (offN ns k) n)] rfl rfl (fun j u hu => by cases j with | zero => cases hu; exact HC1.out | succ j => cases hu) (by intro u hu; cases List.mem_singleton.1 hu; rfl) (by unfold maxLen; omega) (by omega) hs1 ?_); intro o' w2 hown hgr hnil)
      have HG := Lib.hid hgr
      have HO2 := Lib.hid hown
      have hK2 : Keeps (One rb) w w2 := ((HK1.out.mono (T := fun j => One rb j ∨ some j = u4.ownBlock) (fun _ _ h => .inl h)).trans ⟨hgr.os, hgr.tape, hgr.output, hgr.size, fun j hj hS => hgr.block j hj (fun e => hS (.inr e))⟩).mono (fun j hj hS => hS.elim id (fun e => by have := (HO1.out.lt j e.symm).1; omega))
      have hR2 : Rst w2 rb g (offN ns k + n) (len - offN ns k - n) B := HR1.out.kept (S := fun j => some j = u4.ownBlock) ⟨hgr.os, hgr.tape, hgr.output, hgr.size, fun j hj hS => hgr.block j hj hS⟩ (fun e => by have := (HO1.out.lt rb e.symm).1; omega) (fun e => by have := (HO1.out.lt g e.symm).1; omega)
      have HK2 := Lib.hid hK2
      have HR2 := Lib.hid hR2
      clear hown hgr hnil hK2 hR2
      go_wp2_with fail
      go_roundw
      case rel =>
        refine ⟨k + 1, by omega, by go_num, ?_, HK2.out, ?_⟩
        · have h := HO2.out
          rw [HNK.out] at h
          exact h
        · have h := HR2.out
          rw [HNK.out] at h
          show Rst _ rb g (offN ns k + ns k) (len - (offN ns k + ns k)) B
          rw [← Nat.sub_sub]; exact h
      case measure => simp [intOf]; omega
    · obtain rfl : k = m := by omega
      go_wp2_with fail
      go_ret2
      exact ⟨_, rfl, HO.out, HK.out, HR.out⟩

theorem Rst.fresh (W : World) (g n cap : Nat) (ad : Addr) (B : Nat → Int) (t : TypeId) (hc : n ≤ cap) (hc' : cap ≤ 9223372036854775807) (ha : 0 < n → ad = ⟨g, 0, none⟩) (hg : g < W.heap.size) (h : ∀ j, j < n → W.cell? ⟨g, j, none⟩ = some (.int .u8 (B j))) :
    Rst (W.alloc (.cells #[.slice (some ad) n cap, .int .i64 0] t)) W.heap.size g 0 n B := by
  refine ⟨⟨ad, cap, by go_simp, hc, hc', ha⟩, by go_simp, by go_simp, by go_simp, fun j hj => ?_, by omega⟩
  have k : Keeps (fun _ => False) W (W.alloc (.cells #[.slice (some ad) n cap, .int .i64 0] t)) := (Keeps.refl _ _).alloc _
  rw [Nat.zero_add]
  exact k.cell (h j hj) (fun e => e)

set_option maxRecDepth 100000 in
set_option maxHeartbeats 2000000 in
theorem newReader_ok (n c : Nat) (ad : Addr) (B : Nat → Int) (w : World) (h0 : 1 ≤ n) (hn : n ≤ 1000) (h : ∀ j, j < n → w.cell? (ad.add j) = some (.int .u8 (B j))) :
   Calls Try.prog 41 #[.slice (some ad) n c] w fun e w' => ∃ rb g, e = .returned (.pointer (some ⟨rb, 0, none⟩)) ∧ Rst w' rb g 0 n B ∧ Below w.heap.size w w' ∧ w.heap.size ≤ rb ∧ w.heap.size ≤ g := by
  have H := Lib.hid h
  clear h
  go_enter Try.func41, Try.ntmps41
  go_wp2_with fail
  refine (clone_row n c ad ((List.range n).map fun j => .int .u8 (B j)) w (by simp) (fun j u hu => ?_) (fun u hu => ?_) (by omega)).mono ?_
  · have hj : j < n := by simpa using (List.getElem?_eq_some_iff.1 hu).1
    have : u = .int .u8 (B j) := by simp [hj] at hu; exact hu.symm
    rw [this]; exact H.out j hj
  · obtain ⟨j, -, rfl⟩ := List.mem_map.1 hu
    rfl
  rintro e w1 ⟨v, rfl, ⟨g, cap, F, rfl, hg, hr, hc, hc', hx⟩, hb⟩
  have HR := Lib.hid hr
  have HX := Lib.hid hx
  have HB := Lib.hid hb
  have hbs := hb.size
  clear hr hx hb
  go_wp2_with fail
  go_ret
  have hgl : g < w1.heap.size := World.block_lt_of_cell? _ _ (HR.out.cell (i := 0) (by omega))
  refine ⟨_, g, rfl, Rst.fresh w1 g n cap ⟨g, 0, none⟩ B _ hc hc' (fun _ => rfl) hgl (fun j hj => ?_), HB.out.alloc hbs _, hbs, hg⟩
  have h1 := HX.out j hj
  simp only [List.getElem?_map, List.getElem?_range hj, Option.map_some] at h1
  rw [HR.out.cell (i := j) (by omega), Option.some.inj h1]

theorem rstate_ok (rb : Nat) (w : World) : Calls Try.prog 55 #[.pointer (some ⟨rb, 0, none⟩)] w fun e w' => e = .returned (.pointer (some ⟨rb, 0, none⟩)) ∧ w = w' := by
  go_enter Try.func55, Try.ntmps55
  go_wp2_with fail
  go_ret
  exact ⟨rfl, rfl⟩

set_option maxRecDepth 100000 in
set_option maxHeartbeats 2000000 in
theorem rAll_ok (rb g gi m c len : Nat) (ns : Nat → Nat) (B : Nat → Int) (w : World) (hm0 : 0 < m) (hB : ∀ j, 0 ≤ B j ∧ B j ≤ 255) (h : Rst w rb g 0 len B) (hm : m ≤ 100) (hi : ∀ i, i < m → w.cell? ⟨gi, i, none⟩ = some (.int .i64 (ns i))) (hn : ∀ i, 1 ≤ ns i ∧ ns i ≤ 8) (hle : ∀ k, k < m → offN ns k + ns k ≤ len) (hl : len ≤ 1000) (hg : g < w.heap.size) (hgi : gi < w.heap.size) :
   Calls Try.prog 42 #[.pointer (some ⟨rb, 0, none⟩), .slice (some ⟨gi, 0, none⟩) m c] w fun e w' =>
     ∃ q cq, e = .returned (.tuple #[.slice (some ⟨q, 0, none⟩) m cq, .int .i64 0]) ∧ w.heap.size ≤ q ∧ m ≤ cq ∧ (∀ i, i < m → w'.cell? ⟨q, i, none⟩ = some (.int .u64 (le B (offN ns i) (ns i)))) ∧ Keeps (One rb) w w' := by
  have hrb := h.lt
  have HI := Lib.hid hi
  have HN := Lib.hid hn
  have HB := Lib.hid hB
  have HLE := Lib.hid hle
  have H := Lib.hid h
  obtain ⟨ad, cap, hs, hc, hc', had⟩ := h.ex
  have ha := h.at'
  have HAD := Lib.hid had
  clear hi hn hB hle h had
  go_enter Try.func42, Try.ntmps42
  go_wp2_with fail
  refine (rstate_ok rb w).mono ?_
  rintro e w1 ⟨rfl, rfl⟩
  go_wp2_with fail
  refine (each_int_ok w.heap.size g gi m c len ns B _ HB.out (Rst.fresh w g len cap ad B _ hc hc' HAD.out hg (fun j hj => by have := H.out.src j hj; rw [Nat.zero_add] at this; exact this)) hm (fun i hi => ((Keeps.refl (fun _ => False) w).alloc _).cell (HI.out i hi) (fun e => e)) HN.out HLE.out hl (by omega) (by simp; omega)).mono ?_
  rintro e w1 ⟨v, rfl, ho, hk, hr⟩
  obtain ⟨ad2, cap2, hs2, -⟩ := hr.ex
  have ha2 := hr.at'
  have k1 : Keeps (fun _ => False) w w1 := (((Keeps.refl _ _).alloc _).trans hk).mono (fun j hj e => by have e : j = w.heap.size := e; omega)
  have hc0 := k1.cell hs (fun e => e)
  have hc1 := k1.cell ha (fun e => e)
  have hf0 := k1.frozen' (p := ⟨rb, 0, none⟩) hrb (fun e => e) H.out.fr
  have hf1 := k1.frozen' (p := ⟨rb, 1, none⟩) hrb (fun e => e) H.out.fr1
  have HO := Lib.hid ho
  have K1 := Lib.hid k1
  have hks := hk.size
  clear ho k1 hk hr
  go_wp2_with fail
  go_ret2
  obtain ⟨q, cap3, rfl, hq, hmc⟩ : ∃ q cap3, v = .slice (some ⟨q, 0, none⟩) m cap3 ∧ w.heap.size ≤ q ∧ m ≤ cap3 := by
    obtain ⟨-, h2⟩ := HO.out
    rcases h2 with ⟨e2, hn⟩ | ⟨g', cap, cur, e2, h3, -, h4, -⟩
    · omega
    · exact ⟨g', cap, e2, by simp at h3; omega, h4⟩
  refine ⟨q, cap3, rfl, hq, hmc, fun i hi => ?_, ((K1.out.mono (T := One rb) (fun _ _ e => e.elim)).set1 _ _).set1 _ _⟩
  have h2 : w1.cell? ⟨q, i, none⟩ = some (.int .u64 (le B (offN ns i) (ns i))) := by
    rw [HO.out.cellAt i (by omega)]
    exact numsL_get B ns m i hi
  have k2 : Keeps (One rb) w1 ((w1.setCell ⟨rb, 0, none⟩ (.slice (some ad2) (len - offN ns m) cap2)).setCell ⟨rb, 1, none⟩ (.int .i64 (offN ns m))) := ((Keeps.refl _ _).set1 _ _).set1 _ _
  exact k2.cell h2 (fun e => by have e : q = rb := e; omega)
end Go.Proofs.Ytiinjjfggmmkmaa
