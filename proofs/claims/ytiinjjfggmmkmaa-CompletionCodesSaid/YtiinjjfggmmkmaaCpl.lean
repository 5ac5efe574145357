/- completion: Encode. -/
import Derived.Test.YtiinjjfggmmkmaaCmdR
import Derived.BigQuiet
import Derived.Deep.QuietTactic
import Derived.Deep.CutRange
namespace Go.Proofs.Ytiinjjfggmmkmaa
set_option linter.unusedVariables false
set_option linter.unusedSimpArgs false
open Go.RowKit

/-- A completion. -/
structure Cpl where
  r0 : Int
  r1 : Int
  head : Int
  queue : Int
  id : Int
  ph : Bool
  ty : Int
  code : Int
  more : Bool
  never : Bool

def Cpl.cells (c : Cpl) : Array Value := #[.int .u32 c.r0, .int .u32 c.r1, .int .u16 c.head, .int .u16 c.queue, .int .u16 c.id, .bool c.ph, .int .u8 c.ty, .int .u8 c.code, .bool c.more, .bool c.never]
def Cpl.v (c : Cpl) : Value := .agg c.cells
structure Cpl.Ok (c : Cpl) : Prop where
  r0 : 0 ≤ c.r0 ∧ c.r0 ≤ 4294967295
  r1 : 0 ≤ c.r1 ∧ c.r1 ≤ 4294967295
  head : 0 ≤ c.head ∧ c.head ≤ 65535
  queue : 0 ≤ c.queue ∧ c.queue ≤ 65535
  id : 0 ≤ c.id ∧ c.id ≤ 65535
  ty : 0 ≤ c.ty ∧ c.ty ≤ 255
  code : 0 ≤ c.code ∧ c.code ≤ 255

/-- a bit's number -/
def bv (b : Bool) (c : Int) : Int := if b then c else 0
theorem bv_bd (b : Bool) (c : Int) (h : 0 ≤ c) : 0 ≤ bv b c ∧ bv b c ≤ c := by
  unfold bv; split <;> omega

set_option maxHeartbeats 1000000 in
theorem bit0 (b : Bool) (w : World) : Calls Try.prog 35 #[.bool b, .int .i64 0] w fun e w' => e = .returned (.int .u64 (bv b 1)) ∧ w' = w := by
  cases b <;> (go_enter Try.func35, Try.ntmps35; go_wp2; go_ret; exact ⟨rfl, rfl⟩)
set_option maxHeartbeats 1000000 in
theorem bit14 (b : Bool) (w : World) : Calls Try.prog 35 #[.bool b, .int .i64 14] w fun e w' => e = .returned (.int .u64 (bv b 16384)) ∧ w' = w := by
  cases b <;> (go_enter Try.func35, Try.ntmps35; go_wp2; go_ret; exact ⟨rfl, rfl⟩)
set_option maxHeartbeats 1000000 in
theorem bit15 (b : Bool) (w : World) : Calls Try.prog 35 #[.bool b, .int .i64 15] w fun e w' => e = .returned (.int .u64 (bv b 32768)) ∧ w' = w := by
  cases b <;> (go_enter Try.func35, Try.ntmps35; go_wp2; go_ret; exact ⟨rfl, rfl⟩)

set_option maxHeartbeats 1000000 in
theorem addall1_ok (v : Int) (n : Nat) (w : World) (h1 : 1 ≤ n) (h8 : n ≤ 8) (hv : 0 ≤ v) (hv' : v ≤ 18446744073709551615) (hs : n = 8 ∨ (n < 8 ∧ v / 2 ^ (8 * n) = 0)) :
   Calls Try.prog 51 #[.agg #[.int .u64 v, .int .i64 n]] w fun e w' => ∃ g, e = .returned (.tuple #[.slice (some ⟨g, 0, none⟩) n n, .int .i64 0]) ∧ w.heap.size ≤ g ∧ Below w.heap.size w w' ∧ w'.rowIs g 5 n (fun j => .int .u8 (byteOf v j)) := by
  have HS := Lib.hid hs
  clear hs
  go_enter Try.func51, Try.ntmps51
  go_wp2_with fail
  refine (put_ok v n _ h1 h8 hv hv' HS.out).mono ?_
  rintro e w1 ⟨g, rfl, hg, hb, hr⟩
  have HR := Lib.hid hr
  clear hr
  go_wp2_with fail
  go_ret2
  exact ⟨g, rfl, by simp at hg; omega, ((Below.refl _ w).alloc (Nat.le_refl _) _).trans (hb.mono (by simp)), HR.out⟩

/-- the bytes of k fields -/
def flatV (vs : Nat → Int) (ns : Nat → Nat) : Nat → List Value
  | 0 => []
  | k + 1 => flatV vs ns k ++ bytesL (vs k) (ns k)
theorem flatV_one (vs : Nat → Int) (ns : Nat → Nat) (m : Nat) : ∀ u ∈ flatV vs ns m, u.oneCell' = true := by
  induction m with
  | zero => intro u hu; cases hu
  | succ m ih =>
    intro u hu
    rcases List.mem_append.1 hu with h | h
    · exact ih u h
    · exact bytesL_one _ _ u h
theorem flatV_len (vs : Nat → Int) (ns : Nat → Nat) (h : ∀ i, ns i ≤ 8) (m : Nat) : (flatV vs ns m).length ≤ 8 * m := by
  induction m with
  | zero => exact Nat.le_refl _
  | succ m ih => unfold flatV; rw [List.length_append, bytesL_length]; have := h m; omega

set_option maxRecDepth 100000 in
set_option maxHeartbeats 2000000 in
theorem each_ok (gs m c : Nat) (vs : Nat → Int) (ns : Nat → Nat) (w : World) (hm : m ≤ 100) (hc : ∀ i, i < m → w.cell? ⟨gs, i * 2, none⟩ = some (.int .u64 (vs i)) ∧ w.cell? ⟨gs, i * 2 + 1, none⟩ = some (.int .i64 (ns i)))
    (hn : ∀ i, 1 ≤ ns i ∧ ns i ≤ 8) (hv : ∀ i, 0 ≤ vs i ∧ vs i ≤ 18446744073709551615 ∧ (ns i = 8 ∨ (ns i < 8 ∧ vs i / 2 ^ (8 * ns i) = 0))) :
   Calls Try.prog 50 #[.slice (some ⟨gs, 0, none⟩) m c, .func (.func 51) #[] #[]] w fun e w' =>
     ∃ v, e = .returned (.tuple #[v, .int .i64 0]) ∧ w'.ownsRow w.heap.size 5 1 v (flatV vs ns m).length (flatV vs ns m) ∧ Below w.heap.size w w' := by
  obtain ⟨i0, hi, hz0, hz1, hz2⟩ := info_parts infoU8
  have HC := Lib.hid hc
  have HN := Lib.hid hn
  have HV := Lib.hid hv
  clear hc hn hv
  go_enter Try.func50, Try.ntmps50
  go_wp2_with fail
  go_loopw [4, 12] (fun o i wr => ∃ k : Nat, k ≤ m ∧ i = .int .i64 k ∧ wr.ownsRow w.heap.size 5 1 o (flatV vs ns k).length (flatV vs ns k) ∧ Below w.heap.size w wr) (fun _ i _ => m - (intOf i).toNat)
  case atStart => exact ⟨0, Nat.zero_le _, rfl, World.ownsRow_nil _ _ _ _, Below.refl _ _⟩
  case round =>
    obtain ⟨k, hk, rfl, ho, hb⟩ := hrel
    have HO := Lib.hid ho
    have HB := Lib.hid hb
    clear ho hb
    by_cases hlt : k < m
    · obtain ⟨q0, q1⟩ := HC.out k hlt
      have c0 := (HB.out.cell (World.block_lt_of_cell? _ _ q0)).trans q0
      have c1 := (HB.out.cell (World.block_lt_of_cell? _ _ q1)).trans q1
      obtain ⟨n1, n2⟩ := HN.out k
      obtain ⟨v1, v2, v3⟩ := HV.out k
      obtain ⟨v, hv⟩ : ∃ v, v = vs k := ⟨_, rfl⟩
      obtain ⟨n, hn⟩ : ∃ n, n = ns k := ⟨_, rfl⟩
      have hbs := HB.out.size
      have hfl := flatV_len vs ns (fun i => (HN.out i).2) k
      rw [← hv] at c0 v1 v2 v3
      rw [← hn] at c1 n1 n2 v3
      have HVK := Lib.hid hv
      have HNK := Lib.hid hn
      have HV3 := Lib.hid v3
      clear q0 q1 hv hn v3
      go_wp2_with fail
      refine (addall1_ok v n _ n1 n2 v1 v2 HV3.out).mono ?_
      rintro e w1 ⟨g1, rfl, hg1, hb1, hr1⟩
      have hb1' : Below w.heap.size w w1 := (HB.out.alloc HB.out.size _).trans (hb1.mono (by simp; omega))
      have HB1 := Lib.hid hb1'
      have HR1 := Lib.hid hr1
      have HO1 : Hid (w1.ownsRow w.heap.size 5 1 u4 (flatV vs ns k).length (flatV vs ns k)) := Lib.hid ((HO.out.alloc _).kept (row := none) ⟨hb1.os, hb1.tape, hb1.output, hb1.size, fun j hj _ => hb1.block j hj⟩ (by cases u4.ownBlock <;> simp))
      have hs1 := hb1'.size
      clear hb1 hr1 hb1' c0 c1
      go_wp2_with (at_builtin; go_loud (refine wpList_append_own _ rfl _ _ 66 rfl w.heap.size 5 i0 (.int .u8 0) 1 1 Try.underlying66 hi hz0 hz1 hz2 rfl (by decide) _ _ (flatV vs ns k) rfl HO1.out ⟨g1, 0, none⟩ n n (bytesL v n) rfl (by rw [bytesL_length, Nat.mul_one]) (fun j u hu => by have hj : j < n := (by rw [← bytesL_length v n]; exact (List.getElem?_eq_some_iff.1 hu).1); rw [bytesL_get v n j hj] at hu; cases hu; rw [Addr.add_mid, Nat.zero_add]; exact HR1.out.cell hj) (bytesL_one v n) (by unfold maxLen; omega) (by omega) hs1 ?_); intro o' w2 hown hgr hnil)
      have hO2 := Lib.hid hown
      have hB2 := Lib.hid (HB1.out.grown hgr hs1 (fun q e => (HO1.out.lt q e).1))
      clear hown hgr hnil
      go_wp2_with fail
      go_roundw
      case rel =>
        refine ⟨k + 1, by omega, by go_num, ?_, hB2.out⟩
        have h := hO2.out
        rw [HVK.out, HNK.out] at h
        unfold flatV
        rw [List.length_append, bytesL_length]
        exact h
      case measure => simp [intOf]; omega
    · obtain rfl : k = m := by omega
      go_wp2_with fail
      go_ret2
      exact ⟨_, rfl, HO.out, HB.out⟩

set_option maxRecDepth 100000 in
set_option maxHeartbeats 2000000 in
theorem addall_ok (P : Nat → Prop) (g gs m c : Nat) (vs : Nat → Int) (ns : Nat → Nat) (xs : List Value) (w : World) (h : Wr P g w xs) (hm : m ≤ 100) (hm0 : 0 < (flatV vs ns m).length) (hc : ∀ i, i < m → w.cell? ⟨gs, i * 2, none⟩ = some (.int .u64 (vs i)) ∧ w.cell? ⟨gs, i * 2 + 1, none⟩ = some (.int .i64 (ns i)))
    (hn : ∀ i, 1 ≤ ns i ∧ ns i ≤ 8) (hv : ∀ i, 0 ≤ vs i ∧ vs i ≤ 18446744073709551615 ∧ (ns i = 8 ∨ (ns i < 8 ∧ vs i / 2 ^ (8 * ns i) = 0))) (hx : xs.length ≤ 1000) :
   Calls Try.prog 36 #[.pointer (some ⟨g, 0, none⟩), .slice (some ⟨gs, 0, none⟩) m c] w fun e w' => e = .returned (.int .i64 0) ∧ Keeps (fun k => ¬ P k) w w' ∧ Wr P g w' (xs ++ flatV vs ns m) := by
  have H := Lib.hid h
  have HC := Lib.hid hc
  have HN := Lib.hid hn
  have HV := Lib.hid hv
  have hfl := flatV_len vs ns (fun i => (hn i).2) m
  clear h hc hn hv
  go_enter Try.func36, Try.ntmps36
  go_wp2_with fail
  refine (each_ok gs m c vs ns w hm HC.out HN.out HV.out).mono ?_
  rintro e w1 ⟨v, rfl, ho, hb1⟩
  obtain ⟨g1, cap, F, rfl, hg1, hr, hcc, hc', hx1⟩ := newL_of_owns ho (by
    intro e
    obtain ⟨-, h2⟩ := ho
    rcases h2 with ⟨e2, hn⟩ | ⟨g', cap, cur, e2, -⟩
    · omega
    · rw [e] at e2; cases e2) rfl
  have HR := Lib.hid hr
  have HX := Lib.hid hx1
  have HB1 := Lib.hid hb1
  have H1 := Lib.hid ((H.out.more hb1))
  clear ho hb1 hr hx1
  go_wp2_with fail
  refine (wadd_ok _ g xs (flatV vs ns m) ⟨g1, 0, none⟩ (flatV vs ns m).length cap w1 H1.out rfl (fun j u hu => ?_) (flatV_one vs ns m) (by omega)).mono ?_
  · have hj : j < (flatV vs ns m).length := (List.getElem?_eq_some_iff.1 hu).1
    rw [HX.out j hj] at hu
    cases hu
    rw [Addr.add_mid, Nat.zero_add]
    exact HR.out.cell (by omega)
  rintro e w2 ⟨rfl, hk2, hw2⟩
  go_wp2_with fail
  go_ret
  exact ⟨rfl, (Keeps.of_below HB1.out).trans (hk2.mono (fun k _ hk hP => hk (.inl hP))), hw2.less (fun k hk => .inl hk)⟩

theorem u64_or_shift (a b : Int) (k : Nat) (ha : 0 ≤ a) (ha' : a < 2 ^ k) (hb : 0 ≤ b) (h1 : a ≤ 18446744073709551615) (h2 : b * 2 ^ k ≤ 18446744073709551615) : bits .or .u64 a (b * 2 ^ k) = a + b * 2 ^ k := by
  have m1 : 0 ≤ b * 2 ^ k := Int.mul_nonneg hb (Int.le_of_lt (Int.pow_pos (by omega)))
  obtain ⟨x, rfl⟩ := Int.eq_ofNat_of_zero_le ha
  obtain ⟨y, rfl⟩ := Int.eq_ofNat_of_zero_le hb
  have e : (y : Int) * 2 ^ k = ((y <<< k : Nat) : Int) := by rw [Nat.shiftLeft_eq]; push_cast; rfl
  rw [e] at m1 h2 ⊢
  have hx : x < 2 ^ k := by
    have : ((x : Nat) : Int) < ((2 ^ k : Nat) : Int) := by push_cast; exact ha'
    exact Int.ofNat_lt.1 this
  rw [u64_or _ _ (by omega) (by omega) (by omega) (by omega)]
  have h := Nat.shiftLeft_add_eq_or_of_lt hx y
  rw [Nat.or_comm] at h
  simp only [Int.toNat_natCast]
  omega

/-- the word of a status -/
def sword (c : Cpl) : Int := bv c.ph 1 + c.code * 2 + c.ty * 512 + bv c.more 16384 + bv c.never 32768

theorem or_sword (ph : Bool) (code ty : Int) (more never : Bool) (h1 : 0 ≤ code ∧ code ≤ 255) (h2 : 0 ≤ ty ∧ ty ≤ 7) :
    bits .or .u64 (bits .or .u64 (bits .or .u64 (bits .or .u64 (bv ph 1) (code * 2)) (ty * 512)) (bv more 16384)) (bv never 32768) = bv ph 1 + code * 2 + ty * 512 + bv more 16384 + bv never 32768 := by
  have b1 := bv_bd ph 1 (by omega)
  have b2 := bv_bd more 1 (by omega)
  have b3 := bv_bd never 1 (by omega)
  have m1 : bv more 16384 = bv more 1 * 2 ^ 14 := by cases more <;> rfl
  have m2 : bv never 32768 = bv never 1 * 2 ^ 15 := by cases never <;> rfl
  have p1 : (2 : Int) ^ 1 = 2 := rfl
  have p9 : (2 : Int) ^ 9 = 512 := rfl
  have p14 : (2 : Int) ^ 14 = 16384 := rfl
  have p15 : (2 : Int) ^ 15 = 32768 := rfl
  have e1 := u64_or_shift (bv ph 1) code 1 (by omega) (by omega) h1.1 (by omega) (by omega)
  have e2 := u64_or_shift (bv ph 1 + code * 2) ty 9 (by omega) (by omega) h2.1 (by omega) (by omega)
  have e3 := u64_or_shift (bv ph 1 + code * 2 + ty * 512) (bv more 1) 14 (by omega) (by omega) (by omega) (by omega) (by omega)
  have e4 := u64_or_shift (bv ph 1 + code * 2 + ty * 512 + bv more 1 * 2 ^ 14) (bv never 1) 15 (by omega) (by omega) (by omega) (by omega) (by omega)
  rw [m1, m2]
  rw [p1] at e1
  rw [p9] at e2
  rw [e1, e2, e3, e4]

def z16 : Nat → Value := fun _ => .int .u8 0
theorem zero16 (w : World) : (zeroValue 41).run Try.prog w = .ok (.agg (arr 16 z16)) w := by kernel_rfl
theorem size16 : (Try.prog.info? 41).map (·.size) = some 16 := by kernel_rfl
theorem z16_one : (arr 16 z16).all (·.oneCell') = true := arr_one fun _ _ => rfl
theorem results16 {f : Func} (hf : f.results = #[.cell 2 41, .tmp 3]) (tmps : Array Value) (w : World) (ab ty : Nat) (G : Nat → Value) (e : Value) (h : w.rowIs ab ty 16 G) (h2 : tmps.getD 2 undef = .pointer (some ⟨ab, 0, none⟩)) (h3 : tmps.getD 3 undef = e) :
    (results f tmps).run Try.prog w = .ok (.tuple #[.agg (arr 16 G), e]) w := by
  rw [results_cell_tmp (p := 2) (u := 3) (ty := 41) hf, h2, h3]
  have hl := run_loadVar_mid (P := Try.prog) w ab 0 41 (arr 16 G).toList _ (rowIs_range0 h) Try.underlying41 rfl (by rw [size16]; simp [arr])
  simp only [asAddr, Sem.run_pure, Result.andThen_ok, hl, Array.toArray_toList]

/-- The two blocks that Encode makes first. -/
theorem pencode_start (c : Cpl) (w W : World) (hW : W = (w.alloc (.cells c.cells 40)).alloc (.cells (arr 16 z16) 41)) :
    W.rowIs w.heap.size 40 10 (fun i => c.cells.getD i undef) ∧ W.rowIs (w.heap.size + 1) 41 16 z16 ∧ Below w.heap.size w W ∧ W.heap.size = w.heap.size + 2 := by
  subst hW
  have e1 : (w.alloc (.cells c.cells 40)).heap.size = w.heap.size + 1 := by simp
  refine ⟨?_, ?_, ((Below.refl _ _).alloc (Nat.le_refl _) _).alloc (by simp) _, by simp⟩
  · refine World.rowIs.alloc ?_ _
    have := World.rowIs_alloc w c.cells 40 (fun i => c.cells.getD i undef) (fun i hi => by
      simp only [Array.getD_eq_getD_getElem?]
      rw [Array.getElem?_eq_getElem hi]; rfl)
    exact this
  · have := rowIs_arr (w.alloc (.cells c.cells 40)) 41 16 z16
    rw [e1] at this
    exact this
end Go.Proofs.Ytiinjjfggmmkmaa
