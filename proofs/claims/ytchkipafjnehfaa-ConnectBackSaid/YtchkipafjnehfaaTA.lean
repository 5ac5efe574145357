/- connect: the connect data: its fields, its bytes, the plain law. -/
import Derived.Test.YtchkipafjnehfaaName2
import Derived.Test.YtchkipafjnehfaaEq
import Derived.Test.YtchkipafjnehfaaRow
namespace Go.Proofs.Ytchkipafjnehfaa
set_option linter.unusedVariables false
set_option linter.unusedSimpArgs false
open Go.RowKit

/-- Connect data. -/
structure Dat where
  host : Nat → Int
  ctl : Int
  sub : ByteArray
  hst : ByteArray
structure Dat.Ok (d : Dat) : Prop where
  h : ∀ j, 0 ≤ d.host j ∧ d.host j ≤ 255
  c : 0 ≤ d.ctl ∧ d.ctl ≤ 65535
  s : d.sub.size ≤ 9223372036854775807
  t : d.hst.size ≤ 9223372036854775807

/-- Its cells. -/
def dcell (d : Dat) (j : Nat) : Value := if j < 16 then .int .u8 (d.host j) else if j = 16 then .int .u16 d.ctl else if j = 17 then .string d.sub else .string d.hst
def Dat.v (d : Dat) : Value := .agg (arr 19 (dcell d))
def DatAt (w : World) (b : Nat) (d : Dat) : Prop := w.rowIs b 69 19 (dcell d)
theorem dcell_one (d : Dat) (j : Nat) : (dcell d j).oneCell' = true := by
  unfold dcell
  (repeat' split) <;> rfl
/-- The zero one. -/
def D0 : Dat := ⟨fun _ => 0, 0, ⟨#[]⟩, ⟨#[]⟩⟩
theorem D0_ok : D0.Ok := ⟨fun _ => ⟨Int.le_refl 0, show (0 : Int) ≤ 255 by omega⟩, ⟨Int.le_refl 0, show (0 : Int) ≤ 65535 by omega⟩, Nat.zero_le _, Nat.zero_le _⟩
theorem D0_v : D0.v = .agg #[.int .u8 0, .int .u8 0, .int .u8 0, .int .u8 0, .int .u8 0, .int .u8 0, .int .u8 0, .int .u8 0, .int .u8 0, .int .u8 0, .int .u8 0, .int .u8 0, .int .u8 0, .int .u8 0, .int .u8 0, .int .u8 0, .int .u16 0, .string ⟨#[]⟩, .string ⟨#[]⟩] := rfl
theorem DatAt.fresh (w : World) (d : Dat) : DatAt (w.alloc (.cells (arr 19 (dcell d)) 69)) w.heap.size d := rowIs_arr w _ 19 _

/-- its host's number is 0 -/
def hz (d : Dat) : Bool := (List.range 16).all fun i => d.host i == 0
def vDat (d : Dat) : Bool := vName d.sub && (vName d.hst && !hz d)

/-- byte j of a string -/
def sb (s : ByteArray) (j : Nat) : Int := if h : j < s.size then ((s[j]'h).toNat : Int) else 0
theorem sb_get (s : ByteArray) (j : Nat) (h : j < s.size) : sb s j = ((s[j]'h).toNat : Int) := dif_pos h
theorem sb_bd (s : ByteArray) (j : Nat) : 0 ≤ sb s j ∧ sb s j ≤ 255 := by
  unfold sb
  split
  · rename_i h
    have := (s[j]'h).toNat_lt
    omega
  · omega

/-- the encoding -/
def dB (d : Dat) (j : Nat) : Int :=
  if j < 16 then d.host j else if j = 16 then d.ctl % 256 else if j = 17 then d.ctl / 256 else if 256 ≤ j ∧ j < 256 + d.sub.size then sb d.sub (j - 256)
  else if 512 ≤ j ∧ j < 512 + d.hst.size then sb d.hst (j - 512) else 0
/-- its first m and n bytes of the names -/
def dP (d : Dat) (m n j : Nat) : Int :=
  if j < 16 then d.host j else if j = 16 then d.ctl % 256 else if j = 17 then d.ctl / 256 else if 256 ≤ j ∧ j < 256 + m then sb d.sub (j - 256)
  else if 512 ≤ j ∧ j < 512 + n then sb d.hst (j - 512) else 0
theorem dP_dB (d : Dat) : dP d d.sub.size d.hst.size = dB d := rfl
theorem dB_bd {d : Dat} (h : d.Ok) (j : Nat) : 0 ≤ dB d j ∧ dB d j ≤ 255 := by
  have h1 := h.h j
  have h2 := h.c
  have h3 := sb_bd d.sub (j - 256)
  have h4 := sb_bd d.hst (j - 512)
  unfold dB
  (repeat' split) <;> omega

/-- The string of n bytes. -/
def strOf (n : Nat) (f : Nat → Int) : ByteArray := ⟨((List.range n).map fun i => UInt8.ofNat (f i).toNat).toArray⟩
theorem strOf_size (n : Nat) (f : Nat → Int) : (strOf n f).size = n := by simp [strOf, ByteArray.size]
theorem strOf_congr {n : Nat} {f g : Nat → Int} (h : ∀ i, i < n → f i = g i) : strOf n f = strOf n g := by
  unfold strOf
  congr 2
  exact List.map_congr_left fun i hi => by rw [h i (List.mem_range.1 hi)]
theorem strOf_get (n : Nat) (f : Nat → Int) (j : Nat) (h : j < (strOf n f).size) : (strOf n f)[j]'h = UInt8.ofNat (f j).toNat := by
  show (strOf n f).data[j]'h = _
  simp [strOf]
theorem strOf_sb (n : Nat) (f : Nat → Int) (hf : ∀ i, 0 ≤ f i ∧ f i ≤ 255) (j : Nat) (h : j < n) : sb (strOf n f) j = f j := by
  have h' : j < (strOf n f).size := by rw [strOf_size]; exact h
  rw [sb_get _ _ h', strOf_get]
  have := hf j
  have e : (UInt8.ofNat (f j).toNat).toNat = (f j).toNat % 256 := UInt8.toNat_ofNat
  rw [e]
  omega
theorem strOf_self (s : ByteArray) : strOf s.size (sb s) = s := by
  apply ByteArray.ext
  apply Array.ext
  · exact strOf_size _ _
  · intro i h1 h2
    have e : (strOf s.size (sb s)).data[i]'h1 = UInt8.ofNat (sb s i).toNat := strOf_get s.size (sb s) i h1
    rw [e, sb_get s i h2]
    show UInt8.ofNat ((s.data[i]'h2).toNat : Int).toNat = s.data[i]'h2
    rw [Int.toNat_natCast]
    exact UInt8.ofNat_toNat
theorem strOf_inj {n : Nat} {f g : Nat → Int} (hf : ∀ i, 0 ≤ f i ∧ f i ≤ 255) (hg : ∀ i, 0 ≤ g i ∧ g i ≤ 255) (h : strOf n f = strOf n g) : ∀ j, j < n → f j = g j := fun j hj => by
  rw [← strOf_sb n f hf j hj, ← strOf_sb n g hg j hj, h]

/-- how many are not 0 at the front, among n -/
def fz (f : Nat → Int) : Nat → Nat
  | 0 => 0
  | n + 1 => if fz f n < n then fz f n else if f n = 0 then n else n + 1
theorem fz_spec (f : Nat → Int) : ∀ n, fz f n ≤ n ∧ (∀ i, i < fz f n → f i ≠ 0) ∧ (fz f n < n → f (fz f n) = 0)
  | 0 => ⟨Nat.le_refl _, fun i h => by simp [fz] at h, fun h => by simp [fz] at h⟩
  | n + 1 => by
    obtain ⟨h1, h2, h3⟩ := fz_spec f n
    unfold fz
    by_cases h : fz f n < n
    · rw [if_pos h]; exact ⟨by omega, h2, fun _ => h3 h⟩
    · rw [if_neg h]
      have e : fz f n = n := by omega
      rw [e] at h2
      by_cases h0 : f n = 0
      · rw [if_pos h0]; exact ⟨by omega, h2, fun _ => h0⟩
      · rw [if_neg h0]
        refine ⟨Nat.le_refl _, fun i hi => ?_, fun h => by omega⟩
        by_cases hin : i = n
        · subst hin; exact h0
        · exact h2 i (by omega)
theorem fz_uniq {f : Nat → Int} {n k : Nat} (h1 : k ≤ n) (h2 : ∀ i, i < k → f i ≠ 0) (h3 : k < n → f k = 0) : fz f n = k := by
  obtain ⟨g1, g2, g3⟩ := fz_spec f n
  by_cases hl : fz f n < k
  · exact absurd (g3 (by omega)) (h2 _ hl)
  · by_cases hg : k < fz f n
    · exact absurd (h3 (by omega)) (g2 _ hg)
    · omega

/-- the text at o, of 256 bytes -/
def txt (B : Nat → Int) (o : Nat) : ByteArray := strOf (fz (fun i => B (o + i)) 256) (fun i => B (o + i))
/-- the data that bytes tell -/
def dDec (B : Nat → Int) : Dat := ⟨B, B 16 + 256 * B 17, txt B 256, txt B 512⟩
theorem txt_size (B : Nat → Int) (o : Nat) : (txt B o).size ≤ 256 := by
  unfold txt
  rw [strOf_size]
  exact (fz_spec _ _).1
theorem dDec_ok {B : Nat → Int} (h : ∀ j, 0 ≤ B j ∧ B j ≤ 255) : (dDec B).Ok := by
  have a := h 16
  have b := h 17
  have c := txt_size B 256
  have d := txt_size B 512
  exact ⟨h, ⟨by unfold dDec; simp only []; omega, by unfold dDec; simp only []; omega⟩, by unfold dDec; simp only []; omega, by unfold dDec; simp only []; omega⟩
theorem txt_congr {A B : Nat → Int} {o : Nat} (h : ∀ i, i < 256 → A (o + i) = B (o + i)) : txt A o = txt B o := by
  unfold txt
  obtain ⟨g1, g2, g3⟩ := fz_spec (fun i => B (o + i)) 256
  have e : fz (fun i => A (o + i)) 256 = fz (fun i => B (o + i)) 256 := fz_uniq g1 (fun i hi => by show A (o + i) ≠ 0; rw [h i (by omega)]; exact g2 i hi) (fun hk => by show A (o + _) = 0; rw [h _ hk]; exact g3 hk)
  rw [e]
  exact strOf_congr fun i hi => h i (by omega)
theorem dDec_congr {A B : Nat → Int} (h : ∀ j, j < 1024 → A j = B j) : (dDec A).v = (dDec B).v := by
  have e1 : (dDec A).ctl = (dDec B).ctl := by unfold dDec; simp only []; rw [h 16 (by omega), h 17 (by omega)]
  have e2 : (dDec A).sub = (dDec B).sub := txt_congr fun i hi => h _ (by omega)
  have e3 : (dDec A).hst = (dDec B).hst := txt_congr fun i hi => h _ (by omega)
  unfold Dat.v
  rw [arr_congr fun j hj => ?_]
  unfold dcell
  rw [e1, e2, e3]
  by_cases hj : j < 16
  · rw [if_pos hj, if_pos hj]; exact congrArg _ (h j (by omega))
  · rw [if_neg hj, if_neg hj]

/-- which bytes are taken -/
def AccD (B : Nat → Int) : Prop := vDat (dDec B) = true ∧ ∀ j, j < 1024 → dB (dDec B) j = B j

theorem vName_nz {s : ByteArray} (h : vName s = true) : s.size ≤ 223 ∧ ∀ i, i < s.size → sb s i ≠ 0 := by
  unfold vName at h
  simp only [Bool.and_eq_true, decide_eq_true_eq] at h
  refine ⟨h.1.2, fun i hi => ?_⟩
  have := (okName_iff s).1 h.2 i hi
  rw [sb_get s i hi]
  simp [okb] at this
  omega
theorem txt_of {B : Nat → Int} {o : Nat} {s : ByteArray} (h : vName s = true) (hB : ∀ i, i < 256 → B (o + i) = sb s i) : txt B o = s := by
  obtain ⟨h1, h2⟩ := vName_nz h
  have e : fz (fun i => B (o + i)) 256 = s.size := fz_uniq (by omega) (fun i hi => by show B (o + i) ≠ 0; rw [hB i (by omega)]; exact h2 i hi) (fun hk => by
    show B (o + s.size) = 0
    rw [hB _ hk]
    unfold sb
    rw [dif_neg (by omega)])
  unfold txt
  rw [e]
  refine Eq.trans (strOf_congr fun i hi => hB i (by omega)) (strOf_self s)
theorem dB_sub {d : Dat} (h : vDat d = true) (i : Nat) (hi : i < 256) : dB d (256 + i) = sb d.sub i ∧ dB d (512 + i) = sb d.hst i := by
  unfold vDat at h
  simp only [Bool.and_eq_true] at h
  have h1 := (vName_nz h.1).1
  have h2 := (vName_nz h.2.1).1
  unfold dB
  constructor
  · rw [if_neg (by omega), if_neg (by omega), if_neg (by omega)]
    by_cases hs : i < d.sub.size
    · rw [if_pos (by omega), Nat.add_sub_cancel_left]
    · rw [if_neg (by omega), if_neg (by omega)]
      unfold sb
      rw [dif_neg hs]
  · rw [if_neg (by omega), if_neg (by omega), if_neg (by omega), if_neg (by omega)]
    by_cases hs : i < d.hst.size
    · rw [if_pos (by omega), Nat.add_sub_cancel_left]
    · rw [if_neg (by omega)]
      unfold sb
      rw [dif_neg hs]
theorem dDec_dB {d : Dat} (hok : d.Ok) (h : vDat d = true) : (dDec (dB d)).v = d.v ∧ vDat (dDec (dB d)) = true ∧ AccD (dB d) := by
  have hs := h
  unfold vDat at h
  simp only [Bool.and_eq_true] at h
  have e1 : (dDec (dB d)).sub = d.sub := txt_of h.1 fun i hi => (dB_sub hs i hi).1
  have e2 : (dDec (dB d)).hst = d.hst := txt_of h.2.1 fun i hi => (dB_sub hs i hi).2
  have e3 : (dDec (dB d)).ctl = d.ctl := by
    have := hok.c
    show dB d 16 + 256 * dB d 17 = d.ctl
    unfold dB
    simp
    omega
  have e4 : ∀ j, j < 16 → (dDec (dB d)).host j = d.host j := fun j hj => by
    show dB d j = d.host j
    unfold dB
    rw [if_pos hj]
  have e5 : hz (dDec (dB d)) = hz d := by
    unfold hz
    rw [Bool.eq_iff_iff, List.all_eq_true, List.all_eq_true]
    constructor
    · intro k i hi; rw [← e4 i (List.mem_range.1 hi)]; exact k i hi
    · intro k i hi; rw [e4 i (List.mem_range.1 hi)]; exact k i hi
  have e6 : vDat (dDec (dB d)) = true := by
    unfold vDat
    rw [e1, e2, e5]
    exact hs
  refine ⟨?_, e6, e6, fun j hj => ?_⟩
  · unfold Dat.v
    rw [arr_congr fun j hj => ?_]
    unfold dcell
    rw [e1, e2, e3]
    by_cases hj : j < 16
    · rw [if_pos hj, if_pos hj, e4 j hj]
    · rw [if_neg hj, if_neg hj]
  · show (if j < 16 then (dDec (dB d)).host j else if j = 16 then (dDec (dB d)).ctl % 256 else if j = 17 then (dDec (dB d)).ctl / 256 else if 256 ≤ j ∧ j < 256 + (dDec (dB d)).sub.size then sb (dDec (dB d)).sub (j - 256)
      else if 512 ≤ j ∧ j < 512 + (dDec (dB d)).hst.size then sb (dDec (dB d)).hst (j - 512) else 0) = dB d j
    rw [e1, e2, e3]
    by_cases h16 : j < 16
    · rw [if_pos h16, e4 j h16]; unfold dB; rw [if_pos h16]
    · unfold dB
      rw [if_neg h16, if_neg h16]

theorem equal16 (a b : Nat → Int) (w : World) : (Op.equalIn 10000 67 (.agg (arr 16 fun i => .int .u8 (a i))) (.agg (arr 16 fun i => .int .u8 (b i)))).run Try.prog w = .ok ((List.range 16).all fun i => a i == b i) w := by
  obtain ⟨i, hi⟩ := info5
  have h := run_equalIn_array (P := Try.prog) (w := w) 9999 (arr 16 fun i => .int .u8 (a i)) (arr 16 fun i => .int .u8 (b i)) Try.underlying67 hi
  exact h.trans (eqItems_bytes 9998 16 a b w _ fun i hi => by simpa using hi)
theorem equal16' (a b : Nat → Int) (w : World) : (Op.equalIn 9999 67 (.agg (arr 16 fun i => .int .u8 (a i))) (.agg (arr 16 fun i => .int .u8 (b i)))).run Try.prog w = .ok ((List.range 16).all fun i => a i == b i) w := by
  obtain ⟨i, hi⟩ := info5
  have h := run_equalIn_array (P := Try.prog) (w := w) 9998 (arr 16 fun i => .int .u8 (a i)) (arr 16 fun i => .int .u8 (b i)) Try.underlying67 hi
  exact h.trans (eqItems_bytes 9997 16 a b w _ fun i hi => by simpa using hi)
theorem hostz (d : Dat) (w : World) : (Op.equalIn 10000 67 (.agg (arr 16 (dcell d))) (.agg (arr 16 fun _ => .int .u8 0))).run Try.prog w = .ok (hz d) w := by
  have e : arr 16 (dcell d) = arr 16 fun i => .int .u8 (d.host i) := arr_congr fun i hi => by unfold dcell; rw [if_pos hi]
  rw [e, equal16 d.host (fun _ => 0)]
  rfl
theorem size16 : (Try.prog.info? 67).map (·.size) = some 16 := by kernel_rfl
theorem size69 : (Try.prog.info? 69).map (·.size) = some 19 := by kernel_rfl
theorem build16 (w : World) : (Instr.build 67 #[]).run Try.prog w = .ok (.agg (arr 16 fun _ => .int .u8 0)) w := by kernel_rfl
theorem build69 (w : World) : (Instr.build 69 #[]).run Try.prog w = .ok D0.v w := by kernel_rfl
theorem zero69 (w : World) : (zeroValue 69).run Try.prog w = .ok D0.v w := by kernel_rfl

set_option maxHeartbeats 2000000 in
theorem eq69 (d : Dat) (w : World) : (Op.equalIn 10000 69 d.v d.v).run Try.prog w = .ok true w := by
  have h0 : (arr 19 (dcell d)).extract 0 16 = arr 16 fun i => .int .u8 (d.host i) := rfl
  have h1 : (arr 19 (dcell d))[16]? = some (.int .u16 d.ctl) := rfl
  have h2 : (arr 19 (dcell d))[17]? = some (.string d.sub) := rfl
  have h3 : (arr 19 (dcell d))[18]? = some (.string d.hst) := rfl
  have g0 := equal16' d.host d.host w
  have g1 := run_equalIn_int (P := Try.prog) w 9998 22 .u16 _ d.ctl d.ctl Try.underlying22
  have g2 := run_equalIn_string (P := Try.prog) w 9998 9 d.sub d.sub Try.underlying9
  have g3 := run_equalIn_string (P := Try.prog) w 9998 9 d.hst d.hst Try.underlying9
  unfold Dat.v
  rw [run_equalIn_agg w 9999 69 _ _ (by kernel_rfl) (by kernel_rfl)]
  generalize arr 19 (dcell d) = X at *
  simp [go_sem, h0, h1, h2, h3, g0, g1, g2, g3]
theorem eql69 (d : Dat) (w : World) : (binOp .eql 69 d.v d.v).run Try.prog w = .ok (.bool true) w := by
  unfold Dat.v
  rw [run_eql_struct]
  have := eq69 d w
  unfold Dat.v at this
  rw [this]; rfl
theorem neq69 (d : Dat) (w : World) : (binOp .neq 69 d.v d.v).run Try.prog w = .ok (.bool false) w := by
  unfold Dat.v
  rw [run_neq_struct]
  have := eq69 d w
  unfold Dat.v at this
  rw [this]; rfl
end Go.Proofs.Ytchkipafjnehfaa
