/- connect: bytes.IndexByte, Index of one byte, Cut, Equal, text; the reference's until. -/
import Derived.Test.YtchkipafjnehfaaTA
import Derived.Lib.BytesEntry
import Derived.Lib.IndexLaws
import Derived.IntWalk
namespace Go.Proofs.Ytchkipafjnehfaa
set_option linter.unusedVariables false
set_option linter.unusedSimpArgs false
open Go.RowKit

/-- n bytes at ⟨g, o⟩ -/
def BytesAt (w : World) (g o n : Nat) (f : Nat → Int) : Prop := ∀ j, j < n → w.cell? ⟨g, o + j, none⟩ = some (.int .u8 (f j))
theorem BytesAt.sub {w : World} {g o n : Nat} {f : Nat → Int} (h : BytesAt w g o n f) (p m : Nat) (hm : p + m ≤ n) : BytesAt w g (o + p) m (fun j => f (p + j)) := fun j hj => by
  have := h (p + j) (by omega)
  rw [← Nat.add_assoc] at this
  exact this
theorem BytesAt.below {w w' : World} {g o n : Nat} {f : Nat → Int} (h : BytesAt w g o n f) (hb : Below w.heap.size w w') : BytesAt w' g o n f := fun j hj =>
  (hb.cell (p := ⟨g, o + j, none⟩) (World.block_lt_of_cell? _ _ (h j hj))).trans (h j hj)

theorem conv_str (w : World) (a : Addr) (n cap : Nat) (f : Nat → Int) (hc : ∀ j, j < n → w.cell? (a.add j) = some (.int .u8 (f j))) :
    (convert 70 9 (.slice (some a) n cap)).run Try.prog w = .ok (.string (strOf n f)) w := by
  rw [run_convert_bytes_string w 70 9 5 (some a) n cap Try.underlying70 Try.underlying5 Try.underlying9]
  have hl := run_loadCells_list (P := Try.prog) w a (((List.range n).map f).map (Value.int .u8)) (fun j v hj => by
    have hj' : j < n := by
      have := (List.getElem?_eq_some_iff.1 hj).1
      simpa using this
    rw [hc j hj']
    simp [hj'] at hj
    rw [← hj])
  simp only [List.length_map, List.length_range] at hl
  have foldl_pushes : ∀ (l : List Int) (r : ByteArray), l.foldl (fun r n => r.push (UInt8.ofNat n.toNat)) r = ⟨r.data ++ (l.map fun n => UInt8.ofNat n.toNat).toArray⟩ := by
    intro l
    induction l with
    | nil => intro r; simp
    | cons b l ih =>
      intro r
      simp only [List.foldl_cons]
      rw [ih]
      simp [ByteArray.push]
  rw [run_bytesToString w a n cap _ hl, foldl_pushes]
  have he0 : ByteArray.empty.data = #[] := rfl
  rw [he0]
  simp [strOf, Function.comp_def]
theorem BytesAt.conv {w : World} {g o n : Nat} {f : Nat → Int} (h : BytesAt w g o n f) (cap : Nat) : (convert 70 9 (.slice (some ⟨g, o, none⟩) n cap)).run Try.prog w = .ok (.string (strOf n f)) w :=
  conv_str w _ n cap f fun j hj => by rw [Addr.add_mid]; exact h j hj

theorem idx_fz (f : Nat → Int) (n : Nat) (hf : ∀ i, 0 ≤ f i ∧ f i ≤ 255) : Lib.indexByte (Lib.bytesOf ((List.range n).map f)) (0 : Int).toNat.toUInt8 = if fz f n < n then (fz f n : Int) else -1 := by
  have hg : ∀ k, k < n → (Lib.bytesOf ((List.range n).map f))[k]? = some (UInt8.ofNat (f k).toNat) := fun k hk => by simp [Lib.bytesOf, hk]
  have hl : ∀ k, ¬ k < n → (Lib.bytesOf ((List.range n).map f))[k]? = none := fun k hk => by simp [Lib.bytesOf]; omega
  have hz : ∀ k, UInt8.ofNat (f k).toNat = (0 : Int).toNat.toUInt8 ↔ f k = 0 := fun k => by
    have := hf k
    constructor
    · intro e
      have e2 : (UInt8.ofNat (f k).toNat).toNat = ((0 : Int).toNat.toUInt8).toNat := by rw [e]
      have e3 : (UInt8.ofNat (f k).toNat).toNat = (f k).toNat % 256 := UInt8.toNat_ofNat
      have e4 : ((0 : Int).toNat.toUInt8).toNat = 0 := rfl
      rw [e3, e4] at e2
      omega
    · intro e; rw [e]
  obtain ⟨r, hr⟩ : ∃ r, Lib.indexByte (Lib.bytesOf ((List.range n).map f)) (0 : Int).toNat.toUInt8 = r := ⟨_, rfl⟩
  have hge := Lib.indexByte_ge (Lib.bytesOf ((List.range n).map f)) (0 : Int).toNat.toUInt8
  rw [hr] at hge ⊢
  by_cases h1 : r = -1
  · subst h1
    have hn := Lib.indexByte_none hr
    have e : fz f n = n := fz_uniq (Nat.le_refl _) (fun i hi e => hn i (by rw [hg i hi, (hz i).2 e])) (fun h => absurd h (Nat.lt_irrefl _))
    rw [e, if_neg (by omega)]
  · obtain ⟨k, rfl⟩ : ∃ k : Nat, r = k := ⟨r.toNat, by omega⟩
    obtain ⟨h2, h3⟩ := Lib.indexByte_some hr
    have hk : k < n := by
      by_cases hk : k < n
      · exact hk
      · rw [hl k hk] at h2; cases h2
    rw [hg k hk] at h2
    have e : fz f n = k := fz_uniq (by omega) (fun i hi e => h3 i hi (by rw [hg i (by omega), (hz i).2 e])) (fun _ => (hz k).1 (Option.some.inj h2))
    rw [e, if_pos hk]

set_option maxRecDepth 100000 in
set_option maxHeartbeats 1000000 in
theorem indexByte_any (g o n c : Nat) (f : Nat → Int) (w : World) (h : BytesAt w g o n f) (hf : ∀ i, 0 ≤ f i ∧ f i ≤ 255) :
    Calls Try.prog 67 #[.slice (some ⟨g, o, none⟩) n c, .int .u8 0] w fun e w' => e = .returned (.int .i64 (if fz f n < n then (fz f n : Int) else -1)) ∧ w = w' := by
  have hx : ((List.range n).map f).length = n := by simp
  have hc : ∀ i, i < n → w.cell? ⟨g, o + i, none⟩ = some (.int .u8 (((List.range n).map f).getD i 0)) := fun i hi => by
    rw [h i hi]; simp [hi]
  have HE0 := idx_fz f n hf
  generalize (if fz f n < n then (fz f n : Int) else -1) = r at HE0 ⊢
  have HE := Lib.hid HE0
  clear HE0
  go_enter Try.func67, Try.ntmps67
  go_wp2
  rw [run_callFunc_extern Try.func71 (by kernel_rfl) (by kernel_rfl) (by kernel_rfl) (e := Extern.BytealgIndexByte.indexByte) (by kernel_rfl), Lib.run_indexByteSlice w g o n c _ hx hc 0]
  simp only [Result.andThen]
  rw [Oper.upon_value]
  rw [HE.out]
  go_wp2
  go_ret
  exact ⟨rfl, rfl⟩

set_option maxRecDepth 100000 in
set_option maxHeartbeats 1000000 in
theorem index_any (g o n c g2 : Nat) (f : Nat → Int) (w : World) (h : BytesAt w g o n f) (hf : ∀ i, 0 ≤ f i ∧ f i ≤ 255) (h0 : w.cell? ⟨g2, 0, none⟩ = some (.int .u8 0)) :
    Calls Try.prog 66 #[.slice (some ⟨g, o, none⟩) n c, .slice (some ⟨g2, 0, none⟩) 1 1] w fun e w' => e = .returned (.int .i64 (if fz f n < n then (fz f n : Int) else -1)) ∧ w = w' := by
  have H := Lib.hid h
  have HF := Lib.hid hf
  have HI := fun W hW => indexByte_any g o n c f W hW hf
  generalize (if fz f n < n then (fz f n : Int) else -1) = r at HI ⊢
  have HI := Lib.hid HI
  clear h hf
  go_enter Try.func66, Try.ntmps66
  go_wp2_with fail
  refine (HI.out _ H.out).mono ?_
  rintro e w' ⟨rfl, rfl⟩
  go_wp2_with fail
  go_ret
  exact ⟨rfl, rfl⟩

set_option maxRecDepth 100000 in
set_option maxHeartbeats 1000000 in
/-- Cut at the first 0: what lies before. -/
theorem cut_any (g o n c g2 : Nat) (f : Nat → Int) (w : World) (h : BytesAt w g o n f) (hf : ∀ i, 0 ≤ f i ∧ f i ≤ 255) (h0 : w.cell? ⟨g2, 0, none⟩ = some (.int .u8 0)) (hn : n ≤ c) (hc : c ≤ 9223372036854775807) :
    Calls Try.prog 64 #[.slice (some ⟨g, o, none⟩) n c, .slice (some ⟨g2, 0, none⟩) 1 1] w fun e w' => (∃ y b, e = .returned (.tuple #[.slice (some ⟨g, o, none⟩) (fz f n) c, y, .bool b])) ∧ Below w.heap.size w w' := by
  have H := Lib.hid h
  have HF := Lib.hid hf
  clear h hf
  obtain ⟨k1, -, -⟩ := fz_spec f n
  by_cases hk : fz f n < n
  · have HI := fun W hW h0 => index_any g o n c g2 f W hW HF.out h0
    rw [if_pos hk] at HI
    have HI := Lib.hid HI
    obtain ⟨k, hkk⟩ : ∃ k, k = fz f n := ⟨_, rfl⟩
    rw [← hkk] at HI k1 hk ⊢
    clear hkk
    go_enter Try.func64, Try.ntmps64
    go_wp2_with fail
    refine (HI.out _ H.out h0).mono ?_
    rintro e w' ⟨rfl, rfl⟩
    have e1 : IntKind.i64.wrap ((k : Int) + 1) = (k : Int) + 1 := IntWalk.i64_in _ (by omega)
    have e2 : ((k : Int) + 1).toNat = k + 1 := by omega
    go_upto_region 3 with (fail)
    by_cases hce : c = k + 1
    · subst hce
      go_region_with fail
      all_goals (go_wp2_with fail; go_ret3; exact ⟨⟨_, _, rfl⟩, by first | exact Below.refl _ _ | exact (Below.refl _ _).drew⟩)
    · go_region_with fail
      all_goals (go_wp2_with fail; go_ret3; exact ⟨⟨_, _, rfl⟩, by first | exact Below.refl _ _ | exact (Below.refl _ _).drew⟩)
  · have ek : fz f n = n := by omega
    have HI := fun W hW h0 => index_any g o n c g2 f W hW HF.out h0
    rw [if_neg hk] at HI
    have HI := Lib.hid HI
    rw [ek]
    clear ek hk k1
    go_enter Try.func64, Try.ntmps64
    go_wp2_with fail
    refine (HI.out _ H.out h0).mono ?_
    rintro e w' ⟨rfl, rfl⟩
    go_wp2_with fail
    go_ret3
    exact ⟨⟨_, _, rfl⟩, Below.refl _ _⟩
end Go.Proofs.Ytchkipafjnehfaa
