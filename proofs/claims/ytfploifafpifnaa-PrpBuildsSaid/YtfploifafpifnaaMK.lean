/- memory: reads. -/
import Derived.Test.YtfploifafpifnaaMH
namespace Go.Proofs.Ytfploifafpifnaa
set_option linter.unusedVariables false
set_option linter.unusedSimpArgs false
open Go.RowKit

/-- The string of n bytes. -/
def strOf (n : Nat) (f : Nat → Int) : ByteArray := ⟨((List.range n).map fun i => UInt8.ofNat (f i).toNat).toArray⟩
theorem strOf_congr {n : Nat} {f g : Nat → Int} (h : ∀ i, i < n → f i = g i) : strOf n f = strOf n g := by
  unfold strOf
  congr 2
  exact List.map_congr_left fun i hi => by rw [h i (List.mem_range.1 hi)]

theorem foldl_pushes : ∀ (l : List Int) (r : ByteArray), l.foldl (fun r n => r.push (UInt8.ofNat n.toNat)) r = ⟨r.data ++ (l.map fun n => UInt8.ofNat n.toNat).toArray⟩
  | [], r => by simp
  | b :: l, r => by
    simp only [List.foldl_cons]
    rw [foldl_pushes l]
    simp [ByteArray.push]

theorem conv_str (w : World) (a : Addr) (n cap : Nat) (f : Nat → Int) (hc : ∀ j, j < n → w.cell? (a.add j) = some (.int .u8 (f j))) :
    (convert 24 9 (.slice (some a) n cap)).run Try.prog w = .ok (.string (strOf n f)) w := by
  rw [run_convert_bytes_string w 24 9 5 (some a) n cap Try.underlying24 Try.underlying5 Try.underlying9]
  have hl := run_loadCells_list (P := Try.prog) w a (((List.range n).map f).map (Value.int .u8)) (fun j v hj => by
    have hj' : j < n := by
      have := (List.getElem?_eq_some_iff.1 hj).1
      simpa using this
    rw [hc j hj']
    simp [hj'] at hj
    rw [← hj])
  simp only [List.length_map, List.length_range] at hl
  rw [run_bytesToString w a n cap _ hl, foldl_pushes]
  have he0 : ByteArray.empty.data = #[] := rfl
  rw [he0]
  simp [strOf, Function.comp_def]

theorem newBytes_str {N : Nat} {w : World} {v : Value} {n : Nat} {s : Nat → Int} (h : NewBytes N w v n s) : (convert 24 9 v).run Try.prog w = .ok (.string (strOf n s)) w := by
  obtain ⟨g, cap, F, rfl, h1, h2, h3, h4, h5⟩ := h
  exact conv_str w _ n cap s fun j hj => by rw [Addr.add_mid, Nat.zero_add, h2.cell (by omega), h5 j hj]

/-- A slice made by a literal. -/
theorem src_new (S : Nat → Prop) (w : World) (n : Nat) (c : Array Value) (s : Nat → Int) (hS : ¬ S w.heap.size) (hn : n ≤ 4611686018427387904) (hc : ∀ i, i < n → c[i]? = some (.int .u8 (s i))) :
    Src S (w.alloc (.cells c 5)) (some ⟨w.heap.size, 0, none⟩) n s :=
  ⟨hn, fun _ => ⟨w.heap.size, 0, rfl, hS, fun i hi => by rw [Nat.zero_add, World.cell?_alloc_new]; exact hc i hi⟩⟩

theorem write_ok' (b B size : Nat) (f : Nat → Int) (L : List (Nat × Nat)) (addr n c : Nat) (ao : Option Addr) (s : Nat → Int) (A : Int) (w : World) (h : MemAt w b B size f L)
    (hL : L.length < 4611686018427387904) (hf : addr + n ≤ size) (hsrc : Src (Two b B) w ao n s) (hA : A = addr) :
   Calls Try.prog 23 #[.pointer (some ⟨b, 0, none⟩), .int .u64 A, .slice ao n c] w fun e w' =>
     e = .returned (.int .i64 0) ∧ Keeps (Two b B) w w' ∧ MemAt w' b B size (upd f addr n s) (logged L addr n) := by
  subst hA
  exact write_ok b B size f L addr n c ao s w h hL hf hsrc

theorem write_err' (b B size : Nat) (f : Nat → Int) (L : List (Nat × Nat)) (addr n c : Nat) (ao : Option Addr) (A : Int) (w : World) (h : MemAt w b B size f L)
    (ha' : addr ≤ 18446744073709551615) (hn : n ≤ 4611686018427387904) (hf : size < addr + n) (hA : A = addr) :
   Calls Try.prog 23 #[.pointer (some ⟨b, 0, none⟩), .int .u64 A, .slice ao n c] w fun e w' =>
     e = .returned (.int .i64 3) ∧ Below w.heap.size w w' := by
  subst hA
  exact write_err b B size f L addr n c ao w h ha' hn hf

theorem check_is (b B size : Nat) (f : Nat → Int) (L : List (Nat × Nat)) (addr n k : Int) (w : World) (h : MemAt w b B size f L)
    (ha : 0 ≤ addr) (ha' : addr ≤ 18446744073709551615) (hn : -9223372036854775808 ≤ n) (hn' : n ≤ 9223372036854775807) (hk : chk size addr n = k) :
   Calls Try.prog 18 #[.pointer (some ⟨b, 0, none⟩), .int .u64 addr, .int .i64 n] w fun e w' => e = .returned (.int .i64 k) ∧ Below w.heap.size w w' := by
  subst hk
  obtain ⟨cap, hsl, -, -⟩ := h.slice
  exact check_made b ⟨B, 0, none⟩ size cap addr n w hsl h.small ha ha' hn hn'

theorem size_is (b B size : Nat) (f : Nat → Int) (L : List (Nat × Nat)) (k : Int) (w : World) (h : MemAt w b B size f L) (hk : k = size) :
   Calls Try.prog 13 #[.pointer (some ⟨b, 0, none⟩)] w fun e w' => e = .returned (.int .i64 k) ∧ w = w' := by
  subst hk
  obtain ⟨cap, hsl, -, -⟩ := h.slice
  exact size_made _ _ _ _ _ hsl

theorem NewBytes.kept {N : Nat} {S : Nat → Prop} {w w' : World} {v : Value} {n : Nat} {s : Nat → Int} (h : NewBytes N w v n s) (k : Keeps S w w') (hS : ∀ j, N ≤ j → ¬ S j) : NewBytes N w' v n s := by
  obtain ⟨g, cap, F, h1, h2, h3, h4⟩ := h
  exact ⟨g, cap, F, h1, h2, k.rowIs h3 (hS g h2), h4⟩

/-- a function given by the list of its first values -/
def lf (l : List Int) : Nat → Int := fun i => l.getD i 0

theorem MemAt.alloc {w : World} {b B size : Nat} {f : Nat → Int} {L : List (Nat × Nat)} (h : MemAt w b B size f L) (o : Obj) : MemAt (w.alloc o) b B size f L :=
  h.kept ((Keeps.refl (fun _ => False) w).alloc o) (fun h => h) (fun h => h)
theorem MemAt.below {w w' : World} {b B size : Nat} {f : Nat → Int} {L : List (Nat × Nat)} (h : MemAt w b B size f L) (hb : Below w.heap.size w w') : MemAt w' b B size f L :=
  h.kept (Keeps.of_below (S := fun _ => False) hb) (fun h => h) (fun h => h)

end Go.Proofs.Ytfploifafpifnaa
