/- memory: reads. -/
import Derived.Test.YtobbnfdflogicaaJ
namespace Go.Proofs.Ytobbnfdflogicaa
open Go.RowKit

/-- The string of n bytes. -/
def strOf (n : Nat) (f : Nat → Int) : ByteArray := ⟨((List.range n).map fun i => UInt8.ofNat (f i).toNat).toArray⟩
theorem strOf_congr {n : Nat} {f g : Nat → Int} (h : ∀ i, i < n → f i = g i) : strOf n f = strOf n g := by
  unfold strOf
  congr 2
  exact List.map_congr_left fun i hi => by rw [h i (List.mem_range.1 hi)]

theorem foldl_pushes : ∀ (l : List Int) (r : ByteArray), l.foldl (fun r n => r.push (UInt8.ofNat n.toNat)) r = ⟨r.data ++ (l.map fun n => UInt8.ofNat n.toNat).toArray⟩
  | [], r => by simp
  | b :: l, r => by
    simp only [List.foldl_cons]
    rw [foldl_pushes l]
    simp [ByteArray.push]

theorem conv_str (w : World) (a : Addr) (n cap : Nat) (f : Nat → Int) (hc : ∀ j, j < n → w.cell? (a.add j) = some (.int .u8 (f j))) :
    (convert 33 9 (.slice (some a) n cap)).run Try.prog w = .ok (.string (strOf n f)) w := by
  rw [run_convert_bytes_string w 33 9 5 (some a) n cap Try.underlying33 Try.underlying5 Try.underlying9]
  have hl := run_loadCells_list (P := Try.prog) w a (((List.range n).map f).map (Value.int .u8)) (fun j v hj => by
    have hj' : j < n := by
      have := (List.getElem?_eq_some_iff.1 hj).1
      simpa using this
    rw [hc j hj']
    simp [hj'] at hj
    rw [← hj])
  simp only [List.length_map, List.length_range] at hl
  rw [run_bytesToString w a n cap _ hl, foldl_pushes]
  have he0 : ByteArray.empty.data = #[] := rfl
  rw [he0]
  simp [strOf, Function.comp_def]

theorem newBytes_str {N : Nat} {w : World} {v : Value} {n : Nat} {s : Nat → Int} (h : NewBytes N w v n s) : (convert 33 9 v).run Try.prog w = .ok (.string (strOf n s)) w := by
  obtain ⟨g, cap, F, rfl, h1, h2, h3, h4, h5⟩ := h
  exact conv_str w _ n cap s fun j hj => by rw [Addr.add_mid, Nat.zero_add, h2.cell (by omega), h5 j hj]

set_option maxHeartbeats 1000000 in
theorem reads_ok (b B size : Nat) (f : Nat → Int) (L : List (Nat × Nat)) (addr n : Nat) (s : ByteArray) (w : World) (h : MemAt w b B size f L) (hf : addr + n ≤ size) (hs : strOf n (fun i => f (addr + i)) = s) :
   Calls Try.prog 25 #[.pointer (some ⟨b, 0, none⟩), .int .u64 addr, .int .i64 n, .string s, .int .i64 0] w fun e w' =>
     e = .returned (.bool true) ∧ Below w.heap.size w w' := by
  have H := Lib.hid h
  clear h
  have HS := Lib.hid hs
  clear hs
  go_enter Try.func25, Try.ntmps25
  go_wp2_with fail
  refine (read_ok _ _ _ _ _ _ _ _ H.out hf).mono ?_
  rintro e w1 ⟨v, rfl, hv, hb⟩
  have hc := newBytes_str hv
  rw [HS.out] at hc
  go_wp2_with fail
  refine (num_any _ _).mono ?_
  rintro e w2 ⟨rfl, rfl⟩
  go_wp2_with fail
  go_ret
  exact ⟨rfl, hb⟩

set_option maxHeartbeats 1000000 in
theorem reads_err (b B size : Nat) (f : Nat → Int) (L : List (Nat × Nat)) (addr n k : Int) (w : World) (h : MemAt w b B size f L)
    (ha : 0 ≤ addr) (ha' : addr ≤ 18446744073709551615) (hn : -9223372036854775808 ≤ n) (hn' : n ≤ 9223372036854775807) (hc : (chk size addr n != 0) = true) (hk : k = chk size addr n) :
   Calls Try.prog 25 #[.pointer (some ⟨b, 0, none⟩), .int .u64 addr, .int .i64 n, .string ByteArray.empty, .int .i64 k] w fun e w' =>
     e = .returned (.bool true) ∧ Below w.heap.size w w' := by
  subst hk
  have H := Lib.hid h
  clear h
  have hcn := run_convert_bytes_string (P := Try.prog)
  go_enter Try.func25, Try.ntmps25
  go_wp2_with fail
  refine (read_err _ _ _ _ _ _ _ _ H.out ha ha' hn hn' hc).mono ?_
  rintro e w1 ⟨rfl, hb⟩
  have hc := run_convert_bytes_string (P := Try.prog) w1 33 9 5 none 0 0 Try.underlying33 Try.underlying5 Try.underlying9
  have hc2 : (convert 33 9 (.slice none 0 0)).run Try.prog w1 = .ok (.string ByteArray.empty) w1 := hc
  clear hc hcn
  generalize chk size addr n = k at *
  go_wp2_with fail
  refine (num_any _ _).mono ?_
  rintro e w2 ⟨rfl, rfl⟩
  go_wp2_with fail
  go_ret
  exact ⟨rfl, hb⟩

set_option maxHeartbeats 1000000 in
theorem reads_nil (addr n : Int) (w : World) :
   Calls Try.prog 25 #[.pointer none, .int .u64 addr, .int .i64 n, .string ByteArray.empty, .int .i64 1] w fun e w' =>
     e = .returned (.bool true) ∧ w = w' := by
  have hc2 : ∀ w, (convert 33 9 (.slice none 0 0)).run Try.prog w = .ok (.string ByteArray.empty) w := fun w =>
    run_convert_bytes_string (P := Try.prog) w 33 9 5 none 0 0 Try.underlying33 Try.underlying5 Try.underlying9
  go_enter Try.func25, Try.ntmps25
  go_wp2_with fail
  refine (read_nil _ _ _).mono ?_
  rintro e w1 ⟨rfl, rfl⟩
  go_wp2_with fail
  refine (num_any _ _).mono ?_
  rintro e w2 ⟨rfl, rfl⟩
  go_wp2_with fail
  go_ret
  exact ⟨rfl, rfl⟩

set_option maxHeartbeats 1000000 in
theorem reads_zero (b m k : Nat) (addr n : Int) (w : World) (h : w.cell? ⟨b, 769, none⟩ = some (.slice none m k)) :
   Calls Try.prog 25 #[.pointer (some ⟨b, 0, none⟩), .int .u64 addr, .int .i64 n, .string ByteArray.empty, .int .i64 1] w fun e w' =>
     e = .returned (.bool true) ∧ w = w' := by
  have H := Lib.hid h
  clear h
  have hc2 : ∀ w, (convert 33 9 (.slice none 0 0)).run Try.prog w = .ok (.string ByteArray.empty) w := fun w =>
    run_convert_bytes_string (P := Try.prog) w 33 9 5 none 0 0 Try.underlying33 Try.underlying5 Try.underlying9
  go_enter Try.func25, Try.ntmps25
  go_wp2_with fail
  refine (read_zero _ _ _ _ _ _ H.out).mono ?_
  rintro e w1 ⟨rfl, rfl⟩
  go_wp2_with fail
  refine (num_any _ _).mono ?_
  rintro e w2 ⟨rfl, rfl⟩
  go_wp2_with fail
  go_ret
  exact ⟨rfl, rfl⟩

set_option maxRecDepth 100000 in
theorem logs_any (p : Value) (L : List (Nat × Nat)) (ao : Option Addr) (c : Nat) (fr : Int) (n : Nat) (many : Int) (w : World) (hL : L.length < 4611686018427387904)
    (hm : -9223372036854775808 ≤ many) (hm' : many ≤ 9223372036854775807) (hfr : fr = ((L.length - 256 : Nat) : Int)) (hn : n = L.length - (L.length - 256))
    (hS : SpanSrc w ao (L.drop (L.length - 256)))
    (HW : ∀ W, Below w.heap.size w W → Calls Try.prog 13 #[p] W fun e w' => ∃ g, e = .returned (.func (.func 30) #[] #[.pointer (some ⟨g, 0, none⟩)]) ∧ JAt w' g L ∧ W.heap.size ≤ g ∧ Below W.heap.size W w') :
   Calls Try.prog 14 #[p, .int .i64 fr, .slice ao n c, .int .i64 many] w fun e w' => e = .returned (.bool true) ∧ Below w.heap.size w w' := by
  subst hfr hn
  exact logs_true p L ao c many w hL hm hm' hS HW

/-- A slice made by a literal. -/
theorem src_new (S : Nat → Prop) (w : World) (n : Nat) (c : Array Value) (s : Nat → Int) (hS : ¬ S w.heap.size) (hn : n ≤ 4611686018427387904) (hc : ∀ i, i < n → c[i]? = some (.int .u8 (s i))) :
    Src S (w.alloc (.cells c 5)) (some ⟨w.heap.size, 0, none⟩) n s :=
  ⟨hn, fun _ => ⟨w.heap.size, 0, rfl, hS, fun i hi => by rw [Nat.zero_add, World.cell?_alloc_new]; exact hc i hi⟩⟩

theorem write_ok' (b B size : Nat) (f : Nat → Int) (L : List (Nat × Nat)) (addr n c : Nat) (ao : Option Addr) (s : Nat → Int) (A : Int) (w : World) (h : MemAt w b B size f L)
    (hL : L.length < 4611686018427387904) (hf : addr + n ≤ size) (hsrc : Src (Two b B) w ao n s) (hA : A = addr) :
   Calls Try.prog 12 #[.pointer (some ⟨b, 0, none⟩), .int .u64 A, .slice ao n c] w fun e w' =>
     e = .returned (.int .i64 0) ∧ Keeps (Two b B) w w' ∧ MemAt w' b B size (upd f addr n s) (logged L addr n) := by
  subst hA
  exact write_ok b B size f L addr n c ao s w h hL hf hsrc

theorem write_err' (b B size : Nat) (f : Nat → Int) (L : List (Nat × Nat)) (addr n c : Nat) (ao : Option Addr) (A : Int) (w : World) (h : MemAt w b B size f L)
    (ha' : addr ≤ 18446744073709551615) (hn : n ≤ 4611686018427387904) (hf : size < addr + n) (hA : A = addr) :
   Calls Try.prog 12 #[.pointer (some ⟨b, 0, none⟩), .int .u64 A, .slice ao n c] w fun e w' =>
     e = .returned (.int .i64 3) ∧ Below w.heap.size w w' := by
  subst hA
  exact write_err b B size f L addr n c ao w h ha' hn hf

theorem check_is (b B size : Nat) (f : Nat → Int) (L : List (Nat × Nat)) (addr n k : Int) (w : World) (h : MemAt w b B size f L)
    (ha : 0 ≤ addr) (ha' : addr ≤ 18446744073709551615) (hn : -9223372036854775808 ≤ n) (hn' : n ≤ 9223372036854775807) (hk : chk size addr n = k) :
   Calls Try.prog 18 #[.pointer (some ⟨b, 0, none⟩), .int .u64 addr, .int .i64 n] w fun e w' => e = .returned (.int .i64 k) ∧ Below w.heap.size w w' := by
  subst hk
  obtain ⟨cap, hsl, -, -⟩ := h.slice
  exact check_made b ⟨B, 0, none⟩ size cap addr n w hsl h.small ha ha' hn hn'

theorem size_is (b B size : Nat) (f : Nat → Int) (L : List (Nat × Nat)) (k : Int) (w : World) (h : MemAt w b B size f L) (hk : k = size) :
   Calls Try.prog 17 #[.pointer (some ⟨b, 0, none⟩)] w fun e w' => e = .returned (.int .i64 k) ∧ w = w' := by
  subst hk
  obtain ⟨cap, hsl, -, -⟩ := h.slice
  exact size_made _ _ _ _ _ hsl

theorem NewBytes.kept {N : Nat} {S : Nat → Prop} {w w' : World} {v : Value} {n : Nat} {s : Nat → Int} (h : NewBytes N w v n s) (k : Keeps S w w') (hS : ∀ j, N ≤ j → ¬ S j) : NewBytes N w' v n s := by
  obtain ⟨g, cap, F, h1, h2, h3, h4⟩ := h
  exact ⟨g, cap, F, h1, h2, k.rowIs h3 (hS g h2), h4⟩

/-- a function given by the list of its first values -/
def lf (l : List Int) : Nat → Int := fun i => l.getD i 0

theorem MemAt.alloc {w : World} {b B size : Nat} {f : Nat → Int} {L : List (Nat × Nat)} (h : MemAt w b B size f L) (o : Obj) : MemAt (w.alloc o) b B size f L :=
  h.kept ((Keeps.refl (fun _ => False) w).alloc o) (fun h => h) (fun h => h)
theorem MemAt.below {w w' : World} {b B size : Nat} {f : Nat → Int} {L : List (Nat × Nat)} (h : MemAt w b B size f L) (hb : Below w.heap.size w w') : MemAt w' b B size f L :=
  h.kept (Keeps.of_below (S := fun _ => False) hb) (fun h => h) (fun h => h)

set_option maxRecDepth 100000 in
set_option maxHeartbeats 4000000 in
theorem works_any (w : World) : Calls Try.prog 9 #[] w fun e w' => e = .returned (.bool true) ∧ Below w.heap.size w w' := by
  go_enter Try.func9, Try.ntmps9
  go_wp2_with fail
  refine (new_err 0 _ (by omega)).mono ?_
  rintro e w' ⟨rfl, rfl⟩
  go_wp2_with fail
  refine (new_err 1025 _ (by omega)).mono ?_
  rintro e w' ⟨rfl, rfl⟩
  go_wp2_with fail
  refine (new_ok 1 _ (by omega) (by omega)).mono ?_
  rintro e w1 ⟨b, B, rfl, hb, hB, hb1, hm1⟩
  have HM1 := Lib.hid hm1
  clear hm1
  go_wp2_with (first | (go_at_call 11; refine (num_any _ _).mono ?_; rintro e w' ⟨rfl, rfl⟩) | (go_at_call 17; obtain ⟨cap, hsl, -, -⟩ := HM1.out.slice; refine (size_made _ _ _ _ _ hsl).mono ?_; rintro e w' ⟨rfl, rfl⟩))
  have hlt := HM1.out.lt
  have hlt' := HM1.out.lt'
  refine (write_ok b B _ _ _ 4094 2 2 _ (lf [1, 2]) _ (HM1.out.alloc _) (by simp) (by omega) (src_new _ w1 2 _ _ (by rintro (e | e) <;> omega) (by omega) (fun i hi => by match i, hi with | 0, _ => rfl | 1, _ => rfl))).mono ?_
  rintro e w2 ⟨rfl, hk2, hm2⟩
  have HM2 := Lib.hid hm2
  have hb2 := (hb1.alloc hb1.size (.cells #[.int .u8 1, .int .u8 2] 5)).trans (hk2.below (B := w.heap.size) (by have := hb1.size; simp; omega) (by rintro k hk (e | e) <;> omega))
  clear hm2
  go_wp2_with (first | (go_at_call 11; refine (num_any _ _).mono ?_; rintro e w' ⟨rfl, rfl⟩))
  refine (write_err b B _ _ _ 4095 2 2 _ _ (HM2.out.alloc _) (by omega) (by omega) (by omega)).mono ?_
  rintro e w3 ⟨rfl, hb3⟩
  have HM3 := Lib.hid ((HM2.out.alloc (.cells #[.int .u8 1, .int .u8 2] 5)).below hb3)
  have hb3' := (hb2.alloc hb2.size (.cells #[.int .u8 1, .int .u8 2] 5)).trans (hb3.mono (by have := hb2.size; simp; omega))
  go_wp2_with (first | (go_at_call 11; refine (num_any _ _).mono ?_; rintro e w' ⟨rfl, rfl⟩))
  refine (reads_ok b B _ _ _ 4093 3 _ _ HM3.out (by omega) (by rfl)).mono ?_
  rintro e w4 ⟨rfl, hb4⟩
  have HM4 := Lib.hid (HM3.out.below hb4)
  have hb4' := hb3'.trans (hb4.mono hb3'.size)
  have hlt4 := HM4.out.lt
  have hlt4' := HM4.out.lt'
  go_wp2_with fail
  refine (fill_ok b B _ _ _ 10 3 7 _ HM4.out (by simp [logged]) (by omega)).mono ?_
  rintro e w5 ⟨rfl, hk5, hm5⟩
  have HM5 := Lib.hid hm5
  have hb5 := hb4'.trans (hk5.below (B := w.heap.size) hb4'.size (by rintro k hk (e | e) <;> omega))
  clear hm5
  go_wp2_with (first | (go_at_call 11; refine (num_any _ _).mono ?_; rintro e w' ⟨rfl, rfl⟩))
  refine (reads_ok b B _ _ _ 9 5 _ _ HM5.out (by omega) (by rfl)).mono ?_
  rintro e w6 ⟨rfl, hb6⟩
  have HM6 := Lib.hid (HM5.out.below hb6)
  have hb6' := hb5.trans (hb6.mono hb5.size)
  go_wp2_with fail
  refine (write_ok b B _ _ _ 4096 0 0 _ (fun _ => 0) _ HM6.out (by simp [logged]) (by omega) ⟨by omega, fun h => absurd h (by omega)⟩).mono ?_
  rintro e w7 ⟨rfl, hk7, hm7⟩
  have HM7 := Lib.hid hm7
  have hb7 := hb6'.trans (hk7.below (B := w.heap.size) hb6'.size (by rintro k hk (e | e) <;> omega))
  clear hm7
  go_wp2_with (first | (go_at_call 11; refine (num_any _ _).mono ?_; rintro e w' ⟨rfl, rfl⟩))
  refine (reads_err b B _ _ _ 0 (-1) 2 _ HM7.out (by omega) (by omega) (by omega) (by omega) (by rfl) (by rfl)).mono ?_
  rintro e w8 ⟨rfl, hb8⟩
  have HM8 := Lib.hid (HM7.out.below hb8)
  have hb8' := hb7.trans (hb8.mono hb7.size)
  go_wp2_with fail
  refine (logs_any _ [(4094, 2), (10, 3)] _ 2 0 2 9 _ (by simp) (by omega) (by omega) (by rfl) (by rfl) (fun _ => ⟨w8.heap.size, 0, rfl, fun i hi => by match i, hi with | 0, _ => exact ⟨World.cell?_alloc_new _ _ _ _, World.cell?_alloc_new _ _ _ _, World.cell?_alloc_new _ _ _ _⟩ | 1, _ => exact ⟨World.cell?_alloc_new _ _ _ _, World.cell?_alloc_new _ _ _ _, World.cell?_alloc_new _ _ _ _⟩⟩) (fun W hW => writes_ok b B _ _ _ W ((HM8.out.alloc _).below hW))).mono ?_
  rintro e w9 ⟨rfl, hb9⟩
  have hbx := hb8'.alloc hb8'.size (.cells #[.int .u64 4094, .int .i64 2, .bool false, .int .u64 10, .int .i64 3, .bool false] 35)
  have HM9 := Lib.hid ((HM8.out.alloc (.cells #[.int .u64 4094, .int .i64 2, .bool false, .int .u64 10, .int .i64 3, .bool false] 35)).below hb9)
  have hb9' := hbx.trans (hb9.mono hbx.size)
  clear hbx
  go_wp2_with fail
  refine (clear_ok b B _ _ _ _ HM9.out).mono ?_
  rintro e w10 ⟨rfl, hk10, hm10⟩
  have HM10 := Lib.hid hm10
  have hb10 := hb9'.trans (hk10.below (B := w.heap.size) hb9'.size (by rintro k hk e; have e : k = b := e; omega))
  have hlt10 := hm10.lt
  have hlt10' := hm10.lt'
  clear hm10
  go_wp2_with (first | (go_at_call 11; refine (num_any _ _).mono ?_; rintro e w' ⟨rfl, rfl⟩))
  refine (write_ok b B _ _ _ 0 1 1 _ (lf [5]) _ (HM10.out.alloc _) (by simp) (by omega) (src_new _ w10 1 _ _ (by rintro (e | e) <;> omega) (by omega) (fun i hi => by match i, hi with | 0, _ => rfl))).mono ?_
  rintro e w11 ⟨rfl, hk11, hm11⟩
  have HM11 := Lib.hid hm11
  have hb11 := (hb10.alloc hb10.size (.cells #[.int .u8 5] 5)).trans (hk11.below (B := w.heap.size) (by have := hb10.size; simp; omega) (by rintro k hk (e | e) <;> omega))
  clear hm11
  go_wp2_with (first | (go_at_call 11; refine (num_any _ _).mono ?_; rintro e w' ⟨rfl, rfl⟩))
  refine (logs_any _ [(0, 1)] _ 1 0 1 9 _ (by simp) (by omega) (by omega) (by rfl) (by rfl) (fun _ => ⟨w11.heap.size, 0, rfl, fun i hi => by match i, hi with | 0, _ => exact ⟨World.cell?_alloc_new _ _ _ _, World.cell?_alloc_new _ _ _ _, World.cell?_alloc_new _ _ _ _⟩⟩) (fun W hW => writes_ok b B _ _ _ W ((HM11.out.alloc _).below hW))).mono ?_
  rintro e w12 ⟨rfl, hb12⟩
  have hbx := hb11.alloc hb11.size (.cells #[.int .u64 0, .int .i64 1, .bool false] 35)
  have hb12' := hbx.trans (hb12.mono hbx.size)
  go_wp2_with fail
  go_ret
  exact ⟨rfl, hb12'⟩
end Go.Proofs.Ytobbnfdflogicaa
