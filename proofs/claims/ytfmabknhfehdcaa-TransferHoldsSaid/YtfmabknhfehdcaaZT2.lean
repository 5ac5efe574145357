/- memory: New, Clear, first, Writes (the copy of the log), Clone, Read. -/
import Derived.Test.YtfmabknhfehdcaaZT1
import Derived.Deep.MidRow
import Derived.Deep.CutRange
namespace Go.Proofs.Ytfmabknhfehdcaa
set_option linter.unusedVariables false
set_option linter.unusedSimpArgs false
open Go.RowKit

/-- the cells of a log that is empty -/
def zj (i : Nat) : Value := if i = 768 then .int .i64 0 else if i % 3 = 0 then .int .u64 0 else if i % 3 = 1 then .int .i64 0 else .bool false
def zjl : List Value := (List.range 769).map zj
theorem zjl_length : zjl.length = 769 := by simp [zjl]
theorem zjl_get (i : Nat) (h : i < 769) : zjl[i]? = some (zj i) := by simp [zjl, h]
theorem zj_one (i : Nat) : (zj i).oneCell' = true := by
  unfold zj
  split
  · rfl
  · split
    · rfl
    · split <;> rfl
theorem build_mem (w : World) (a : Option Addr) (n c : Nat) : (Instr.build 74 #[(1, .slice a n c)]).run Try.prog w = .ok (.agg (zjl ++ [Value.slice a n c]).toArray) w := by kernel_rfl
theorem sizeJ : (Try.prog.info? 72).map (·.size) = some 769 := by kernel_rfl

set_option maxRecDepth 100000 in
set_option maxHeartbeats 1000000 in
theorem new_ok (pages : Nat) (w : World) (h1 : 1 ≤ pages) (h2 : pages ≤ 1024) :
   Calls Try.prog 15 #[.int .i64 pages] w fun e w' => ∃ b B, e = .returned (.tuple #[.pointer (some ⟨b, 0, none⟩), .int .i64 0]) ∧ w.heap.size ≤ b ∧ w.heap.size ≤ B ∧ Below w.heap.size w w' ∧
     MemAt w' b B (pages * 4096) (fun _ => 0) [] := by
  have hmk := run_make_row' (P := Try.prog) 29 5 (.int .u8 0) 1 Try.underlying29 infoU8 rfl .i64 .i64 (pages * 4096) (by omega) (by omega)
  have e1 : ((pages * 4096 : Nat) : Int) = (pages : Int) * 4096 := by omega
  rw [e1] at hmk
  have d1 : decide ((pages : Int) < 1) = false := by simp; omega
  have d2 : decide ((1024 : Int) < (pages : Int)) = false := by simp; omega
  go_enter Try.func15, Try.ntmps15
  go_wp2_with ((with_reducible show wpList _ _ _ (⟨some 13, _, _, _, _, _⟩ :: _) _ _); refine wpList_build1 rfl 74 1 (.tmp 12) rfl (.slice (some ⟨w.heap.size, 0, none⟩) (pages * 4096) (pages * 4096)) ?hx (build_mem _ _ _ _) ?_; exact rfl)
  go_ret2
  refine ⟨_, w.heap.size, rfl, by omega, Nat.le_refl _, ((Below.refl _ _).alloc (Nat.le_refl _) _).alloc (by simp) _, ?_⟩
  have hrow := (World.rowIs_made w (.int .u8 0) (pages * 4096) 5).alloc (.cells (zjl ++ [Value.slice (some ⟨w.heap.size, 0, none⟩) (pages * 4096) (pages * 4096)]).toArray 74)
  have hobj := World.rowIs_alloc (w.alloc (.cells (madeCells #[.int .u8 0] (pages * 4096)) 5)) (zjl ++ [Value.slice (some ⟨w.heap.size, 0, none⟩) (pages * 4096) (pages * 4096)]).toArray 74
    (fun i => if i = 769 then Value.slice (some ⟨w.heap.size, 0, none⟩) (pages * 4096) (pages * 4096) else zj i) (fun i hi => by
      simp only [List.size_toArray, List.length_append, zjl_length, List.length_cons, List.length_nil] at hi
      rw [List.getElem?_toArray]
      by_cases h : i = 769
      · subst h; rw [List.getElem?_append_right (by rw [zjl_length]; omega), zjl_length]; simp
      · rw [List.getElem?_append_left (by rw [zjl_length]; omega), zjl_get i (by omega), if_neg h])
  have hsz : (zjl ++ [Value.slice (some ⟨w.heap.size, 0, none⟩) (pages * 4096) (pages * 4096)]).toArray.size = 770 := by simp [zjl_length]
  rw [hsz, World.size_alloc] at hobj
  refine ⟨by omega, by omega, _, _, _, hobj, ?_, ?_, ?_, hrow, Nat.le_refl _, by omega, fun _ _ => rfl⟩
  · rfl
  · rfl
  · exact ⟨fun i hi => by rw [if_neg (by omega)]; exact zj_one i, fun i hi => by simp at hi⟩

end Go.Proofs.Ytfmabknhfehdcaa

namespace Go.Proofs.Ytfmabknhfehdcaa
open Go.RowKit

/-- v is a slice of n bytes s in a block from N on, at the head of that block. -/
def NewBytes (N : Nat) (w : World) (v : Value) (n : Nat) (s : Nat → Int) : Prop :=
  ∃ g cap F, v = .slice (some ⟨g, 0, none⟩) n cap ∧ N ≤ g ∧ w.rowIs g 5 cap F ∧ n ≤ cap ∧ cap ≤ 9223372036854775807 ∧ ∀ i, i < n → F i = .int .u8 (s i)

theorem newBytes_of_owns {N : Nat} {w : World} {v : Value} {n : Nat} {s : Nat → Int} (h : w.ownsRow N 5 1 v n ((List.range n).map fun i => .int .u8 (s i))) (hv : v ≠ .slice none 0 0) : NewBytes N w v n s := by
  obtain ⟨h1, h2⟩ := h
  rcases h2 with ⟨h2, -⟩ | ⟨g, cap, cur, rfl, hg, hh, hn, hc, hs, hx⟩
  · exact absurd h2 hv
  · refine ⟨g, cap, fun i => cur.getD i undef, rfl, hg, ⟨cur, hh, by omega, fun i hi => ?_⟩, hn, ?_, fun i hi => ?_⟩
    · simp only [Array.getD_eq_getD_getElem?]
      rw [Array.getElem?_eq_getElem (by omega)]; rfl
    · unfold maxLen at hc; omega
    · have e1 : cur.toList[i]? = some (.int .u8 (s i)) := by
        have : (cur.toList.take (n * 1))[i]? = cur.toList[i]? := by rw [List.getElem?_take, if_pos (by omega)]
        rw [← this, hx]; simp [hi]
      simp only [Array.getD_eq_getD_getElem?]
      rw [← Array.getElem?_toList, e1]; rfl

set_option maxHeartbeats 1000000 in
theorem clone_some (n c : Nat) (ad : Addr) (s : Nat → Int) (S : Nat → Prop) (w : World) (h : Src S w (some ad) n s) (hn : n ≤ 1073741824) :
   Calls Try.prog 43 #[.slice (some ad) n c] w fun e w' => ∃ v, e = .returned v ∧ NewBytes w.heap.size w' v n s ∧ Below w.heap.size w w' := by
  obtain ⟨i0, hi, hz0, hz1, hz2⟩ := info_parts infoU8
  have H := Lib.hid h
  clear h
  have hws : ∀ W : World, (W.alloc (.cells #[] 5)).ownsRow W.heap.size 5 1 (.slice (some ⟨W.heap.size, 0, none⟩) 0 0) 0 [] := fun W =>
    ⟨rfl, .inr ⟨W.heap.size, 0, #[], rfl, Nat.le_refl _, heap_alloc_new _ _, Nat.le_refl _, by simp [maxLen], rfl, rfl⟩⟩
  go_enter Try.func43, Try.ntmps43
  go_wp2_with ((at_builtin; refine wpList_append_own _ rfl _ _ 29 rfl w.heap.size 5 i0 (.int .u8 0) 1 1 Try.underlying29 hi hz0 hz1 hz2 rfl (by decide) _ _ _ rfl (hws w) ad n c ((List.range n).map fun i => .int .u8 (s i)) rfl (by simp) ?c1 ?c2 ?c3 ?c4 ?c5 ?_))
  case c1 =>
    intro j u hu
    simp only [List.getElem?_map, Option.map_eq_some_iff] at hu
    obtain ⟨k, hk, rfl⟩ := hu
    simp only [List.range_eq_range'] at hk
    by_cases hj : j < n
    · simp [hj] at hk; subst hk
      obtain ⟨g, o, e, -, hc⟩ := H.out.at' (by omega)
      simp only [Option.some.injEq] at e
      subst e
      rw [Addr.add_mid, World.cell?_alloc_past _ _ _ (World.block_lt_of_cell? _ _ (hc j hj))]
      exact hc j hj
    · simp [hj] at hk
  case c2 => intro u hu; simp at hu; obtain ⟨k, -, rfl⟩ := hu; rfl
  case c3 => unfold maxLen; omega
  case c4 => omega
  case c5 => simp
  intro v' w1 hown hgr hnil
  go_wp2
  go_ret
  refine ⟨_, rfl, newBytes_of_owns (by simpa using hown) ?_, ((Below.refl _ w).alloc (Nat.le_refl _) _).grown hgr (by simp) (fun k e => by cases e; exact Nat.le_refl _)⟩
  exact hnil

set_option maxHeartbeats 1000000 in
theorem clone_nil (w : World) :
   Calls Try.prog 43 #[.slice none 0 0] w fun e w' => e = .returned (.slice none 0 0) ∧ w = w' := by
  go_enter Try.func43, Try.ntmps43
  go_wp2
  go_ret
  exact ⟨rfl, rfl⟩

set_option maxHeartbeats 1000000 in
theorem read_ok (b B size : Nat) (f : Nat → Int) (L : List (Nat × Nat)) (addr n : Nat) (w : World) (h : MemAt w b B size f L) (hf : addr + n ≤ size) :
   Calls Try.prog 22 #[.pointer (some ⟨b, 0, none⟩), .int .u64 addr, .int .i64 n] w fun e w' =>
     ∃ v, e = .returned (.tuple #[v, .int .i64 0]) ∧ NewBytes w.heap.size w' v n (fun i => f (addr + i)) ∧ Below w.heap.size w w' := by
  have hs := h.small
  obtain ⟨c0, hsl, hc1, hc2⟩ := h.slice
  have hM := Lib.hid h
  have hsl' := Lib.hid hsl
  clear h hsl
  go_enter Try.func22, Try.ntmps22
  go_wp2_with fail
  refine (span_ok _ _ _ _ _ n _ hsl'.out hs hc1 hc2 hf).mono ?_
  rintro e w1 ⟨⟨ad, rfl, had⟩, hb⟩
  have had' := Lib.hid had
  have hM1 := Lib.hid (hM.out.kept (Keeps.of_below (S := fun _ => False) hb) (fun h => h) (fun h => h))
  clear had
  go_wp2_with fail
  refine (clone_some n n ad (fun i => f (addr + i)) (fun _ => False) _ ⟨by omega, fun hn => ⟨B, addr, by rw [had'.out hn], fun h => h, fun i hi => hM1.out.cells (addr + i) (by omega)⟩⟩ (by omega)).mono ?_
  rintro e w2 ⟨v, rfl, hv, hb2⟩
  go_wp2_with fail
  go_ret2
  obtain ⟨g, cap, F, hg1, hg2, hg3⟩ := hv
  have := hb.size
  exact ⟨_, rfl, ⟨g, cap, F, hg1, by omega, hg3⟩, hb.trans (hb2.mono this)⟩

set_option maxHeartbeats 1000000 in
theorem read_err (b B size : Nat) (f : Nat → Int) (L : List (Nat × Nat)) (addr n : Int) (w : World) (h : MemAt w b B size f L)
    (ha : 0 ≤ addr) (ha' : addr ≤ 18446744073709551615) (hn : -9223372036854775808 ≤ n) (hn' : n ≤ 9223372036854775807) (hc : (chk size addr n != 0) = true) :
   Calls Try.prog 22 #[.pointer (some ⟨b, 0, none⟩), .int .u64 addr, .int .i64 n] w fun e w' =>
     e = .returned (.tuple #[.slice none 0 0, .int .i64 (chk size addr n)]) ∧ Below w.heap.size w w' := by
  have hs := h.small
  obtain ⟨c0, hsl, -, -⟩ := h.slice
  have hsl' := Lib.hid hsl
  have HC := Lib.hid hc
  generalize hk : chk size addr n = k at *
  have HK := Lib.hid hk
  clear h hsl hc hk
  go_enter Try.func22, Try.ntmps22
  go_wp2_with fail
  refine (span_err _ _ _ _ _ _ _ hsl'.out hs ha ha' hn hn' (by rw [HK.out]; exact HC.out)).mono ?_
  rw [HK.out]
  rintro e w1 ⟨rfl, hb⟩
  go_wp2_with fail
  refine (clone_nil _).mono ?_
  rintro e w2 ⟨rfl, rfl⟩
  go_wp2_with fail
  go_ret2
  exact ⟨rfl, hb⟩

end Go.Proofs.Ytfmabknhfehdcaa

namespace Go.Proofs.Ytfmabknhfehdcaa
open Go.RowKit

/-- Block g is a log: L. -/
def JAt (w : World) (g : Nat) (L : List (Nat × Nat)) : Prop := ∃ G, w.rowIs g 72 769 G ∧ G 768 = .int .i64 L.length ∧ RingOK G L

theorem RingOK.congr {G H : Nat → Value} {L : List (Nat × Nat)} (h : RingOK G L) (e : ∀ i, i < 769 → G i = H i) : RingOK H L := by
  refine ⟨fun i hi => by rw [← e i hi]; exact h.one i hi, ?_⟩
  intro i hi hr
  have hm := Nat.mod_lt i (show 0 < 256 by omega)
  obtain ⟨a1, a2, a3⟩ := h.at' i hi hr
  exact ⟨(e _ (by omega)).symm.trans a1, (e _ (by omega)).symm.trans a2, (e _ (by omega)).symm.trans a3⟩

theorem JAt.kept {S : Nat → Prop} {w w' : World} {g : Nat} {L : List (Nat × Nat)} (h : JAt w g L) (k : Keeps S w w') (hg : ¬ S g) : JAt w' g L := by
  obtain ⟨G, h1, h2⟩ := h
  exact ⟨G, k.rowIs h1 hg, h2⟩

theorem oneCells {G : Nat → Value} {n : Nat} (h : ∀ i, i < n → (G i).oneCell' = true) : (((List.range n).map fun j => G (0 + j)).toArray).all (·.oneCell') = true :=
  all_oneCell_toArray fun v hv => by
    simp only [List.mem_map, List.mem_range] at hv
    obtain ⟨i, hi, rfl⟩ := hv
    rw [Nat.zero_add]; exact h i hi

end Go.Proofs.Ytfmabknhfehdcaa

namespace Go.Proofs.Ytfmabknhfehdcaa
open Go.RowKit

/-- The string of n bytes. -/
def strOf (n : Nat) (f : Nat → Int) : ByteArray := ⟨((List.range n).map fun i => UInt8.ofNat (f i).toNat).toArray⟩
theorem strOf_congr {n : Nat} {f g : Nat → Int} (h : ∀ i, i < n → f i = g i) : strOf n f = strOf n g := by
  unfold strOf
  congr 2
  exact List.map_congr_left fun i hi => by rw [h i (List.mem_range.1 hi)]

theorem foldl_pushes : ∀ (l : List Int) (r : ByteArray), l.foldl (fun r n => r.push (UInt8.ofNat n.toNat)) r = ⟨r.data ++ (l.map fun n => UInt8.ofNat n.toNat).toArray⟩
  | [], r => by simp
  | b :: l, r => by
    simp only [List.foldl_cons]
    rw [foldl_pushes l]
    simp [ByteArray.push]

theorem conv_str (w : World) (a : Addr) (n cap : Nat) (f : Nat → Int) (hc : ∀ j, j < n → w.cell? (a.add j) = some (.int .u8 (f j))) :
    (convert 29 9 (.slice (some a) n cap)).run Try.prog w = .ok (.string (strOf n f)) w := by
  rw [run_convert_bytes_string w 29 9 5 (some a) n cap Try.underlying29 Try.underlying5 Try.underlying9]
  have hl := run_loadCells_list (P := Try.prog) w a (((List.range n).map f).map (Value.int .u8)) (fun j v hj => by
    have hj' : j < n := by
      have := (List.getElem?_eq_some_iff.1 hj).1
      simpa using this
    rw [hc j hj']
    simp [hj'] at hj
    rw [← hj])
  simp only [List.length_map, List.length_range] at hl
  rw [run_bytesToString w a n cap _ hl, foldl_pushes]
  have he0 : ByteArray.empty.data = #[] := rfl
  rw [he0]
  simp [strOf, Function.comp_def]

theorem newBytes_str {N : Nat} {w : World} {v : Value} {n : Nat} {s : Nat → Int} (h : NewBytes N w v n s) : (convert 29 9 v).run Try.prog w = .ok (.string (strOf n s)) w := by
  obtain ⟨g, cap, F, rfl, h1, h2, h3, h4, h5⟩ := h
  exact conv_str w _ n cap s fun j hj => by rw [Addr.add_mid, Nat.zero_add, h2.cell (by omega), h5 j hj]

theorem write_ok' (b B size : Nat) (f : Nat → Int) (L : List (Nat × Nat)) (addr n c : Nat) (ao : Option Addr) (s : Nat → Int) (A : Int) (w : World) (h : MemAt w b B size f L)
    (hL : L.length < 4611686018427387904) (hf : addr + n ≤ size) (hsrc : Src (Two b B) w ao n s) (hA : A = addr) :
   Calls Try.prog 26 #[.pointer (some ⟨b, 0, none⟩), .int .u64 A, .slice ao n c] w fun e w' =>
     e = .returned (.int .i64 0) ∧ Keeps (Two b B) w w' ∧ MemAt w' b B size (upd f addr n s) (logged L addr n) := by
  subst hA
  exact write_ok b B size f L addr n c ao s w h hL hf hsrc

theorem write_err' (b B size : Nat) (f : Nat → Int) (L : List (Nat × Nat)) (addr n c : Nat) (ao : Option Addr) (A : Int) (w : World) (h : MemAt w b B size f L)
    (ha' : addr ≤ 18446744073709551615) (hn : n ≤ 4611686018427387904) (hf : size < addr + n) (hA : A = addr) :
   Calls Try.prog 26 #[.pointer (some ⟨b, 0, none⟩), .int .u64 A, .slice ao n c] w fun e w' =>
     e = .returned (.int .i64 3) ∧ Below w.heap.size w w' := by
  subst hA
  exact write_err b B size f L addr n c ao w h ha' hn hf

theorem check_is (b B size : Nat) (f : Nat → Int) (L : List (Nat × Nat)) (addr n k : Int) (w : World) (h : MemAt w b B size f L)
    (ha : 0 ≤ addr) (ha' : addr ≤ 18446744073709551615) (hn : -9223372036854775808 ≤ n) (hn' : n ≤ 9223372036854775807) (hk : chk size addr n = k) :
   Calls Try.prog 57 #[.pointer (some ⟨b, 0, none⟩), .int .u64 addr, .int .i64 n] w fun e w' => e = .returned (.int .i64 k) ∧ Below w.heap.size w w' := by
  subst hk
  obtain ⟨cap, hsl, -, -⟩ := h.slice
  exact check_made b ⟨B, 0, none⟩ size cap addr n w hsl h.small ha ha' hn hn'

theorem size_is (b B size : Nat) (f : Nat → Int) (L : List (Nat × Nat)) (k : Int) (w : World) (h : MemAt w b B size f L) (hk : k = size) :
   Calls Try.prog 34 #[.pointer (some ⟨b, 0, none⟩)] w fun e w' => e = .returned (.int .i64 k) ∧ w = w' := by
  subst hk
  obtain ⟨cap, hsl, -, -⟩ := h.slice
  exact size_made _ _ _ _ _ hsl

theorem NewBytes.kept {N : Nat} {S : Nat → Prop} {w w' : World} {v : Value} {n : Nat} {s : Nat → Int} (h : NewBytes N w v n s) (k : Keeps S w w') (hS : ∀ j, N ≤ j → ¬ S j) : NewBytes N w' v n s := by
  obtain ⟨g, cap, F, h1, h2, h3, h4⟩ := h
  exact ⟨g, cap, F, h1, h2, k.rowIs h3 (hS g h2), h4⟩

/-- a function given by the list of its first values -/
def lf (l : List Int) : Nat → Int := fun i => l.getD i 0

theorem MemAt.alloc {w : World} {b B size : Nat} {f : Nat → Int} {L : List (Nat × Nat)} (h : MemAt w b B size f L) (o : Obj) : MemAt (w.alloc o) b B size f L :=
  h.kept ((Keeps.refl (fun _ => False) w).alloc o) (fun h => h) (fun h => h)
theorem MemAt.below {w w' : World} {b B size : Nat} {f : Nat → Int} {L : List (Nat × Nat)} (h : MemAt w b B size f L) (hb : Below w.heap.size w w') : MemAt w' b B size f L :=
  h.kept (Keeps.of_below (S := fun _ => False) hb) (fun h => h) (fun h => h)

end Go.Proofs.Ytfmabknhfehdcaa

namespace Go.Proofs.Ytfmabknhfehdcaa
open Go.RowKit

/-- The slice at ao holds the spans S. -/
def SpanSrc (w : World) (ao : Option Addr) (S : List (Nat × Nat)) : Prop :=
  0 < S.length → ∃ g o, ao = some ⟨g, o, none⟩ ∧ ∀ i (h : i < S.length), w.cell? ⟨g, o + i * 3, none⟩ = some (.int .u64 (S[i]'h).1) ∧
    w.cell? ⟨g, o + i * 3 + 1, none⟩ = some (.int .i64 (S[i]'h).2) ∧ w.cell? ⟨g, o + i * 3 + 2, none⟩ = some (.bool false)

theorem SpanSrc.of {w w' : World} {ao : Option Addr} {S : List (Nat × Nat)} (h : SpanSrc w ao S) (hc : ∀ p v, w.cell? p = some v → w'.cell? p = some v) : SpanSrc w' ao S := fun h0 => by
  obtain ⟨g, o, e, hx⟩ := h h0
  exact ⟨g, o, e, fun i hi => ⟨hc _ _ (hx i hi).1, hc _ _ (hx i hi).2.1, hc _ _ (hx i hi).2.2⟩⟩

@[go_sem] theorem eqnil_seq (w : World) (k : Nat) (x y : Array Value) : (binOp .eql 78 (.func (.func k) x y) .nilFunc).run Try.prog w = .ok (.bool false) w := by kernel_rfl

end Go.Proofs.Ytfmabknhfehdcaa

namespace Go.Proofs.Ytfmabknhfehdcaa
open Go.RowKit

/-- The cells of the spans S, in a row. -/
def spanCells (S : List (Nat × Nat)) : List Value := S.flatMap fun s => [.int .u64 s.1, .int .i64 s.2, .bool false]

theorem ownsRow_keeps {w w' : World} {S : Nat → Prop} {base e size n : Nat} {v : Value} {xs : List Value} (h : w.ownsRow base e size v n xs) (k : Keeps S w w') (hS : ∀ j, base ≤ j → ¬ S j) : w'.ownsRow base e size v n xs := by
  refine ⟨h.1, h.2.imp (fun h => h) ?_⟩
  rintro ⟨g, cap, cur, rfl, hb, hg, rest⟩
  exact ⟨g, cap, cur, rfl, hb, (k.block g (lt_of_block hg) (hS g hb)).trans hg, rest⟩

theorem ownsRow_shape {w : World} {base e size n : Nat} {v : Value} {xs : List Value} (h : w.ownsRow base e size v n xs) : ∃ ao c, v = .slice ao n c ∧ n ≤ c ∧ c ≤ maxLen := by
  rcases h.2 with ⟨rfl, rfl⟩ | ⟨g, cap, cur, rfl, -, -, h1, h2, -⟩
  · exact ⟨_, _, rfl, Nat.le_refl _, Nat.zero_le _⟩
  · exact ⟨_, _, rfl, h1, h2⟩

theorem SpanSrc.drop {w : World} {ao : Option Addr} {L : List (Nat × Nat)} {fr c : Nat} (h : SpanSrc w ao L) (hc : L.length ≤ c) : SpanSrc w (if c = fr then ao else Option.map (fun x => x.add (fr * 3)) ao) (L.drop fr) := by
  intro h0
  rw [List.length_drop] at h0
  obtain ⟨g, o, rfl, hx⟩ := h (by omega)
  rw [if_neg (by omega)]
  refine ⟨g, o + fr * 3, by simp [Addr.add_mid], fun i hi => ?_⟩
  rw [List.length_drop] at hi
  obtain ⟨h1, h2, h3⟩ := hx (fr + i) (by omega)
  rw [show o + (fr + i) * 3 = o + fr * 3 + i * 3 by omega] at h1 h2 h3
  simp only [List.getElem_drop]
  exact ⟨h1, h2, h3⟩

end Go.Proofs.Ytfmabknhfehdcaa
