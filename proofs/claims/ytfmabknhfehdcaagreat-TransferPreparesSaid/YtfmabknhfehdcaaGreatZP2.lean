/- memory: reads. -/
import Derived.Test.YtfmabknhfehdcaaGreatZP1
import Derived.Deep.CutRange
import Derived.StillTailTactics
import Derived.Deep.RegionHeld3
namespace Go.Proofs.YtfmabknhfehdcaaGreat
set_option linter.unusedSimpArgs false
set_option linter.unusedVariables false
open Go.RowKit
/-- The string of n bytes. -/
def strOf (n : Nat) (f : Nat → Int) : ByteArray := ⟨((List.range n).map fun i => UInt8.ofNat (f i).toNat).toArray⟩
theorem strOf_congr {n : Nat} {f g : Nat → Int} (h : ∀ i, i < n → f i = g i) : strOf n f = strOf n g := by
 unfold strOf
 congr 2
 exact List.map_congr_left fun i hi => by rw [h i (List.mem_range.1 hi)]
theorem foldl_pushes : ∀ (l : List Int) (r : ByteArray), l.foldl (fun r n => r.push (UInt8.ofNat n.toNat)) r = ⟨r.data ++ (l.map fun n => UInt8.ofNat n.toNat).toArray⟩
 | [], r => by simp
 | b :: l, r => by
  simp only [List.foldl_cons]
  rw [foldl_pushes l]
  simp [ByteArray.push]
theorem conv_str (w : World) (a : Addr) (n cap : Nat) (f : Nat → Int) (hc : ∀ j, j < n → w.cell? (a.add j) = some (.int .u8 (f j))) :
  (convert 31 9 (.slice (some a) n cap)).run Tryz.prog w = .ok (.string (strOf n f)) w := by
 rw [run_convert_bytes_string w 31 9 5 (some a) n cap Tryz.underlying31 Tryz.underlying5 Tryz.underlying9]
 have hl := run_loadCells_list (P := Tryz.prog) w a (((List.range n).map f).map (Value.int .u8)) (fun j v hj => by
  have hj' : j < n := by
   have := (List.getElem?_eq_some_iff.1 hj).1
   simpa using this
  rw [hc j hj']
  simp [hj'] at hj
  rw [← hj])
 simp only [List.length_map, List.length_range] at hl
 rw [run_bytesToString w a n cap _ hl, foldl_pushes]
 have he0 : ByteArray.empty.data = #[] := rfl
 rw [he0]
 simp [strOf, Function.comp_def]
theorem newBytes_str {N : Nat} {w : World} {v : Value} {n : Nat} {s : Nat → Int} (h : NewBytes N w v n s) : (convert 31 9 v).run Tryz.prog w = .ok (.string (strOf n s)) w := by
 obtain ⟨g, cap, F, rfl, h1, h2, h3, h4, h5⟩ := h
 exact conv_str w _ n cap s fun j hj => by rw [Addr.add_mid, Nat.zero_add, h2.cell (by omega), h5 j hj]
theorem write_ok' (b B size : Nat) (f : Nat → Int) (L : List (Nat × Nat)) (addr n c : Nat) (ao : Option Addr) (s : Nat → Int) (A : Int) (w : World) (h : MemAt w b B size f L)
  (hL : L.length < 4611686018427387904) (hf : addr + n ≤ size) (hsrc : Src (Two b B) w ao n s) (hA : A = addr) :
  Calls Tryz.prog 11 #[.pointer (some ⟨b, 0, none⟩), .int .u64 A, .slice ao n c] w fun e w' =>
   e = .returned (.int .i64 0) ∧ Keeps (Two b B) w w' ∧ MemAt w' b B size (upd f addr n s) (logged L addr n) := by
 subst hA
 exact write_ok b B size f L addr n c ao s w h hL hf hsrc
theorem write_err' (b B size : Nat) (f : Nat → Int) (L : List (Nat × Nat)) (addr n c : Nat) (ao : Option Addr) (A : Int) (w : World) (h : MemAt w b B size f L)
  (ha' : addr ≤ 18446744073709551615) (hn : n ≤ 4611686018427387904) (hf : size < addr + n) (hA : A = addr) :
  Calls Tryz.prog 11 #[.pointer (some ⟨b, 0, none⟩), .int .u64 A, .slice ao n c] w fun e w' =>
   e = .returned (.int .i64 3) ∧ Below w.heap.size w w' := by
 subst hA
 exact write_err b B size f L addr n c ao w h ha' hn hf
theorem check_is (b B size : Nat) (f : Nat → Int) (L : List (Nat × Nat)) (addr n k : Int) (w : World) (h : MemAt w b B size f L)
  (ha : 0 ≤ addr) (ha' : addr ≤ 18446744073709551615) (hn : -9223372036854775808 ≤ n) (hn' : n ≤ 9223372036854775807) (hk : chk size addr n = k) :
  Calls Tryz.prog 79 #[.pointer (some ⟨b, 0, none⟩), .int .u64 addr, .int .i64 n] w fun e w' => e = .returned (.int .i64 k) ∧ Below w.heap.size w w' := by
 subst hk
 obtain ⟨cap, hsl, -, -⟩ := h.slice
 exact check_made b ⟨B, 0, none⟩ size cap addr n w hsl h.small ha ha' hn hn'
theorem size_is (b B size : Nat) (f : Nat → Int) (L : List (Nat × Nat)) (k : Int) (w : World) (h : MemAt w b B size f L) (hk : k = size) :
  Calls Tryz.prog 19 #[.pointer (some ⟨b, 0, none⟩)] w fun e w' => e = .returned (.int .i64 k) ∧ w = w' := by
 subst hk
 obtain ⟨cap, hsl, -, -⟩ := h.slice
 exact size_made _ _ _ _ _ hsl
theorem NewBytes.kept {N : Nat} {S : Nat → Prop} {w w' : World} {v : Value} {n : Nat} {s : Nat → Int} (h : NewBytes N w v n s) (k : Keeps S w w') (hS : ∀ j, N ≤ j → ¬ S j) : NewBytes N w' v n s := by
 obtain ⟨g, cap, F, h1, h2, h3, h4⟩ := h
 exact ⟨g, cap, F, h1, h2, k.rowIs h3 (hS g h2), h4⟩
/-- a function given by the list of its first values -/
def lf (l : List Int) : Nat → Int := fun i => l.getD i 0
theorem MemAt.alloc {w : World} {b B size : Nat} {f : Nat → Int} {L : List (Nat × Nat)} (h : MemAt w b B size f L) (o : Obj) : MemAt (w.alloc o) b B size f L :=
 h.kept ((Keeps.refl (fun _ => False) w).alloc o) (fun h => h) (fun h => h)
theorem MemAt.below {w w' : World} {b B size : Nat} {f : Nat → Int} {L : List (Nat × Nat)} (h : MemAt w b B size f L) (hb : Below w.heap.size w w') : MemAt w' b B size f L :=
 h.kept (Keeps.of_below (S := fun _ => False) hb) (fun h => h) (fun h => h)
end Go.Proofs.YtfmabknhfehdcaaGreat
namespace Go.Proofs.YtfmabknhfehdcaaGreat
set_option linter.unusedSimpArgs false
set_option linter.unusedVariables false
open Go.RowKit
/-- The slice at ao holds the spans S. -/
def SpanSrc (w : World) (ao : Option Addr) (S : List (Nat × Nat)) : Prop :=
 0 < S.length → ∃ g o, ao = some ⟨g, o, none⟩ ∧ ∀ i (h : i < S.length), w.cell? ⟨g, o + i * 3, none⟩ = some (.int .u64 (S[i]'h).1) ∧
  w.cell? ⟨g, o + i * 3 + 1, none⟩ = some (.int .i64 (S[i]'h).2) ∧ w.cell? ⟨g, o + i * 3 + 2, none⟩ = some (.bool false)
theorem SpanSrc.of {w w' : World} {ao : Option Addr} {S : List (Nat × Nat)} (h : SpanSrc w ao S) (hc : ∀ p v, w.cell? p = some v → w'.cell? p = some v) : SpanSrc w' ao S := fun h0 => by
 obtain ⟨g, o, e, hx⟩ := h h0
 exact ⟨g, o, e, fun i hi => ⟨hc _ _ (hx i hi).1, hc _ _ (hx i hi).2.1, hc _ _ (hx i hi).2.2⟩⟩
end Go.Proofs.YtfmabknhfehdcaaGreat
namespace Go.Proofs.YtfmabknhfehdcaaGreat
set_option linter.unusedSimpArgs false
set_option linter.unusedVariables false
open Go.RowKit
/-- The cells of the spans S, in a row. -/
def spanCells (S : List (Nat × Nat)) : List Value := S.flatMap fun s => [.int .u64 s.1, .int .i64 s.2, .bool false]
theorem infoSpan : (Tryz.prog.info? 65).map (fun i => (i.zero, i.size, i.bytes)) = some (some (.agg #[.int .u64 0, .int .i64 0, .bool false]), 3, 24) := by kernel_rfl
theorem spanCells_append (S : List (Nat × Nat)) (s : Nat × Nat) : spanCells (S ++ [s]) = spanCells S ++ [.int .u64 s.1, .int .i64 s.2, .bool false] := by simp [spanCells]
theorem spanCells_length : ∀ S : List (Nat × Nat), (spanCells S).length = S.length * 3
 | [] => rfl
 | s :: S => by
  have := spanCells_length S
  simp only [spanCells, List.flatMap_cons, List.length_append, List.length_cons, List.length_nil] at this ⊢
  omega
theorem spanCells_get : ∀ (S : List (Nat × Nat)) (i : Nat) (h : i < S.length), (spanCells S)[i * 3]? = some (.int .u64 (S[i]'h).1) ∧ (spanCells S)[i * 3 + 1]? = some (.int .i64 (S[i]'h).2) ∧ (spanCells S)[i * 3 + 2]? = some (.bool false)
 | s :: S, 0, _ => ⟨rfl, rfl, rfl⟩
 | s :: S, i + 1, h => by
  have := spanCells_get S i (by simpa using h)
  have e : spanCells (s :: S) = .int .u64 s.1 :: .int .i64 s.2 :: .bool false :: spanCells S := rfl
  rw [e, show (i + 1) * 3 = i * 3 + 3 by omega, show i * 3 + 3 + 1 = (i * 3 + 1) + 3 by omega, show i * 3 + 3 + 2 = (i * 3 + 2) + 3 by omega]
  exact this
theorem ownsRow_keeps {w w' : World} {S : Nat → Prop} {base e size n : Nat} {v : Value} {xs : List Value} (h : w.ownsRow base e size v n xs) (k : Keeps S w w') (hS : ∀ j, base ≤ j → ¬ S j) : w'.ownsRow base e size v n xs := by
 refine ⟨h.1, h.2.imp (fun h => h) ?_⟩
 rintro ⟨g, cap, cur, rfl, hb, hg, rest⟩
 exact ⟨g, cap, cur, rfl, hb, (k.block g (lt_of_block hg) (hS g hb)).trans hg, rest⟩
theorem ownsRow_shape {w : World} {base e size n : Nat} {v : Value} {xs : List Value} (h : w.ownsRow base e size v n xs) : ∃ ao c, v = .slice ao n c ∧ n ≤ c ∧ c ≤ maxLen := by
 rcases h.2 with ⟨rfl, rfl⟩ | ⟨g, cap, cur, rfl, -, -, h1, h2, -⟩
 ·exact ⟨_, _, rfl, Nat.le_refl _, Nat.zero_le _⟩
 ·exact ⟨_, _, rfl, h1, h2⟩
theorem ownsRow_span {w : World} {base c : Nat} {ao : Option Addr} {S : List (Nat × Nat)} (h : w.ownsRow base 65 3 (.slice ao S.length c) S.length (spanCells S)) : SpanSrc w ao S := by
 intro h0
 rcases h.2 with ⟨-, h1⟩ | ⟨g, cap, cur, e, hb, hg, rest⟩
 ·omega
 ·cases e
  refine ⟨g, 0, rfl, fun i hi => ?_⟩
  have hc := h.cells (g := g) rfl
  obtain ⟨h1, h2, h3⟩ := spanCells_get S i hi
  have e1 := hc _ _ h1
  have e2 := hc _ _ h2
  have e3 := hc _ _ h3
  simp only [Addr.add_mid] at e1 e2 e3
  exact ⟨e1, e2, e3⟩
theorem SpanSrc.drop {w : World} {ao : Option Addr} {L : List (Nat × Nat)} {fr c : Nat} (h : SpanSrc w ao L) (hc : L.length ≤ c) : SpanSrc w (if c = fr then ao else Option.map (fun x => x.add (fr * 3)) ao) (L.drop fr) := by
 intro h0
 rw [List.length_drop] at h0
 obtain ⟨g, o, rfl, hx⟩ := h (by omega)
 rw [if_neg (by omega)]
 refine ⟨g, o + fr * 3, by simp [Addr.add_mid], fun i hi => ?_⟩
 rw [List.length_drop] at hi
 obtain ⟨h1, h2, h3⟩ := hx (fr + i) (by omega)
 rw [show o + (fr + i) * 3 = o + fr * 3 + i * 3 by omega] at h1 h2 h3
 simp only [List.getElem_drop]
 exact ⟨h1, h2, h3⟩
end Go.Proofs.YtfmabknhfehdcaaGreat
namespace Go.Proofs.YtfmabknhfehdcaaGreat
set_option linter.unusedSimpArgs false
set_option linter.unusedVariables false
open Go.RowKit
/-- There is no memory at p: nil, or a struct whose bytes are nil. -/
def NoMem (w : World) (p : Option Addr) : Prop := p = none ∨ ∃ b m k, p = some ⟨b, 0, none⟩ ∧ w.cell? ⟨b, 769, none⟩ = some (.slice none m k)
theorem NoMem.below {w w' : World} {p : Option Addr} (h : NoMem w p) (hb : Below w.heap.size w w') : NoMem w' p := by
 rcases h with rfl | ⟨b, m, k, rfl, hc⟩
 ·exact .inl rfl
 ·exact .inr ⟨b, m, k, rfl, (hb.cell (World.block_lt_of_cell? _ _ hc)).trans hc⟩
section
variable (p : Option Addr) (w : World) (h : NoMem w p)
include h
end
theorem fold_set : ∀ (vs : List Value) (cs : Array Value) (off k : Nat), off + k + vs.length ≤ cs.size →
  ((vs.zipIdx k).foldl (fun cs (c, j) => cs.setIfInBounds (off + j) c) cs).size = cs.size ∧
  ∀ i, ((vs.zipIdx k).foldl (fun cs (c, j) => cs.setIfInBounds (off + j) c) cs)[i]? = if off + k ≤ i ∧ i < off + k + vs.length then vs[i - (off + k)]? else cs[i]?
 | [], cs, off, k, _ => ⟨rfl, fun i => by rw [if_neg (by simp only [List.length_nil]; omega)]; rfl⟩
 | v :: vs, cs, off, k, h => by
  simp only [List.length_cons] at h
  obtain ⟨h1, h2⟩ := fold_set vs (cs.setIfInBounds (off + k) v) off (k + 1) (by simp; omega)
  simp only [List.zipIdx_cons, List.foldl_cons]
  refine ⟨by rw [h1]; simp, fun i => ?_⟩
  rw [h2 i, Array.getElem?_setIfInBounds, List.length_cons]
  by_cases e : i = off + k
  ·subst e
   rw [if_neg (by omega), if_pos rfl, if_pos (by omega), if_pos (by omega), Nat.sub_self]; rfl
  ·by_cases e2 : off + (k + 1) ≤ i ∧ i < off + (k + 1) + vs.length
   ·rw [if_pos e2, if_pos (by omega), show i - (off + k) = (i - (off + (k + 1))) + 1 by omega]; rfl
   ·rw [if_neg e2, if_neg (fun e' => e e'.symm), if_neg (by omega)]
set_option maxRecDepth 100000 in
theorem build_memory (w : World) (V : List Value) (hV : V.length = 769) (a : Option Addr) (n c : Nat) :
  ∃ r : Array Value, (Instr.build 90 #[(0, .agg V.toArray), (1, .slice a n c)]).run Tryz.prog w = .ok (.agg r) w ∧ r.size = 770 ∧ (∀ i, i < 769 → r[i]? = V[i]?) ∧ r[769]? = some (.slice a n c) := by
 have hz : (zeroValue 90).run Tryz.prog w = .ok (.agg (zjl ++ [Value.slice none 0 0]).toArray) w := by kernel_rfl
 have hs : (zjl ++ [Value.slice none 0 0]).toArray.size = 770 := by simp [zjl_length]
 unfold Instr.build
 simp only [Sem.run_bind, hz, Result.andThen_ok, run_underlying Tryz.underlying90]
 have hp : ∀ fs : Array Field, Tryz.prog.underlying 90 = some (.struct fs) → (fs.mapM fun (f : Field) => (do pure (f.offset, ← sizeOf f.type) : Sem (Nat × Nat))).run Tryz.prog w = .ok #[(0, 769), (769, 1)] w := by
  intro fs hf
  rw [Tryz.underlying90] at hf
  cases hf
  kernel_rfl
 simp only [hp _ Tryz.underlying90, Result.andThen_ok]
 have hzc : (Value.agg (zjl ++ [Value.slice none 0 0]).toArray).cells = (zjl ++ [Value.slice none 0 0]).toArray := rfl
 rw [hzc]
 generalize (zjl ++ [Value.slice none 0 0]).toArray = Z at *
 have hvc : (Value.agg V.toArray).cells = V.toArray := rfl
 have hsc : (Value.slice a n c).cells = #[.slice a n c] := rfl
 simp only [Instr.fill, hvc, hsc]
 obtain ⟨f1, f2⟩ := fold_set V Z 0 0 (by omega)
 have ef : Array.foldl (fun cs x => cs.setIfInBounds (0 + x.snd) x.fst) Z V.toArray.zipIdx = (V.zipIdx 0).foldl (fun cs (c, j) => cs.setIfInBounds (0 + j) c) Z := by
  simp
 have h0 : (#[(0, 769), (769, 1)] : Array (Nat × Nat))[0]? = some (0, 769) := rfl
 have h1 : (#[(0, 769), (769, 1)] : Array (Nat × Nat))[1]? = some (769, 1) := rfl
 simp only [h0, h1, ef]
 generalize (V.zipIdx 0).foldl (fun cs (c, j) => cs.setIfInBounds (0 + j) c) Z = R at *
 have g1 : (decide (V.toArray.size ≠ 769) || decide (0 + V.toArray.size > Z.size)) = false := by
  rw [List.size_toArray, hV, hs]; rfl
 have g2 : (decide ((#[Value.slice a n c] : Array Value).size ≠ 1) || decide (769 + (#[Value.slice a n c] : Array Value).size > R.size)) = false := by
  rw [f1, hs]; rfl
 have g3 : Array.foldl (fun cs x => cs.setIfInBounds (769 + x.snd) x.fst) R (#[Value.slice a n c] : Array Value).zipIdx = R.setIfInBounds 769 (.slice a n c) := by
  simp
 rw [g1, g2, g3]
 refine ⟨_, rfl, by simp [f1, hs], fun i hi => ?_, ?_⟩
 ·rw [Array.getElem?_setIfInBounds, if_neg (by omega), f2 i, if_pos (by omega)]; simp
 ·rw [Array.getElem?_setIfInBounds, if_pos rfl, if_pos (by omega)]
set_option maxRecDepth 100000 in
theorem build_memory' (V : List Value) (hV : V.length = 769) (a : Option Addr) (n c : Nat) (w : World) :
  (Instr.build 90 #[(0, .agg V.toArray), (1, .slice a n c)]).run Tryz.prog w = .ok (.agg (V ++ [Value.slice a n c]).toArray) w := by
 obtain ⟨r, h1, h2, h3, h4⟩ := build_memory w V hV a n c
 have hl : (V ++ [Value.slice a n c]).length = 770 := by rw [List.length_append, hV]; rfl
 have e : r = (V ++ [Value.slice a n c]).toArray := by
  apply Array.ext_getElem?
  intro i
  have ei : (V ++ [Value.slice a n c]).toArray[i]? = (V ++ [Value.slice a n c])[i]? := by simp
  rw [ei]
  by_cases hi : i < 769
  ·rw [h3 i hi, List.getElem?_append_left (by omega)]
  ·by_cases hi' : i = 769
   ·subst hi'; rw [h4, List.getElem?_append_right (by omega), hV]; rfl
   ·rw [Array.getElem?_eq_none (by omega), List.getElem?_eq_none (by omega)]
 rw [h1, e]
/-- What Copy reads. -/
def CopyS (b : Nat) (V : List Value) (v : Value) (w : World) : Prop := w.rangeAt b 0 V ∧ w.cell? ⟨b, 769, none⟩ = some v
theorem CopyS.below {b : Nat} {V : List Value} {v : Value} {w w' : World} (h : CopyS b V v w) (hb : Below w.heap.size w w') : CopyS b V v w' := by
 have hlt := World.block_lt_of_cell? _ _ h.2
 exact ⟨fun j u hu => (hb.cell (p := ⟨b, 0 + j, none⟩) hlt).trans (h.1 j u hu), (hb.cell hlt).trans h.2⟩
theorem run_exec_build2 {P : Program} {o : Oper} {a : Act} {w : World} (t i j : Nat) (x y : Operand) (ho : o.op = .build t #[(i, x), (j, y)]) (v0 v1 : Value) (hx : a.eval x = v0) (hy : a.eval y = v1)
  {v : Value} (hb : (Instr.build t #[(i, v0), (j, v1)]).run P w = .ok v w) : (execOp a.eval o).run P w = .ok (.value v) w := by
 unfold execOp
 simp only [ho, List.map_toArray, List.map_cons, List.map_nil, hx, hy]
 simp only [Sem.run_bind, hb, Result.andThen_ok, Sem.run_pure]
set_option maxRecDepth 100000 in
set_option maxHeartbeats 2000000 in
theorem copy_ok (b B size : Nat) (f : Nat → Int) (L : List (Nat × Nat)) (w : World) (h : MemAt w b B size f L) :
  Calls Tryz.prog 49 #[.pointer (some ⟨b, 0, none⟩)] w fun e w' => ∃ b' B', e = .returned (.pointer (some ⟨b', 0, none⟩)) ∧ w.heap.size ≤ b' ∧ w.heap.size ≤ B' ∧ Below w.heap.size w w' ∧ MemAt w' b' B' size f L := by
 obtain ⟨cap, hsl, hc1, hc2⟩ := h.slice
 have hsm := h.small
 have hcell := h.cells
 obtain ⟨h1, h2, G, cap', F, h4, h5, h6, h7, h8, h9, h10, h11⟩ := h
 have hrange := Lib.hid (rowIs_range h4 0 769 (by omega))
 have hone := oneCells (n := 769) (fun i hi => h7.one i hi)
 generalize hV : ((List.range 769).map fun j => G (0 + j)) = V at *
 have hVl : V.length = 769 := by rw [← hV]; simp
 have Hc := Lib.hid hcell
 have HV := Lib.hid hV
 have HVl := Lib.hid hVl
 have Hone := Lib.hid hone
 have H1 := Lib.hid h1
 have H5 := Lib.hid h5
 have H7 := Lib.hid h7
 have H8 := Lib.hid h8
 have H11 := Lib.hid h11
 clear hcell hV hone h1 h4 h5 h6 h7 h8 h11 hVl
 go_enter Tryz.func49, Tryz.ntmps49
 go_wp2_with (go_at_call 43; refine (none_some _ _ _ _ _ hsl).mono ?_; rintro e w' ⟨rfl, rfl⟩)
 have HS := Lib.hid (show w.rangeAt b 0 V ∧ w.cell? ⟨b, 769, none⟩ = some (.slice (some ⟨B, 0, none⟩) size cap) from ⟨hrange.out, hsl⟩)
 have hlt := World.block_lt_of_cell? _ _ hsl
 have hsz := sizeJ
 have hui := Tryz.underlying88
 have hbm := build_memory' V HVl.out
 refine wp_region_held_drew (S := fun w' => w'.rangeAt b 0 V ∧ w'.cell? ⟨b, 769, none⟩ = some (.slice (some ⟨B, 0, none⟩) size cap)) (by kernel_rfl) HS.out (fun hS0 => ?_)
 refine wpAnyH_take (i := 0) (v := (.pointer (some ⟨b, 0, none⟩))) rfl (by kernel_rfl) (by kernel_rfl) (by kernel_rfl) (fun _ _ _ h => h) (Or.inl ⟨by rfl, by (intro w' _; go_simp)⟩) (by assumption) ?_
 try simp only [Act.put, List.setIfInBounds_toArray, List.set_cons_zero, List.set_cons_succ]
 refine wpAnyH_take (i := 1) (v := (.pointer (some ⟨b, 0, none⟩))) rfl (by kernel_rfl) (by kernel_rfl) (by kernel_rfl) (fun _ _ _ h => h) (Or.inl ⟨by rfl, by (intro w' _; go_simp)⟩) (by assumption) ?_
 try simp only [Act.put, List.setIfInBounds_toArray, List.set_cons_zero, List.set_cons_succ]
 refine wpAnyH_take (i := 2) (v := (.pointer (some ⟨b, 0, none⟩))) rfl (by kernel_rfl) (by kernel_rfl) (by kernel_rfl) (fun _ _ _ h => h) (Or.inl ⟨by rfl, by (intro w' _; go_simp)⟩) (by assumption) ?_
 try simp only [Act.put, List.setIfInBounds_toArray, List.set_cons_zero, List.set_cons_succ]
 refine wpAnyH_take (i := 3) rfl (by kernel_rfl) (by kernel_rfl) (by kernel_rfl) (fun _ _ _ h => h) (yieldsIf_load_mid (by rfl) 88 (.tmp 7) rfl b 0 rfl V _ (fun w h => h.1) hui rfl (by rw [hsz, HVl.out])) (by assumption) ?_
 try simp only [Act.put, List.setIfInBounds_toArray, List.set_cons_zero, List.set_cons_succ]
 refine wpAnyH_take (i := 4) (v := (.pointer (some ⟨b, 0, none⟩))) rfl (by kernel_rfl) (by kernel_rfl) (by kernel_rfl) (fun _ _ _ h => h) (Or.inl ⟨by rfl, by (intro w' _; go_simp)⟩) (by assumption) ?_
 try simp only [Act.put, List.setIfInBounds_toArray, List.set_cons_zero, List.set_cons_succ]
 refine wpAnyH_take (i := 5) (v := (.pointer (some ⟨b, 0, none⟩))) rfl (by kernel_rfl) (by kernel_rfl) (by kernel_rfl) (fun _ _ _ h => h) (Or.inl ⟨by rfl, by (intro w' _; go_simp)⟩) (by assumption) ?_
 try simp only [Act.put, List.setIfInBounds_toArray, List.set_cons_zero, List.set_cons_succ]
 refine wpAnyH_take (i := 6) (v := (.pointer (some ⟨b, 769, none⟩))) rfl (by kernel_rfl) (by kernel_rfl) (by kernel_rfl) (fun _ _ _ h => h) (Or.inl ⟨by rfl, by (intro w' _; go_simp)⟩) (by assumption) ?_
 try simp only [Act.put, List.setIfInBounds_toArray, List.set_cons_zero, List.set_cons_succ]
 refine wpAnyH_take (i := 7) (v := (.slice (some ⟨B, 0, none⟩) size cap)) rfl (by kernel_rfl) (by kernel_rfl) (by kernel_rfl) (fun _ _ _ h => h) (Or.inl ⟨by rfl, by (intro w' h; have h2 := h.2; clear h; go_simp)⟩) (by assumption) ?_
 try simp only [Act.put, List.setIfInBounds_toArray, List.set_cons_zero, List.set_cons_succ]
 refine wpAnyH_ready (rs := [8]) (by kernel_rfl) (by simp) (AllReadyH.cons rfl (fun K hK => ?_) AllReadyH.nil)
 rw [if_pos (by rfl)]
 go_simp
 refine (clone_some size cap ⟨B, 0, none⟩ f (fun _ => False) w.drew ⟨by omega, fun _ => ⟨B, 0, rfl, fun h => h, fun i hi => by rw [Nat.zero_add]; exact Hc.out i hi⟩⟩ (by omega)).mono ?_
 rintro e w2 ⟨v, rfl, ⟨g2, cap2, F2, rfl, hv1, hv2, hv3, hv4, hv5⟩, hb2⟩
 have hS2 := CopyS.below (w := w.drew) hS0 hb2
 have HV2 := Lib.hid hv2
 have HV5 := Lib.hid hv5
 clear hv2 hv5
 refine hK.out _ _ hS2 (fun hS2' => ?_)
 clear hK K hS0
 refine wpAnyH_take (i := 9) (v := (.agg (V ++ [Value.slice (some ⟨g2, 0, none⟩) size cap2]).toArray)) rfl (by kernel_rfl) (by kernel_rfl) (by kernel_rfl) (fun _ _ _ h => h) (Or.inl ⟨by rfl, by (intro w' _; exact run_exec_build2 90 0 1 (.tmp 8) (.tmp 13) rfl _ _ rfl rfl (hbm _ _ _ _))⟩) (by assumption) ?_
 try simp only [Act.put, List.setIfInBounds_toArray, List.set_cons_zero, List.set_cons_succ]
 refine wpAnyH_ready (rs := [10]) (by kernel_rfl) (by simp) (AllReadyH.cons rfl (fun K hK => ?_) AllReadyH.nil)
 rw [if_pos (by rfl)]
 go_simp
 have hb3 : Below w2.heap.size w2 (w2.alloc (.cells (V ++ [Value.slice (some ⟨g2, 0, none⟩) size cap2]).toArray 90)) := (Below.refl _ _).alloc (Nat.le_refl _) _
 refine hK.out _ _ (CopyS.below hS2 hb3) (fun hS3 => ?_)
 clear hK K
 refine wpAnyH_take (i := 11) (v := (.pointer (some ⟨w2.heap.size, 0, none⟩))) rfl (by kernel_rfl) (by kernel_rfl) (by kernel_rfl) (fun _ _ _ h => h) (Or.inl ⟨by rfl, by (intro w' _; go_simp)⟩) (by assumption) ?_
 try simp only [Act.put, List.setIfInBounds_toArray, List.set_cons_zero, List.set_cons_succ]
 refine wpAnyH_done (by kernel_rfl) ?_ _
 go_wp2_with fail
 go_ret
 have hs2 : w.heap.size ≤ w2.heap.size := hb2.size
 refine ⟨_, rfl, hs2, _, hv1, ?_, ?_⟩
 ·exact (Below.trans (b := w.drew) ((Below.refl _ w).drew) hb2).trans (hb3.mono hs2)
 ·have hVl := HVl.out
  have hl : (V ++ [Value.slice (some ⟨g2, 0, none⟩) size cap2]).length = 770 := by rw [List.length_append, hVl]; rfl
  have hr := World.rowIs_alloc w2 (V ++ [Value.slice (some ⟨g2, 0, none⟩) size cap2]).toArray 90 (fun i => if i = 769 then .slice (some ⟨g2, 0, none⟩) size cap2 else G i) (fun i hi => by
   have hl' : (V ++ [Value.slice (some ⟨g2, 0, none⟩) size cap2]).toArray.size = 770 := hl
   rw [hl'] at hi
   have ei : (V ++ [Value.slice (some ⟨g2, 0, none⟩) size cap2]).toArray[i]? = (V ++ [Value.slice (some ⟨g2, 0, none⟩) size cap2])[i]? := by simp
   rw [ei]
   by_cases e : i = 769
   ·subst e; rw [List.getElem?_append_right (by omega), hVl, if_pos rfl]; rfl
   ·rw [List.getElem?_append_left (by omega), if_neg e, ← HV.out]
    have : i < 769 := by omega
    simp [this])
  have hl' : (V ++ [Value.slice (some ⟨g2, 0, none⟩) size cap2]).toArray.size = 770 := hl
  rw [hl'] at hr
  refine ⟨by have := HV2.out.lt; omega, h2, _, cap2, F2, hr, H5.out, rfl, H7.out.congr (fun i hi => by rw [if_neg (by omega)]), HV2.out.alloc _, hv3, hv4, HV5.out⟩
end Go.Proofs.YtfmabknhfehdcaaGreat
namespace Go.Proofs.YtfmabknhfehdcaaGreat
set_option linter.unusedSimpArgs false
set_option linter.unusedVariables false
open Go.RowKit
section
variable (p q : Option Addr) (w : World)
end
end Go.Proofs.YtfmabknhfehdcaaGreat
namespace Go.Proofs.YtfmabknhfehdcaaGreat
set_option linter.unusedSimpArgs false
set_option linter.unusedVariables false
open Go.RowKit
/-- The slice at al holds the spans L, outside of the blocks S. -/
def SpanIn (S : Nat → Prop) (w : World) (al : Option Addr) (L : List (Nat × Nat)) : Prop :=
 0 < L.length → ∃ g o, al = some ⟨g, o, none⟩ ∧ ¬ S g ∧ ∀ i (h : i < L.length), w.cell? ⟨g, o + i * 3, none⟩ = some (.int .u64 (L[i]'h).1) ∧
  w.cell? ⟨g, o + i * 3 + 1, none⟩ = some (.int .i64 (L[i]'h).2) ∧ w.cell? ⟨g, o + i * 3 + 2, none⟩ = some (.bool false)
/-- The specification's memory: n bytes f, the log L, outside of the blocks S. -/
def RefAt (S : Nat → Prop) (w : World) (v : Value) (n : Nat) (f : Nat → Int) (L : List (Nat × Nat)) : Prop :=
 ∃ ao c al cl, v = .agg #[.slice (some ao) n c, .slice al L.length cl] ∧ n ≤ c ∧ c ≤ 9223372036854775807 ∧ L.length ≤ cl ∧ cl ≤ 9223372036854775807 ∧ (al = none → L.length = 0 ∧ cl = 0) ∧ Src S w (some ao) n f ∧ SpanIn S w al L
theorem SpanIn.kept {S T : Nat → Prop} {w w' : World} {al : Option Addr} {L : List (Nat × Nat)} (h : SpanIn S w al L) (k : Keeps T w w') (hT : ∀ b, T b → S b) : SpanIn S w' al L := fun h0 => by
 obtain ⟨g, o, e, hg, hx⟩ := h h0
 exact ⟨g, o, e, hg, fun i hi => ⟨k.cell (hx i hi).1 (fun ht => hg (hT _ ht)), k.cell (hx i hi).2.1 (fun ht => hg (hT _ ht)), k.cell (hx i hi).2.2 (fun ht => hg (hT _ ht))⟩⟩
theorem SpanIn.more {S T : Nat → Prop} {w : World} {al : Option Addr} {L : List (Nat × Nat)} (h : SpanIn S w al L) (hT : ∀ b, b < w.heap.size → T b → S b) : SpanIn T w al L := fun h0 => by
 obtain ⟨g, o, e, hg, hx⟩ := h h0
 exact ⟨g, o, e, fun ht => hg (hT _ (World.block_lt_of_cell? _ _ (hx 0 h0).1) ht), hx⟩
theorem SpanIn.src {S : Nat → Prop} {w : World} {al : Option Addr} {L : List (Nat × Nat)} (h : SpanIn S w al L) : SpanSrc w al L := fun h0 => by
 obtain ⟨g, o, e, -, hx⟩ := h h0
 exact ⟨g, o, e, hx⟩
theorem Src.more {S T : Nat → Prop} {w : World} {ao : Option Addr} {n : Nat} {s : Nat → Int} (h : Src S w ao n s) (hT : ∀ b, b < w.heap.size → T b → S b) : Src T w ao n s :=
 ⟨h.small, fun h0 => by
  obtain ⟨g, o, e, hg, hx⟩ := h.at' h0
  exact ⟨g, o, e, fun ht => hg (hT _ (World.block_lt_of_cell? _ _ (hx 0 h0)) ht), hx⟩⟩
theorem Src.congr {S : Nat → Prop} {w : World} {ao : Option Addr} {n : Nat} {s t : Nat → Int} (h : Src S w ao n s) (e : ∀ i, i < n → s i = t i) : Src S w ao n t :=
 ⟨h.small, fun h0 => by
  obtain ⟨g, o, e', hg, hx⟩ := h.at' h0
  exact ⟨g, o, e', hg, fun i hi => by rw [hx i hi, e i hi]⟩⟩
theorem RefAt.kept {S T : Nat → Prop} {w w' : World} {v : Value} {n : Nat} {f : Nat → Int} {L : List (Nat × Nat)} (h : RefAt S w v n f L) (k : Keeps T w w') (hT : ∀ b, T b → S b) : RefAt S w' v n f L := by
 obtain ⟨ao, c, al, cl, h1, h2, h3, h4, h5, h6, h7, h8⟩ := h
 exact ⟨ao, c, al, cl, h1, h2, h3, h4, h5, h6, h7.kept k hT, h8.kept k hT⟩
theorem RefAt.more {S T : Nat → Prop} {w : World} {v : Value} {n : Nat} {f : Nat → Int} {L : List (Nat × Nat)} (h : RefAt S w v n f L) (hT : ∀ b, b < w.heap.size → T b → S b) : RefAt T w v n f L := by
 obtain ⟨ao, c, al, cl, h1, h2, h3, h4, h5, h6, h7, h8⟩ := h
 exact ⟨ao, c, al, cl, h1, h2, h3, h4, h5, h6, h7.more hT, h8.more hT⟩
theorem RefAt.below {S : Nat → Prop} {w w' : World} {v : Value} {n : Nat} {f : Nat → Int} {L : List (Nat × Nat)} (h : RefAt S w v n f L) (hb : Below w.heap.size w w') : RefAt S w' v n f L :=
 h.kept (Keeps.of_below (S := fun _ => False) hb) (fun _ h => h.elim)
set_option maxHeartbeats 1000000 in
theorem rcheck_any (ao : Option Addr) (n c : Nat) (ml : Value) (addr k : Int) (w : World) (hn : n ≤ 4194304) (ha : 0 ≤ addr) (ha' : addr ≤ 18446744073709551615) (hk : -9223372036854775808 ≤ k) (hk' : k ≤ 9223372036854775807) :
  Calls Tryz.prog 86 #[.agg #[.slice ao n c, ml], .int .u64 addr, .int .i64 k] w fun e w' => e = .returned (.int .i64 (chk n addr k)) ∧ Below w.heap.size w w' := by
 by_cases h1 : k < 0
 ·go_enter Tryz.func86, Tryz.ntmps86
  go_wp2
  go_ret
  exact ⟨by simp [chk, h1], (Below.refl _ _).alloc (Nat.le_refl _) _⟩
 ·by_cases h2 : addr ≤ n
  ·have d2 : decide ((n : Int) < addr) = false := by simp; omega
   by_cases h3 : k ≤ n - addr
   ·have d3 : decide ((n : Int) - addr < k) = false := by simp; omega
    go_enter Tryz.func86, Tryz.ntmps86
    go_wp2
    go_ret
    exact ⟨ret_int (by unfold chk; rw [if_neg (by omega), if_pos (by omega)]), (Below.refl _ _).alloc (Nat.le_refl _) _⟩
   ·have d3 : decide ((n : Int) - addr < k) = true := by simp; omega
    go_enter Tryz.func86, Tryz.ntmps86
    go_wp2
    go_ret
    exact ⟨ret_int (by unfold chk; rw [if_neg (by omega), if_neg (by omega)]), (Below.refl _ _).alloc (Nat.le_refl _) _⟩
  ·have d2 : decide ((n : Int) < addr) = true := by simp; omega
   go_enter Tryz.func86, Tryz.ntmps86
   go_wp2
   go_ret
   exact ⟨ret_int (by unfold chk; rw [if_neg (by omega), if_neg (by omega)]), (Below.refl _ _).alloc (Nat.le_refl _) _⟩
end Go.Proofs.YtfmabknhfehdcaaGreat
namespace Go.Proofs.YtfmabknhfehdcaaGreat
set_option linter.unusedSimpArgs false
set_option linter.unusedVariables false
open Go.RowKit
end Go.Proofs.YtfmabknhfehdcaaGreat
