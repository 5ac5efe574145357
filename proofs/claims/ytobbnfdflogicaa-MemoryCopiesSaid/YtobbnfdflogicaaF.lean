/- memory: New, Clear, first, Writes (the copy of the log), Clone, Read. -/
import Derived.Test.YtobbnfdflogicaaE
import Derived.Deep.MidRow
namespace Go.Proofs.Ytobbnfdflogicaa
open Go.RowKit

/-- the cells of a log that is empty -/
def zj (i : Nat) : Value := if i = 768 then .int .i64 0 else if i % 3 = 0 then .int .u64 0 else if i % 3 = 1 then .int .i64 0 else .bool false
def zjl : List Value := (List.range 769).map zj
theorem zjl_length : zjl.length = 769 := by simp [zjl]
theorem zjl_get (i : Nat) (h : i < 769) : zjl[i]? = some (zj i) := by simp [zjl, h]
theorem zj_one (i : Nat) : (zj i).oneCell' = true := by
  unfold zj
  split
  · rfl
  · split
    · rfl
    · split <;> rfl
theorem build_mem (w : World) (a : Option Addr) (n c : Nat) : (Instr.build 69 #[(1, .slice a n c)]).run Try.prog w = .ok (.agg (zjl ++ [Value.slice a n c]).toArray) w := by kernel_rfl
theorem build_journal (w : World) : (Instr.build 67 #[]).run Try.prog w = .ok (.agg zjl.toArray) w := by kernel_rfl
theorem zero_journal (w : World) : (zeroValue 67).run Try.prog w = .ok (.agg zjl.toArray) w := by kernel_rfl
theorem infoU8 : (Try.prog.info? 5).map (fun i => (i.zero, i.size, i.bytes)) = some (some (.int .u8 0), 1, 1) := by kernel_rfl
theorem sizeJ : (Try.prog.info? 67).map (·.size) = some 769 := by kernel_rfl

theorem rowIs_setCells {w : World} {b : Nat} {t : TypeId} {n : Nat} {f : Nat → Value} (h : w.rowIs b t n f) : ∀ (vs : List Value) (o : Nat),
    (w.setCells b o vs).rowIs b t n (fun j => if o ≤ j ∧ j < o + vs.length then vs.getD (j - o) undef else f j) := by
  intro vs
  induction vs generalizing w f with
  | nil => intro o; exact h.congr fun i _ => by rw [if_neg (by simp only [List.length_nil]; omega)]
  | cons v r ih =>
    intro o
    refine (ih (h.set o v) (o + 1)).congr fun i hi => ?_
    simp only [List.length_cons]
    by_cases h1 : i = o
    · subst h1
      rw [if_neg (by omega)]; simp
    · by_cases h2 : o + 1 ≤ i ∧ i < o + 1 + r.length
      · rw [if_pos h2, if_pos (by omega)]
        have : i - o = (i - (o + 1)) + 1 := by omega
        rw [this]; rfl
      · rw [if_neg h2, if_neg h1, if_neg (by omega)]

theorem Keeps.setCells {b : Nat} {a : World} : ∀ (vs : List Value) {w : World} (_ : Keeps (One b) a w) (o : Nat), Keeps (One b) a (w.setCells b o vs)
  | [], _, h, _ => h
  | v :: r, _, h, o => Keeps.setCells r (h.set1 o v) (o + 1)

theorem rowIs_there {w : World} {b : Nat} {t : TypeId} {n : Nat} {f : Nat → Value} (h : w.rowIs b t n f) (o m : Nat) (hm : o + m ≤ n) : w.there b o m := fun j hj =>
  ⟨by rw [h.cell (by omega)]; rfl, h.frozen _⟩

theorem rowIs_range {w : World} {b : Nat} {t : TypeId} {n : Nat} {f : Nat → Value} (h : w.rowIs b t n f) (o m : Nat) (hm : o + m ≤ n) : w.rangeAt b o ((List.range m).map fun j => f (o + j)) := fun j v hv => by
  simp only [List.getElem?_map, Option.map_eq_some_iff] at hv
  obtain ⟨k, hk, rfl⟩ := hv
  simp only [List.range_eq_range'] at hk
  by_cases hj : j < m
  · simp [hj] at hk; subst hk; exact h.cell (by omega)
  · simp [hj] at hk

set_option maxRecDepth 100000 in
set_option maxHeartbeats 1000000 in
theorem new_ok (pages : Nat) (w : World) (h1 : 1 ≤ pages) (h2 : pages ≤ 1024) :
   Calls Try.prog 10 #[.int .i64 pages] w fun e w' => ∃ b B, e = .returned (.tuple #[.pointer (some ⟨b, 0, none⟩), .int .i64 0]) ∧ w.heap.size ≤ b ∧ w.heap.size ≤ B ∧ Below w.heap.size w w' ∧
     MemAt w' b B (pages * 4096) (fun _ => 0) [] := by
  have hmk := run_make_row' (P := Try.prog) 33 5 (.int .u8 0) 1 Try.underlying33 infoU8 rfl .i64 .i64 (pages * 4096) (by omega) (by omega)
  have e1 : ((pages * 4096 : Nat) : Int) = (pages : Int) * 4096 := by omega
  rw [e1] at hmk
  have d1 : decide ((pages : Int) < 1) = false := by simp; omega
  have d2 : decide ((1024 : Int) < (pages : Int)) = false := by simp; omega
  go_enter Try.func10, Try.ntmps10
  go_wp2_with ((with_reducible show wpList _ _ _ (⟨some 13, _, _, _, _, _⟩ :: _) _ _); refine wpList_build1 rfl 69 1 (.tmp 12) rfl (.slice (some ⟨w.heap.size, 0, none⟩) (pages * 4096) (pages * 4096)) ?hx (build_mem _ _ _ _) ?_; exact rfl)
  go_ret2
  refine ⟨_, w.heap.size, rfl, by omega, Nat.le_refl _, ((Below.refl _ _).alloc (Nat.le_refl _) _).alloc (by simp) _, ?_⟩
  have hrow := (World.rowIs_made w (.int .u8 0) (pages * 4096) 5).alloc (.cells (zjl ++ [Value.slice (some ⟨w.heap.size, 0, none⟩) (pages * 4096) (pages * 4096)]).toArray 69)
  have hobj := World.rowIs_alloc (w.alloc (.cells (madeCells #[.int .u8 0] (pages * 4096)) 5)) (zjl ++ [Value.slice (some ⟨w.heap.size, 0, none⟩) (pages * 4096) (pages * 4096)]).toArray 69
    (fun i => if i = 769 then Value.slice (some ⟨w.heap.size, 0, none⟩) (pages * 4096) (pages * 4096) else zj i) (fun i hi => by
      simp only [List.size_toArray, List.length_append, zjl_length, List.length_cons, List.length_nil] at hi
      rw [List.getElem?_toArray]
      by_cases h : i = 769
      · subst h; rw [List.getElem?_append_right (by rw [zjl_length]; omega), zjl_length]; simp
      · rw [List.getElem?_append_left (by rw [zjl_length]; omega), zjl_get i (by omega), if_neg h])
  have hsz : (zjl ++ [Value.slice (some ⟨w.heap.size, 0, none⟩) (pages * 4096) (pages * 4096)]).toArray.size = 770 := by simp [zjl_length]
  rw [hsz, World.size_alloc] at hobj
  refine ⟨by omega, by omega, _, _, _, hobj, ?_, ?_, ?_, hrow, Nat.le_refl _, by omega, fun _ _ => rfl⟩
  · rfl
  · rfl
  · exact ⟨fun i hi => by rw [if_neg (by omega)]; exact zj_one i, fun i hi => by simp at hi⟩

set_option maxRecDepth 100000 in
set_option maxHeartbeats 1000000 in
theorem new_err (pages : Int) (w : World) (h : pages < 1 ∨ 1024 < pages) :
   Calls Try.prog 10 #[.int .i64 pages] w fun e w' => e = .returned (.tuple #[.pointer none, .int .i64 2]) ∧ w = w' := by
  rcases h with h | h
  · go_enter Try.func10, Try.ntmps10
    go_wp2
    go_ret2
    exact ⟨rfl, rfl⟩
  · have h' : ¬ pages < 1 := by omega
    go_enter Try.func10, Try.ntmps10
    go_wp2
    go_ret2
    exact ⟨rfl, rfl⟩

theorem ret_int {k : IntKind} {a b : Int} (h : a = b) : Ending.returned (.int k a) = .returned (.int k b) := by rw [h]

set_option maxHeartbeats 1000000 in
theorem first_any (b c : Nat) (w : World) (h : w.cell? ⟨b, 768, none⟩ = some (.int .i64 c)) (hc : c < 4611686018427387904) :
   Calls Try.prog 31 #[.pointer (some ⟨b, 0, none⟩)] w fun e w' => e = .returned (.int .i64 (c - 256 : Nat)) ∧ w = w' := by
  by_cases h256 : c < 256
  · have e0 : c - 256 = 0 := by omega
    go_enter Try.func31, Try.ntmps31
    go_wp2
    go_ret
    exact ⟨by rw [e0]; rfl, rfl⟩
  · have e0 : ((c - 256 : Nat) : Int) = (c : Int) - 256 := by omega
    have E := Lib.hid e0
    clear e0
    go_enter Try.func31, Try.ntmps31
    go_wp2
    · go_ret
      exact ⟨by rw [E.out]; rfl, rfl⟩
    · have h0 : (c : Int) ≤ 256 := by assumption
      go_ret
      exact ⟨ret_int (by rw [E.out]; omega), rfl⟩

set_option maxRecDepth 100000 in
set_option maxHeartbeats 1000000 in
theorem clear_ok (b B size : Nat) (f : Nat → Int) (L : List (Nat × Nat)) (w : World) (h : MemAt w b B size f L) :
   Calls Try.prog 15 #[.pointer (some ⟨b, 0, none⟩)] w fun e w' => e = .returned (.int .i64 0) ∧ Keeps (One b) w w' ∧ MemAt w' b B size f [] := by
  obtain ⟨c0, hsl, -, -⟩ := h.slice
  replace hsl := Lib.hid hsl
  obtain ⟨h1, h2, G, cap, F, h4, h5, h6, h7, h8, h9, h10, h11⟩ := h
  have hr := Lib.hid h4
  have h6' := Lib.hid h6
  have h8' := Lib.hid h8
  have h11' := Lib.hid h11
  clear h4 h5 h6 h7 h8 h11
  have hth : w.there b 0 zjl.toArray.size := rowIs_there hr.out 0 _ (by rw [List.size_toArray, zjl_length]; omega)
  have Hth := Lib.hid hth
  clear hth
  go_enter Try.func15, Try.ntmps15
  go_wp2_with (first | (go_at_call 29; refine (none_some _ _ _ _ _ hsl.out).mono ?_; rintro e w' ⟨rfl, rfl⟩) | ((with_reducible show wpList _ _ _ (⟨some 6, _, _, _, _, _⟩ :: _) _ _); refine wpList_build0 rfl 67 rfl (build_journal _) ?_) | ((with_reducible show wpList _ _ _ (⟨none, _, _, _, _, _⟩ :: _) _ _); refine wpList_store_mid rfl 67 (.tmp 8) (.tmp 6) rfl b 0 zjl.toArray rfl rfl Hth.out (by rw [sizeJ, List.size_toArray, zjl_length]) (by kernel_rfl) ?_))
  go_ret
  refine ⟨rfl, Keeps.setCells _ (Keeps.refl (One b) w) 0, h1, h2, _, cap, F, rowIs_setCells hr.out zjl 0, ?_, ?_, ?_, (Keeps.setCells zjl (Keeps.refl (One b) w) 0).rowIs h8'.out (fun e => h1 e.symm), h9, h10, h11'.out⟩
  · rw [if_pos (by rw [zjl_length]; omega), List.getD_eq_getElem?_getD, zjl_get _ (by omega)]; rfl
  · rw [if_neg (by rw [zjl_length]; omega)]; exact h6'.out
  · refine ⟨fun i hi => ?_, fun i hi => by simp at hi⟩

    rw [if_pos (by rw [zjl_length]; omega), List.getD_eq_getElem?_getD, zjl_get _ (by omega)]; exact zj_one _

set_option maxHeartbeats 1000000 in
theorem clear_nil (w : World) :
   Calls Try.prog 15 #[.pointer none] w fun e w' => e = .returned (.int .i64 1) ∧ w = w' := by
  go_enter Try.func15, Try.ntmps15
  go_wp2_with (first | (go_at_call 29; refine (none_nil _).mono ?_; rintro e w' ⟨rfl, rfl⟩))
  go_ret
  exact ⟨rfl, rfl⟩

set_option maxHeartbeats 1000000 in
theorem clear_zero (b m k : Nat) (w : World) (h : w.cell? ⟨b, 769, none⟩ = some (.slice none m k)) :
   Calls Try.prog 15 #[.pointer (some ⟨b, 0, none⟩)] w fun e w' => e = .returned (.int .i64 1) ∧ w = w' := by
  go_enter Try.func15, Try.ntmps15
  go_wp2_with (first | (go_at_call 29; refine (none_some _ _ _ _ _ h).mono ?_; rintro e w' ⟨rfl, rfl⟩))
  go_ret
  exact ⟨rfl, rfl⟩

end Go.Proofs.Ytobbnfdflogicaa
