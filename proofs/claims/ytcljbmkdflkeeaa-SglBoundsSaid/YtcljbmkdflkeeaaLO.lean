/- sgl: the law SglBounds. -/
import Derived.Test.YtcljbmkdflkeeaaDW
import Derived.Test.YtcljbmkdflkeeaaBB
namespace Go.Proofs.Ytcljbmkdflkeeaa
set_option linter.unusedVariables false
set_option linter.unusedSimpArgs false
open Go.RowKit

theorem infoD : (Try.prog.info? 26).map (fun i => (i.zero, i.size, i.bytes)) = some (some (.agg #[.int .i64 0, .int .u64 0, .int .i64 0, .int .u32 0]), 4, 32) := by kernel_rfl
/-- a cell of a list of descriptors -/
def dcell (l : Nat → Dsc) (i : Nat) : Value := (l (i / 4)).cells[i % 4]?.getD undef
def dcells (l : Nat → Dsc) (k : Nat) : List Value := (List.range (k * 4)).map (dcell l)
theorem dcell_at (l : Nat → Dsc) (k j : Nat) (hj : j < 4) : some (dcell l (k * 4 + j)) = (l k).cells[j]? := by
  unfold dcell
  rw [show (k * 4 + j) / 4 = k by omega, show (k * 4 + j) % 4 = j by omega]
  match j, hj with
  | 0, _ => rfl
  | 1, _ => rfl
  | 2, _ => rfl
  | 3, _ => rfl
theorem dcells_succ (l : Nat → Dsc) (k : Nat) : dcells l (k + 1) = dcells l k ++ (l k).cells.toList := by
  have e : ∀ j, j < 4 → dcell l (k * 4 + j) = ((l k).cells[j]?).getD undef := fun j hj => by rw [← dcell_at l k j hj]; rfl
  unfold dcells
  rw [show (k + 1) * 4 = k * 4 + 1 + 1 + 1 + 1 by omega]
  simp only [List.range_succ, List.map_append, List.map_cons, List.map_nil, List.append_assoc]
  rw [show dcell l (k * 4) = dcell l (k * 4 + 0) from rfl, e 0 (by omega), e 1 (by omega), show k * 4 + 1 + 1 = k * 4 + 2 by omega, e 2 (by omega), show k * 4 + 2 + 1 = k * 4 + 3 by omega, e 3 (by omega)]
  rfl
theorem owns_row {w : World} {base : Nat} {e : TypeId} {size n : Nat} {v : Value} {xs : List Value} (h : w.ownsRow base e size v n xs) (hn : 0 < n) :
    ∃ g cap F, v = .slice (some ⟨g, 0, none⟩) n cap ∧ base ≤ g ∧ w.rowIs g e (cap * size) F ∧ n ≤ cap ∧ cap ≤ maxLen ∧ ∀ i, i < n * size → xs[i]? = some (F i) := by
  obtain ⟨h1, ⟨-, h0⟩ | ⟨g, cap, cur, rfl, hb, hg, hc, hm, hs, hx⟩⟩ := h
  · omega
  · refine ⟨g, cap, fun i => cur[i]?.getD undef, rfl, hb, ⟨cur, hg, hs, fun i hi => ?_⟩, hc, hm, fun i hi => ?_⟩
    · rw [← hs] at hi
      show cur[i]? = some (cur[i]?.getD undef)
      rw [Array.getElem?_eq_getElem hi]; rfl
    · have hi2 : i < cur.size := by rw [hs]; exact Nat.lt_of_lt_of_le hi (Nat.mul_le_mul_right _ hc)
      show xs[i]? = some (cur[i]?.getD undef)
      rw [← hx, List.getElem?_take, if_pos hi, Array.getElem?_toList, Array.getElem?_eq_getElem hi2]; rfl
theorem row_owns {w : World} {base g cap n size : Nat} {e : TypeId} {F : Nat → Value} (hr : w.rowIs g e (cap * size) F) (hb : base ≤ g) (hc : n ≤ cap) (hm : cap ≤ maxLen) : w.ownsRow base e size (.slice (some ⟨g, 0, none⟩) n cap) n ((List.range (n * size)).map F) := by
  obtain ⟨cur, hg, hs, hx⟩ := hr
  refine ⟨by rw [List.length_map, List.length_range], .inr ⟨g, cap, cur, rfl, hb, hg, hc, hm, hs, ?_⟩⟩
  have hns : n * size ≤ cap * size := Nat.mul_le_mul_right _ hc
  apply List.ext_getElem?
  intro i
  rw [List.getElem?_take]
  by_cases hi : i < n * size
  · rw [if_pos hi, Array.getElem?_toList, hx i (by omega)]
    rw [List.getElem?_map, List.getElem?_range hi]; rfl
  · rw [if_neg hi, List.getElem?_eq_none (by rw [List.length_map, List.length_range]; omega)]
theorem dAt_owns {w : World} {base n c : Nat} {ao : Option Addr} {l : Nat → Dsc} (h : w.ownsRow base 26 4 (.slice ao n c) n (dcells l n)) : DAt w ao n l := by
  intro i hi
  obtain ⟨g, cap, F, e, -, hr, hc, -, hx⟩ := owns_row h (by omega)
  cases e
  refine ⟨g, 0, rfl, fun j v hj => ?_⟩
  have hj4 : j < 4 := (List.getElem?_eq_some_iff.1 hj).1
  have h1 := hx (i * 4 + j) (by omega)
  unfold dcells at h1
  rw [List.getElem?_map, List.getElem?_range (by omega)] at h1
  have h2 : F (i * 4 + j) = dcell l (i * 4 + j) := by simpa using h1.symm
  have h3 := dcell_at l i j hj4
  have h4 : (l i).cells[j]? = some v := by simpa using hj
  rw [h4] at h3
  rw [Nat.zero_add, hr.cell (by omega), h2]
  exact h3
/-- the list as the loop makes it -/
def bn0 (i : Nat) : Dsc := ⟨1, 16384 + (i : Int), 0, 0⟩
theorem bnL_0 (n : Int) (i : Nat) (h : i < 1022) : bnL n i = bn0 i := by
  unfold bnL bn0
  rw [if_pos h, show ((16384 + i : Nat) : Int) = 16384 + (i : Int) by omega]
/-- the last but one laid over -/
theorem bn_store {W : World} {base g cap : Nat} {n : Int} (h : W.ownsRow base 26 4 (.slice (some ⟨g, 0, none⟩) 1023 cap) 1023 (dcells bn0 1023)) :
    W.there g 4088 4 ∧ (W.setCells g 4088 (⟨1, 20000, n, 0⟩ : Dsc).cells.toList).ownsRow base 26 4 (.slice (some ⟨g, 0, none⟩) 1023 cap) 1023 (dcells (bnL n) 1023) := by
  obtain ⟨g', cap', F, e, hb, hr, hc, hm, hx⟩ := owns_row h (by omega)
  cases e
  have hF : ∀ i, i < 4092 → F i = dcell bn0 i := fun i hi => by
    have h1 := hx i (by omega)
    unfold dcells at h1
    rw [List.getElem?_map, List.getElem?_range (by omega)] at h1
    simpa using h1.symm
  refine ⟨fun j hj => ⟨by rw [hr.cell (by omega)]; rfl, hr.frozen _⟩, ?_⟩
  have hs := rowIs_setCells hr (⟨1, 20000, n, 0⟩ : Dsc).cells.toList 4088
  have ho := row_owns (n := 1023) hs hb hc hm
  have e : ((List.range (1023 * 4)).map (fun i => if 4088 ≤ i ∧ i < 4088 + (⟨1, 20000, n, 0⟩ : Dsc).cells.toList.length then (⟨1, 20000, n, 0⟩ : Dsc).cells.toList.getD (i - 4088) undef else F i)) = dcells (bnL n) 1023 := by
    unfold dcells
    apply List.map_congr_left
    intro i hi
    have hi : i < 4092 := by simpa using hi
    by_cases h4 : 4088 ≤ i
    · have e1 : dcell (bnL n) i = ((bnL n 1022).cells[i - 4088]?).getD undef := by unfold dcell; rw [show i / 4 = 1022 by omega, show i % 4 = i - 4088 by omega]
      have e2 : bnL n 1022 = ⟨1, 20000, n, 0⟩ := rfl
      rw [if_pos ⟨h4, by show i < 4088 + 4; omega⟩, e1, e2]
      simp [List.getD_eq_getElem?_getD]
    · rw [if_neg (fun c => h4 c.1), hF i hi]
      unfold dcell
      rw [bnL_0 n (i / 4) (by omega)]
  rw [e] at ho
  exact ho
theorem run_bsO (d : Dsc) (w : World) : (Instr.buildSlice 40 1 #[(0, .agg d.cells)]).run Try.prog w = .ok (.slice (some ⟨w.heap.size, 0, none⟩) 1 1) (w.alloc (.cells d.cells 26)) := by kernel_rfl
theorem wpList_bsO {P : Program} {ops : Array Oper} {Q : Exit → Act → World → Prop} {a : Act} {w : World} {rest : List Oper} {o : Oper} (hgd : o.guard = none) (t n : Nat) (parts : Array (Nat × Operand)) (ho : o.op = .buildSlice t n parts) (pv : Array (Nat × Value)) (hp : parts.map (fun p => (p.1, a.eval p.2)) = pv)
    {v : Value} {w' : World} (hb : (Instr.buildSlice t n pv).run P w = .ok v w') (h : wpList P ops Q rest (a.put o.dst v) w') : wpList P ops Q (o :: rest) a w :=
  wpList_plain hgd fun K hK => by
    subst hp
    unfold Oper.wp execOp
    simp only [ho]
    simp only [Sem.run_bind, hb, Result.andThen_ok, Sem.run_pure]
    exact hK _ _ h
theorem wpList_build0O {P : Program} {ops : Array Oper} {Q : Exit → Act → World → Prop} {a : Act} {w : World} {rest : List Oper} {o : Oper} (hw : Region.wanted o (yielded ops a.tmps) = true) (t : Nat) (ho : o.op = .build t #[])
    {v : Value} (hb : (Instr.build t #[]).run P w = .ok v w) (h : wpList P ops Q rest (a.put o.dst v) w) : wpList P ops Q (o :: rest) a w :=
  wpList_step fun K hK => by
    rw [if_pos hw]
    unfold Oper.wp execOp
    simp only [ho, List.map_toArray, List.map_nil]
    simp only [Sem.run_bind, hb, Result.andThen_ok, Sem.run_pure]
    exact hK _ _ h
theorem eqlDscO (d : Dsc) (w : World) : (binOp .eql 26 (.agg d.cells) (.agg d.cells)).run Try.prog w = .ok (.bool true) w := by
  unfold Dsc.cells
  simp [go_sem]
theorem new5 (w : World) : Calls Try.prog 23 #[.int .i64 5] w fun e w' => ∃ b B, e = .returned (.tuple #[.pointer (some ⟨b, 0, none⟩), .int .i64 0]) ∧ w.heap.size ≤ b ∧ w.heap.size ≤ B ∧ Below w.heap.size w w' ∧ MemAt w' b B 20480 (fun _ => 0) [] := by
  have h := new_ok 5 w (by omega) (by omega)
  rw [show 5 * 4096 = 20480 by omega] at h
  exact h
/-- the bytes of m of the list -/
def bnF (n : Int) (m : Nat) : Nat → Int := upd (fun _ => 0) 0 (16 * m) (lstB (bnL n))
theorem bn_seg (n : Int) (h0 : 0 ≤ n) (h1 : n ≤ 100) (m : Nat) (hm : m ≤ 1024) (hm2 : 1023 ≤ m) : Seg (bnF n m) 20480 0 1023 (bnL n) := by
  refine ⟨fun j hj => ?_, fun j hj => (bnL_good n h0 h1 j).1, fun j hj => (bnL_good n h0 h1 j).2.1 (by omega), fun j hj => .inr ((bnL_good n h0 h1 j).2.2 (by omega))⟩
  exact lies_upd (a := 0) (j := j) (m := m) (by omega)
theorem bn_fit (n : Int) (h0 : 0 ≤ n) (h1 : n ≤ 100) : spansM (bnF n 1023) 20480 ⟨4, ((0 : Nat) : Int), ((16 * 1023 : Nat) : Int), 0⟩ n true = .ok (if n = 0 then [] else [⟨20000, n, false⟩]) := by
  rw [spans_last (bn_seg n h0 h1 1023 (by omega) (by omega)) (by omega) (by omega) (by omega) h0 (by omega), bnL_last]
  unfold addP
  by_cases e : n = 0
  · subst e; rfl
  · have hc : 0 < min (⟨20000, n, false⟩ : Spn).n ((n, []) : LO).1 := by show 0 < min n n; omega
    rw [if_pos hc, if_neg e]
    have h2 : (n - min n n) = 0 := by omega
    have h3 : min n n = n := by omega
    show (if n - min n n = 0 then Except.ok [(⟨20000, min n n, false⟩ : Spn)] else .error 162) = _
    rw [if_pos h2, h3]
theorem bn_short (n : Int) (h0 : 0 ≤ n) (h1 : n ≤ 100) : spansM (bnF n 1023) 20480 ⟨4, ((0 : Nat) : Int), ((16 * 1023 : Nat) : Int), 0⟩ (n + 1) true = .error 162 := by
  rw [spans_last (bn_seg n h0 h1 1023 (by omega) (by omega)) (by omega) (by omega) (by omega) (by omega) (by omega), bnL_last]
  unfold addP
  by_cases e : n = 0
  · subst e; rfl
  · have hc : 0 < min (⟨20000, n, false⟩ : Spn).n ((n + 1, []) : LO).1 := by show 0 < min n (n + 1); omega
    rw [if_pos hc]
    have h2 : ¬ (n + 1 - min n (n + 1)) = 0 := by omega
    exact if_neg h2
theorem bn_long (n : Int) (h0 : 0 ≤ n) (h1 : n ≤ 100) : spansM (bnF n 1024) 20480 ⟨4, ((0 : Nat) : Int), ((16 * 1024 : Nat) : Int), 0⟩ (n + 1) true = .error 5 := by
  refine spans_long (bn_seg n h0 h1 1024 (by omega) (by omega)) (by omega) (by omega) (by omega) (by omega) ?_
  rw [bnL_last]
  unfold addP
  by_cases e : n = 0
  · subst e; decide
  · have hc : 0 < min (⟨20000, n, false⟩ : Spn).n ((n + 1, []) : LO).1 := by show 0 < min n (n + 1); omega
    rw [if_pos hc]
    show n + 1 - min n (n + 1) ≠ 0
    omega
theorem bytes_bn (n : Int) (m : Nat) : Bytes (bnF n m) := bytes_upd bytes0 (bytes_lst _)
theorem bn_sp (b B : Nat) (n : Int) (m : Nat) (hm : m ≤ 1024) (L : List (Nat × Nat)) (N no : Int) (R : Except Int (List Spn)) (hR : spansM (bnF n m) 20480 ⟨4, ((0 : Nat) : Int), ((16 * m : Nat) : Int), 0⟩ N true = R) (ao : Option Addr) (k c : Nat) (w : World) (hM : MemAt w b B 20480 (bnF n m) L) (hW : SpW R no k ao w) :
    Calls Try.prog 27 #[.pointer (some ⟨b, 0, none⟩), .agg (⟨4, ((0 : Nat) : Int), ((16 * m : Nat) : Int), 0⟩ : Dsc).cells, .int .i64 N, .bool true, .int .i64 no, .slice ao k c] w fun e w' => e = .returned (.bool true) ∧ Below w.heap.size w w' :=
  spansL_of _ _ N no true R ao k c w (fun w' hw => by rw [← hR]; exact spans_any _ N true b B 20480 _ L w' (hM.below hw) (by omega) (ok_seg (.inr rfl) (by omega) (by omega)) (bytes_bn n m)) hW

set_option maxRecDepth 100000 in
set_option maxHeartbeats 8000000 in
theorem bounds_in (size : Int) (w : World) (hz0 : 0 ≤ size) (hz1 : size ≤ 255) : Calls Try.prog 5 #[.int .u8 size, .bool false] w fun e w' => e = .returned (.bool true) ∧ Below w.heap.size w w' := by
  obtain ⟨nn, hnn⟩ : ∃ z : Int, z = size % 101 := ⟨_, rfl⟩
  have hn0 : 0 ≤ nn := by omega
  have hn1 : nn ≤ 100 := by omega
  have htm : size.tmod 101 = nn := by rw [Int.tmod_eq_emod_of_nonneg hz0, hnn]
  clear hnn
  go_enter Try.func5, Try.ntmps5
  go_upto_region 5 with (go_at_call 23; refine (new5 _).mono ?_; rintro e w1 ⟨b, B, rfl, hb, hB, hbl, hm⟩; have B1 := Lib.hid hbl; have M1 := Lib.hid hm; clear hbl hm)
  obtain ⟨bs, hbs⟩ : ∃ z, z = w1.heap.size := ⟨_, rfl⟩
  have hbb : b < bs := by rw [hbs]; exact M1.out.lt
  have hBB : B < bs := by rw [hbs]; exact M1.out.lt'
  have hwb : w.heap.size ≤ bs := by rw [hbs]; exact B1.out.size
  go_loopw [8, 9] (fun v8 v9 wr => ∃ k : Nat, k ≤ 1023 ∧ v9 = .int .i64 (k : Nat) ∧ wr.ownsRow bs 26 4 v8 k (dcells bn0 k) ∧ Keeps (fun j => bs ≤ j) w1 wr) (fun _ v9 _ => 1023 - (intOf v9).toNat)
  case atStart => exact ⟨0, by omega, rfl, World.ownsRow_nil _ _ _ _, Keeps.refl _ _⟩
  case round =>
    obtain ⟨k, hk, rfl, hown, hK⟩ := hrel
    have HO := Lib.hid hown
    have HK := Lib.hid hK
    have hwr : bs ≤ wr.heap.size := by have := hK.size; omega
    clear hown hK
    by_cases hkn : k < 1023
    · have q3 : decide ((k : Int) < 1023) = true := decide_eq_true (by omega)
      obtain ⟨i0, hi0, hz0', hz1', hz2'⟩ := info_parts infoD
      go_wp2_with (first
        | (go_at_call 24; refine (data_any _ _ _).mono ?_; rintro e x ⟨rfl, hx⟩; have HX := Lib.hid hx; have O5 := Lib.hid (HO.out.kept (w' := x) (row := none) ⟨hx.os, hx.tape, hx.output, hx.size, fun j hj _ => hx.block j hj⟩ (by cases u8.ownBlock <;> simp)); clear hx)
        | ((with_reducible show wpList _ _ _ (⟨some 31, _, _, _, _, _⟩ :: _) _ _); refine wpList_bsO rfl 40 1 #[(0, .tmp 30)] rfl #[(0, .agg (bn0 k).cells)] (by first | rfl | simp [Act.eval, Act.put, bn0]) (run_bsO (bn0 k) _) ?_)
        | (at_builtin; refine wpList_append_lies _ rfl _ _ 40 rfl bs 26 i0 _ 4 32 Try.underlying40 hi0 hz0' hz1' hz2' rfl (by decide) u8 k (dcells bn0 k) rfl (O5.out.alloc _) ⟨x.heap.size, 0, none⟩ 1 1 (bn0 k).cells.toList rfl rfl (World.news_of_block (cs := (bn0 k).cells) (t := 26) (fr := (0, 0)) (heap_alloc_new x _)) (by simp [bn0, Dsc.cells, Value.oneCell']) (by decide) (by unfold maxLen; omega) (by omega) (by have := HX.out.size; simp; omega) (x.heap.size + 1) (by simp) ?_; intro gg cap w6 hown6 hgr6 hat6 hlt6; rw [← dcells_succ] at hown6; have O6 := Lib.hid hown6; have K6 := Lib.hid (grown_keeps (HX.out.trans (((Below.refl _ x).alloc (Nat.le_refl _) _).mono HX.out.size)) HO.out hwr hgr6); clear hown6 hgr6 hat6))
      case roundEnd => exact ⟨⟨k + 1, by omega, by go_num, O6.out, HK.out.trans K6.out⟩, by simp [intOf]; omega⟩
    · obtain rfl : k = 1023 := by omega
      obtain ⟨g, cap, F, rfl, hbg, hrow, hcap, hcm, hfx⟩ := owns_row HO.out (by omega)
      have hgl : g < wr.heap.size := hrow.lt
      clear hrow hfx
      go_upto_region 9 with (first
        | (go_at_call 24; refine (data_any _ _ _).mono ?_; rintro e x ⟨rfl, hx⟩; have HX := Lib.hid hx; have O5 := Lib.hid (HO.out.kept (w' := x) (row := none) ⟨hx.os, hx.tape, hx.output, hx.size, fun j hj _ => hx.block j hj⟩ (by simp [Value.ownBlock])); clear hx)
        | ((with_reducible show wpList _ _ _ (⟨none, .store _ (.tmp 36) _, _, _, _, _⟩ :: _) _ _); refine wpList_store_mid rfl 26 (.tmp 36) (.tmp 35) rfl g 4088 (⟨1, 20000, nn, 0⟩ : Dsc).cells (by first | rfl | simp [Act.eval, Act.put]) (by first | rfl | simp [Act.eval, Act.put]) (bn_store (n := nn) O5.out).1 sizeD (Dsc.one _) ?_))
      obtain ⟨W5, hW⟩ : ∃ z, z = x.setCells g 4088 (⟨1, 20000, nn, 0⟩ : Dsc).cells.toList := ⟨_, rfl⟩
      have O6 := Lib.hid (show W5.ownsRow bs 26 4 (.slice (some ⟨g, 0, none⟩) 1023 cap) 1023 (dcells (bnL nn) 1023) by rw [hW]; exact (bn_store (n := nn) O5.out).2)
      have K5 : Keeps (fun j => bs ≤ j) w1 W5 := by
        rw [hW]
        refine (HK.out.trans (Keeps.of_below HX.out)).trans (Keeps.store (Keeps.refl _ _) (fun _ => hbg) _ _)
      have M5 := Lib.hid (M1.out.kept K5 (fun e => by have e : bs ≤ b := e; omega) (fun e => by have e : bs ≤ B := e; omega))
      have B5 := Lib.hid (B1.out.trans (K5.below (B := w.heap.size) (by omega) (fun j hj e => by have e : bs ≤ j := e; omega)))
      rw [← hW]
      clear hW K5 O5 HX HO HK
      try simp only [Act.put]
      have hD5 := dAt_owns O6.out
      have hbl : Calls Try.prog 19 #[.pointer (some ⟨b, 0, none⟩), .int .u64 0, .slice (some ⟨g, 0, none⟩) 1023 cap] W5 fun e w' => e = .returned (.tuple #[.agg (⟨4, ((0 : Nat) : Int), ((16 * 1023 : Nat) : Int), 0⟩ : Dsc).cells, .int .i64 0]) ∧ Keeps (Two b B) W5 w' ∧ ∃ L, MemAt w' b B 20480 (bnF nn 1023) L := by
        refine (bld_any 0 (some ⟨g, 0, none⟩) 1023 cap b B 20480 (fun _ => 0) [] W5 M5.out (by omega) (bnL nn) hD5 (fun i hi => (bnL_good nn hn0 hn1 i).2.1 (by omega)) (by omega) (by omega) (by omega) (by simp)).mono ?_
        rintro e w' (⟨⟨i, hi, hx⟩, -⟩ | ⟨-, hx, -⟩ | ⟨-, -, hx, -⟩ | ⟨-, -, -, rfl, hk, hm⟩)
        · exact absurd (bnL_good nn hn0 hn1 i).1 hx
        · omega
        · omega
        · exact ⟨rfl, hk, _, hm⟩
      obtain ⟨X, hX⟩ : ∃ A : Array Value, A = (⟨4, ((0 : Nat) : Int), ((16 * 1023 : Nat) : Int), 0⟩ : Dsc).cells := ⟨_, rfl⟩
      have HSP := Lib.hid fun L N no R hR ao k c w hM hW => bn_sp b B nn 1023 (by omega) L N no R hR ao k c w hM hW
      rw [← hX] at hbl HSP
      have HBL := Lib.hid hbl
      have SX := Lib.hid (show X.size = 4 by rw [hX]; rfl)
      have OX := Lib.hid (show X.all (·.oneCell') = true by rw [hX]; exact Dsc.one _)
      have IX := Lib.hid (show (Try.prog.info? 26).map (·.size) = some X.size by rw [SX.out]; exact sizeD)
      clear hX hbl hD5
      have hw5 := B5.out.size
      go_upto_region 12 with (first
        | (go_at_call 19; refine HBL.out.mono ?_; rintro e w5 ⟨rfl, hk, L', hm⟩; have M55 := Lib.hid hm; have B55 := Lib.hid (B5.out.trans (hk.below (B := w.heap.size) hw5 (fun j hj e => by rcases e with e | e <;> omega))); clear hk hm)
        | ((with_reducible show wpList _ _ _ (⟨some 10, _, _, _, _, _⟩ :: _) _ _); refine wpList_alloc rfl 26 rfl zeroD ?_; rw [show (Value.agg zDsc.cells).cells = zDsc.cells from rfl])
        | ((with_reducible show wpList _ _ _ (⟨none, .store _ (.tmp 10) _, _, _, _, _⟩ :: _) _ _); refine wpList_storeA rfl (b := w5.heap.size) (A := zDsc.cells) (A' := X) (ArrAt.fresh w5 zDsc.cells _ (by decide)) 26 (.tmp 10) (.tmp 46) rfl (by simp [Act.eval, Act.put]) (by simp [Act.eval, Act.put]) (sizeDs _) (by rw [SX.out]; rfl) OX.out ?_))
      obtain ⟨W6, hW⟩ : ∃ z, z = (w5.alloc (.cells zDsc.cells 26)).setCells w5.heap.size 0 X.toList := ⟨_, rfl⟩
      obtain ⟨hb6, ha⟩ := stored_at (by decide) (by rw [SX.out]; rfl) hW
      rw [← hW]
      have R10 := Lib.hid ha
      have B6 := Lib.hid (B55.out.trans (hb6.mono B55.out.size))
      have K6 := Lib.hid (M55.out.below hb6)
      clear hW hb6 ha
      by_cases hz : nn = 0
      · subst hz
        have HC1 := Lib.hid fun W hM => HSP.out L' 0 0 _ (bn_fit 0 hn0 hn1) none 0 0 W hM ⟨rfl, rfl, by decide, SpAt.nil _ _⟩
        have HC2 := Lib.hid fun W hM => HSP.out L' (0 + 1) 162 _ (bn_short 0 hn0 hn1) none 0 0 W hM ⟨rfl, rfl⟩
        rw [show (0 : Int) + 1 = 1 from rfl] at HC2
        go_wp2_with (first
          | (go_at_call 16; refine (works_ok _).mono ?_; rintro e w9 ⟨rfl, hb⟩; have B9 := Lib.hid (B8.out.trans (hb.mono B8.out.size)); clear hb)
          | (go_at_call 27; refine (HC2.out _ M7.out).mono ?_; rintro e w8 ⟨rfl, hb⟩; have B8 := Lib.hid (B7.out.trans (hb.mono B7.out.size)); clear hb)
          | ((with_reducible show wpList _ _ _ (⟨some 110, _, _, _, _, _⟩ :: _) _ _); refine wpList_loadAG (by rfl) R107.out 26 (.tmp 10) rfl (by first | rfl | simp [Act.eval, Act.put]) Try.underlying26 rfl IX.out ?_)
          | (go_at_call 27; refine (HC1.out _ K6.out).mono ?_; rintro e w7 ⟨rfl, hb⟩; have R107 := Lib.hid (R10.out.below hb); have M7 := Lib.hid (K6.out.below hb); have B7 := Lib.hid (B6.out.trans (hb.mono B6.out.size)); clear hb)
          | ((with_reducible show wpList _ _ _ (⟨some 105, _, _, _, _, _⟩ :: _) _ _); refine wpList_loadAG (by rfl) R10.out 26 (.tmp 10) rfl (by first | rfl | simp [Act.eval, Act.put]) Try.underlying26 rfl IX.out ?_)
          | (go_at_call 13; refine (num_any _ _).mono ?_; rintro e w' ⟨rfl, rfl⟩))
        go_ret
        exact ⟨by first | rfl | simp, B9.out⟩
      · have hne : (nn == 0) = false := beq_eq_false_iff_ne.2 hz
        have HF := bn_fit nn hn0 hn1
        rw [if_neg hz] at HF
        have HC1 := Lib.hid (show ∀ W, MemAt W b B 20480 (bnF nn 1023) L' → Calls Try.prog 27 #[.pointer (some ⟨b, 0, none⟩), .agg X, .int .i64 nn, .bool true, .int .i64 0, .slice (some ⟨W.heap.size, 0, none⟩) 1 1] (W.alloc (.cells #[.int .u64 20000, .int .i64 nn, .bool false] 62)) fun e w' => e = .returned (.bool true) ∧ Below W.heap.size W w' from fun W hM => by
          have hb : Below W.heap.size W (W.alloc (.cells #[.int .u64 20000, .int .i64 nn, .bool false] 62)) := (Below.refl _ _).alloc (Nat.le_refl _) _
          refine (HSP.out L' nn 0 _ HF (some ⟨W.heap.size, 0, none⟩) 1 1 _ (hM.below hb) ⟨rfl, rfl, by simp, spAt_fresh W [⟨20000, nn, false⟩] 62⟩).mono ?_
          rintro e w' ⟨rfl, h⟩
          exact ⟨rfl, hb.trans (h.mono hb.size)⟩)
        have HC2 := Lib.hid fun W hM => HSP.out L' (nn + 1) 162 _ (bn_short nn hn0 hn1) none 0 0 W hM ⟨rfl, rfl⟩
        go_wp2_with (first
          | (go_at_call 16; refine (works_ok _).mono ?_; rintro e w9 ⟨rfl, hb⟩; have B9 := Lib.hid (B8.out.trans (hb.mono B8.out.size)); clear hb)
          | (go_at_call 27; refine (HC2.out _ M7.out).mono ?_; rintro e w8 ⟨rfl, hb⟩; have B8 := Lib.hid (B7.out.trans (hb.mono B7.out.size)); clear hb)
          | ((with_reducible show wpList _ _ _ (⟨some 133, _, _, _, _, _⟩ :: _) _ _); refine wpList_loadAG (by rfl) R107.out 26 (.tmp 10) rfl (by first | rfl | simp [Act.eval, Act.put]) Try.underlying26 rfl IX.out ?_)
          | (go_at_call 27; refine (HC1.out _ K6.out).mono ?_; rintro e w7 ⟨rfl, hb⟩; have R107 := Lib.hid (R10.out.below hb); have M7 := Lib.hid (K6.out.below hb); have B7 := Lib.hid (B6.out.trans (hb.mono B6.out.size)); clear hb)
          | ((with_reducible show wpList _ _ _ (⟨some 124, _, _, _, _, _⟩ :: _) _ _); refine wpList_loadAG (by rfl) R10.out 26 (.tmp 10) rfl (by first | rfl | simp [Act.eval, Act.put]) Try.underlying26 rfl IX.out ?_)
          | (go_at_call 13; refine (num_any _ _).mono ?_; rintro e w' ⟨rfl, rfl⟩))
        go_ret
        exact ⟨by first | rfl | simp, B9.out⟩

set_option maxRecDepth 100000 in
set_option maxHeartbeats 8000000 in
theorem bounds_past (size : Int) (w : World) (hz0 : 0 ≤ size) (hz1 : size ≤ 255) : Calls Try.prog 5 #[.int .u8 size, .bool true] w fun e w' => e = .returned (.bool true) ∧ Below w.heap.size w w' := by
  obtain ⟨nn, hnn⟩ : ∃ z : Int, z = size % 101 := ⟨_, rfl⟩
  have hn0 : 0 ≤ nn := by omega
  have hn1 : nn ≤ 100 := by omega
  have htm : size.tmod 101 = nn := by rw [Int.tmod_eq_emod_of_nonneg hz0, hnn]
  clear hnn
  go_enter Try.func5, Try.ntmps5
  go_upto_region 5 with (go_at_call 23; refine (new5 _).mono ?_; rintro e w1 ⟨b, B, rfl, hb, hB, hbl, hm⟩; have B1 := Lib.hid hbl; have M1 := Lib.hid hm; clear hbl hm)
  obtain ⟨bs, hbs⟩ : ∃ z, z = w1.heap.size := ⟨_, rfl⟩
  have hbb : b < bs := by rw [hbs]; exact M1.out.lt
  have hBB : B < bs := by rw [hbs]; exact M1.out.lt'
  have hwb : w.heap.size ≤ bs := by rw [hbs]; exact B1.out.size
  go_loopw [8, 9] (fun v8 v9 wr => ∃ k : Nat, k ≤ 1023 ∧ v9 = .int .i64 (k : Nat) ∧ wr.ownsRow bs 26 4 v8 k (dcells bn0 k) ∧ Keeps (fun j => bs ≤ j) w1 wr) (fun _ v9 _ => 1023 - (intOf v9).toNat)
  case atStart => exact ⟨0, by omega, rfl, World.ownsRow_nil _ _ _ _, Keeps.refl _ _⟩
  case round =>
    obtain ⟨k, hk, rfl, hown, hK⟩ := hrel
    have HO := Lib.hid hown
    have HK := Lib.hid hK
    have hwr : bs ≤ wr.heap.size := by have := hK.size; omega
    clear hown hK
    by_cases hkn : k < 1023
    · have q3 : decide ((k : Int) < 1023) = true := decide_eq_true (by omega)
      obtain ⟨i0, hi0, hz0', hz1', hz2'⟩ := info_parts infoD
      go_wp2_with (first
        | (go_at_call 24; refine (data_any _ _ _).mono ?_; rintro e x ⟨rfl, hx⟩; have HX := Lib.hid hx; have O5 := Lib.hid (HO.out.kept (w' := x) (row := none) ⟨hx.os, hx.tape, hx.output, hx.size, fun j hj _ => hx.block j hj⟩ (by cases u8.ownBlock <;> simp)); clear hx)
        | ((with_reducible show wpList _ _ _ (⟨some 31, _, _, _, _, _⟩ :: _) _ _); refine wpList_bsO rfl 40 1 #[(0, .tmp 30)] rfl #[(0, .agg (bn0 k).cells)] (by first | rfl | simp [Act.eval, Act.put, bn0]) (run_bsO (bn0 k) _) ?_)
        | (at_builtin; refine wpList_append_lies _ rfl _ _ 40 rfl bs 26 i0 _ 4 32 Try.underlying40 hi0 hz0' hz1' hz2' rfl (by decide) u8 k (dcells bn0 k) rfl (O5.out.alloc _) ⟨x.heap.size, 0, none⟩ 1 1 (bn0 k).cells.toList rfl rfl (World.news_of_block (cs := (bn0 k).cells) (t := 26) (fr := (0, 0)) (heap_alloc_new x _)) (by simp [bn0, Dsc.cells, Value.oneCell']) (by decide) (by unfold maxLen; omega) (by omega) (by have := HX.out.size; simp; omega) (x.heap.size + 1) (by simp) ?_; intro gg cap w6 hown6 hgr6 hat6 hlt6; rw [← dcells_succ] at hown6; have O6 := Lib.hid hown6; have K6 := Lib.hid (grown_keeps (HX.out.trans (((Below.refl _ x).alloc (Nat.le_refl _) _).mono HX.out.size)) HO.out hwr hgr6); clear hown6 hgr6 hat6))
      case roundEnd => exact ⟨⟨k + 1, by omega, by go_num, O6.out, HK.out.trans K6.out⟩, by simp [intOf]; omega⟩
    · obtain rfl : k = 1023 := by omega
      obtain ⟨g, cap, F, rfl, hbg, hrow, hcap, hcm, hfx⟩ := owns_row HO.out (by omega)
      have hgl : g < wr.heap.size := hrow.lt
      clear hrow hfx
      go_upto_region 9 with (first
        | (go_at_call 24; refine (data_any _ _ _).mono ?_; rintro e x ⟨rfl, hx⟩; have HX := Lib.hid hx; have O5 := Lib.hid (HO.out.kept (w' := x) (row := none) ⟨hx.os, hx.tape, hx.output, hx.size, fun j hj _ => hx.block j hj⟩ (by simp [Value.ownBlock])); clear hx)
        | ((with_reducible show wpList _ _ _ (⟨none, .store _ (.tmp 36) _, _, _, _, _⟩ :: _) _ _); refine wpList_store_mid rfl 26 (.tmp 36) (.tmp 35) rfl g 4088 (⟨1, 20000, nn, 0⟩ : Dsc).cells (by first | rfl | simp [Act.eval, Act.put]) (by first | rfl | simp [Act.eval, Act.put]) (bn_store (n := nn) O5.out).1 sizeD (Dsc.one _) ?_))
      obtain ⟨W5, hW⟩ : ∃ z, z = x.setCells g 4088 (⟨1, 20000, nn, 0⟩ : Dsc).cells.toList := ⟨_, rfl⟩
      have O6 := Lib.hid (show W5.ownsRow bs 26 4 (.slice (some ⟨g, 0, none⟩) 1023 cap) 1023 (dcells (bnL nn) 1023) by rw [hW]; exact (bn_store (n := nn) O5.out).2)
      have K5 : Keeps (fun j => bs ≤ j) w1 W5 := by
        rw [hW]
        refine (HK.out.trans (Keeps.of_below HX.out)).trans (Keeps.store (Keeps.refl _ _) (fun _ => hbg) _ _)
      have M5 := Lib.hid (M1.out.kept K5 (fun e => by have e : bs ≤ b := e; omega) (fun e => by have e : bs ≤ B := e; omega))
      have B5 := Lib.hid (B1.out.trans (K5.below (B := w.heap.size) (by omega) (fun j hj e => by have e : bs ≤ j := e; omega)))
      rw [← hW]
      clear hW K5 O5 HX HO HK
      try simp only [Act.put]
      obtain ⟨i0, hi0, hz0', hz1', hz2'⟩ := info_parts infoD
      have hg5 : g < W5.heap.size := by
        obtain ⟨g', cap', F', e, -, hr, -⟩ := owns_row O6.out (by omega)
        cases e
        exact hr.lt
      have hbs5 : bs ≤ W5.heap.size := by omega
      go_upto_region 11 with (first
        | (go_at_call 24; refine (data_any _ _ _).mono ?_; rintro e x2 ⟨rfl, hx⟩; have HX := Lib.hid hx; have O7 := Lib.hid (O6.out.kept (w' := x2) (row := none) ⟨hx.os, hx.tape, hx.output, hx.size, fun j hj _ => hx.block j hj⟩ (by simp [Value.ownBlock])); clear hx)
        | ((with_reducible show wpList _ _ _ (⟨some 40, _, _, _, _, _⟩ :: _) _ _); refine wpList_bsO rfl 40 1 #[(0, .tmp 39)] rfl #[(0, .agg (bnL nn 1023).cells)] (by first | rfl | simp [Act.eval, Act.put, bnL]) (run_bsO (bnL nn 1023) _) ?_)
        | (at_builtin; refine wpList_append_lies _ rfl _ _ 40 rfl bs 26 i0 _ 4 32 Try.underlying40 hi0 hz0' hz1' hz2' rfl (by decide) (.slice (some ⟨g, 0, none⟩) 1023 cap) 1023 (dcells (bnL nn) 1023) rfl (O7.out.alloc _) ⟨x2.heap.size, 0, none⟩ 1 1 (bnL nn 1023).cells.toList rfl rfl (World.news_of_block (cs := (bnL nn 1023).cells) (t := 26) (fr := (0, 0)) (heap_alloc_new x2 _)) (by simp [bnL, Dsc.cells, Value.oneCell']) (by decide) (by unfold maxLen; omega) (by omega) (by have := HX.out.size; simp; omega) (x2.heap.size + 1) (by simp) ?_; intro g6 cap6 w6 hown6 hgr6 hat6 hlt6; rw [← dcells_succ] at hown6; have O8 := Lib.hid hown6; have K6 := Lib.hid (grown_keeps (HX.out.trans (((Below.refl _ x2).alloc (Nat.le_refl _) _).mono HX.out.size)) O6.out hbs5 hgr6); clear hown6 hgr6 hat6))
      have M6 := Lib.hid (M5.out.kept K6.out (fun e => by have e : bs ≤ b := e; omega) (fun e => by have e : bs ≤ B := e; omega))
      have hw5 := B5.out.size
      have B6 := Lib.hid (B5.out.trans (K6.out.below (B := w.heap.size) hw5 (fun j hj e => by have e : bs ≤ j := e; omega)))
      have D6 := Lib.hid (dAt_owns O8.out)
      obtain ⟨Z, hZ⟩ : ∃ A : Array Value, A = zDsc.cells := ⟨_, rfl⟩
      have HBL := Lib.hid (show Calls Try.prog 19 #[.pointer (some ⟨b, 0, none⟩), .int .u64 0, .slice (some ⟨g6, 0, none⟩) 1024 cap6] w6 fun e w' => e = .returned (.tuple #[.agg Z, .int .i64 2]) ∧ Below w6.heap.size w6 w' by rw [hZ]; exact bld_many 0 (some ⟨g6, 0, none⟩) 1024 cap6 b B 20480 (fun _ => 0) [] w6 M6.out (by omega) (by omega))
      have SZ := Lib.hid (show Z.size = 4 by rw [hZ]; rfl)
      have OZ := Lib.hid (show Z.all (·.oneCell') = true by rw [hZ]; exact Dsc.one _)
      have IZ := Lib.hid (show (Try.prog.info? 26).map (·.size) = some Z.size by rw [SZ.out]; exact sizeD)
      have QZ := Lib.hid (show ∀ w, (binOp .eql 26 (.agg Z) (.agg Z)).run Try.prog w = .ok (.bool true) w by rw [hZ]; exact eqlDscO _)
      have BZ := Lib.hid (show ∀ w, (Instr.build 26 #[]).run Try.prog w = .ok (.agg Z) w by rw [hZ]; exact buildDz)
      clear hZ O6 O7 O8 HX M5 B5 hg5 hbs5 K6
      have hw6 := B6.out.size
      go_upto_region 13 with (first
        | (go_at_call 19; refine HBL.out.mono ?_; rintro e w7 ⟨rfl, hb⟩; have M7 := Lib.hid (M6.out.below hb); have B7 := Lib.hid (B6.out.trans (hb.mono hw6)); have D7 := Lib.hid (D6.out.below hb (fun g o e => by cases e; exact hlt6)); have hs7 := hb.size; clear hb)
        | ((with_reducible show wpList _ _ _ (⟨some 10, _, _, _, _, _⟩ :: _) _ _); refine wpList_alloc rfl 26 rfl zeroD ?_; rw [show (Value.agg zDsc.cells).cells = zDsc.cells from rfl])
        | ((with_reducible show wpList _ _ _ (⟨none, .store _ (.tmp 10) _, _, _, _, _⟩ :: _) _ _); refine wpList_storeA rfl (b := w7.heap.size) (A := zDsc.cells) (A' := Z) (ArrAt.fresh w7 zDsc.cells _ (by decide)) 26 (.tmp 10) (.tmp 46) rfl (by simp [Act.eval, Act.put]) (by simp [Act.eval, Act.put]) (sizeDs _) (by rw [SZ.out]; rfl) OZ.out ?_))
      obtain ⟨W8, hW⟩ : ∃ z, z = (w7.alloc (.cells zDsc.cells 26)).setCells w7.heap.size 0 Z.toList := ⟨_, rfl⟩
      obtain ⟨hb8, ha⟩ := stored_at (by decide) (by rw [SZ.out]; rfl) hW
      rw [← hW]
      obtain ⟨g10, hg10⟩ : ∃ z, z = w7.heap.size := ⟨_, rfl⟩
      have hbg10 : b < g10 := by rw [hg10]; exact M7.out.lt
      have hBg10 : B < g10 := by rw [hg10]; exact M7.out.lt'
      rw [← hg10] at ha ⊢
      have R10 := Lib.hid ha
      have B8 := Lib.hid (B7.out.trans (hb8.mono B7.out.size))
      have M8 := Lib.hid (M7.out.below hb8)
      have hg67 : g6 < w7.heap.size := by omega
      have D8 := Lib.hid (D7.out.below hb8 (fun g o e => by cases e; exact hg67))
      have hg68 : g6 < W8.heap.size := Nat.lt_of_lt_of_le hg67 hb8.size
      have hg108 : g10 < W8.heap.size := ha.lt
      have hw8 := B8.out.size
      have hb8m := M8.out.lt
      have hB8m := M8.out.lt'
      clear hW hb8 ha hg10 hs7 M6 B6 D6 HBL M7 B7 D7
      obtain ⟨b2, hb2⟩ : ∃ z, z = W8.heap.size := ⟨_, rfl⟩
      rw [← hb2] at hg68 hg108 hw8 hb8m hB8m
      have HOK := Lib.hid (fun i (hi : i < 1024) => (bnL_good nn hn0 hn1 i).2.1 hi)
      go_upto_region 15 with fail
      go_loopw [12, 13] (fun v12 v13 wr => ∃ k : Nat, k ≤ 1024 ∧ v13 = .int .i64 (k : Nat) ∧ wr.ownsRow b2 5 1 v12 (16 * k) (flB (bnL nn) k) ∧ Keeps (fun j => b2 ≤ j) W8 wr) (fun _ v13 _ => 1024 - (intOf v13).toNat)
      case atStart => exact ⟨0, by omega, rfl, World.ownsRow_nil _ _ _ _, Keeps.refl _ _⟩
      case round =>
        obtain ⟨k, hk, rfl, hown, hK⟩ := hrel
        have HO := Lib.hid hown
        have HK := Lib.hid hK
        have hwr : b2 ≤ wr.heap.size := by have := hK.size; omega
        clear hown hK
        have Dr := Lib.hid (D8.out.below (HK.out.below (B := b2) (by omega) (fun j hj e => by have e : b2 ≤ j := e; omega)) (fun g o e => by cases e; exact hg68))
        by_cases hkn : k < 1024
        · have q3 : decide ((k : Int) < 1024) = true := decide_eq_true (by omega)
          have hrk : wr.rangeAt g6 (0 + k * 4) (bnL nn k).cells.toList := by
            obtain ⟨g', o', e, hr⟩ := Dr.out k hkn
            cases e
            exact hr
          rw [Nat.zero_add] at hrk
          obtain ⟨DD, hDD⟩ : ∃ z, z = (bnL nn k).cells := ⟨_, rfl⟩
          have HSZ := Lib.hid (show (Try.prog.info? 26).map (·.size) = some DD.size by rw [hDD]; exact sizeD)
          have HBY := Lib.hid (show ∀ W, Calls Try.prog 25 #[.agg DD] W fun e w' => NewRow W w' 16 (dB (bnL nn k)) e from fun W => by rw [hDD]; exact bytes_any (bnL nn k) W (HOK.out k hkn))
          rw [← hDD] at hrk
          have HRK := Lib.hid hrk
          obtain ⟨i1, hi1, hy0, hy1, hy2⟩ := info_parts infoU8
          clear hrk hDD
          go_wp2_with (first
            | ((with_reducible show wpList _ _ _ (⟨some 59, _, _, _, _, _⟩ :: _) _ _); refine wpList_loadR rfl HRK.out 26 (.tmp 58) rfl (by first | rfl | simp [Act.eval, Act.put]) Try.underlying26 rfl HSZ.out ?_)
            | (go_at_call 25; refine (HBY.out _).mono ?_; rintro e y5 ⟨g5, rfl, hg5, hb, hr5⟩; have H5 := Lib.hid hb; have R5 := Lib.hid hr5; have O5 := Lib.hid (HO.out.kept (w' := y5) (row := none) ⟨hb.os, hb.tape, hb.output, hb.size, fun j hj _ => hb.block j hj⟩ (by cases u12.ownBlock <;> simp)); clear hb hr5 hg5)
            | (at_builtin; refine wpList_append_lies _ rfl _ _ 42 rfl b2 5 i1 _ 1 1 Try.underlying42 hi1 hy0 hy1 hy2 rfl (by decide) u12 (16 * k) (flB (bnL nn) k) rfl O5.out ⟨g5, 0, none⟩ 16 16 (dBs (bnL nn k)) rfl (by rw [dBs_length]) (src_of_row R5.out) (dBs_one _) (by decide) (by unfold maxLen; omega) (by omega) (by have := H5.out.size; omega) y5.heap.size rfl ?_; intro gg cap y6 hown6 hgr6 hat6 hlt6; have O6 := Lib.hid hown6; have K6 := Lib.hid (grown_keeps H5.out HO.out hwr hgr6); clear hown6 hgr6 hat6))
          exact ⟨⟨k + 1, by omega, by go_num, O6.out, HK.out.trans K6.out⟩, by simp [intOf]; omega⟩
        · obtain rfl : k = 1024 := by omega
          have q3 : decide (((1024 : Nat) : Int) < 1024) = false := by decide
          have Mr := Lib.hid (M8.out.kept HK.out (fun e => by have e : b2 ≤ b := e; omega) (fun e => by have e : b2 ≤ B := e; omega))
          have Br := Lib.hid (B8.out.trans (HK.out.below (B := w.heap.size) (by omega) (fun j hj e => by have e : b2 ≤ j := e; omega)))
          have R10r := Lib.hid (R10.out.kept HK.out (fun e => by have e : b2 ≤ g10 := e; omega))
          obtain ⟨av, cv, hav, -⟩ := ownsRow_shape HO.out
          have hsl : u12 ≠ .slice none 0 0 := fun e => by rw [hav] at e; injection e with e1 e2 e3; omega
          have hnl := newL_of_owns HO.out hsl (flB_length (bnL nn) 1024)
          obtain ⟨g2, cap2, F2, eg, hg2, hr2, hc2, hc3, hx2⟩ := hnl
          subst eg
          have hgood : ∀ i, i < 1024 → Good (bnL nn i) := fun i _ => (bnL_good nn hn0 hn1 i).1
          have hsrc : Src (Two b B) wr (some ⟨g2, 0, none⟩) (16 * 1024) (lsB (bnL nn)) := ⟨by omega, fun _ => ⟨g2, 0, rfl, fun e => by rcases e with e | e <;> omega, fun i hi => by
            rw [Nat.zero_add, hr2.cell (by omega)]
            have := hx2 i hi
            rw [flB_get (bnL nn) 1024 i (by omega)] at this
            exact this.symm⟩⟩
          have HWR := Lib.hid (write_ok' b B 20480 (fun _ => 0) [] 0 (16 * 1024) cap2 (some ⟨g2, 0, none⟩) (lsB (bnL nn)) 0 wr Mr.out (by simp) (by omega) hsrc rfl)
          rw [upd_lsB hgood HOK.out] at HWR
          have HC := Lib.hid (show ∀ L W, MemAt W b B 20480 (bnF nn 1024) L → Calls Try.prog 27 #[.pointer (some ⟨b, 0, none⟩), .agg (⟨4, 0, 16384, 0⟩ : Dsc).cells, .int .i64 (nn + 1), .bool true, .int .i64 5, .slice none 0 0] W fun e w' => e = .returned (.bool true) ∧ Below W.heap.size W w' from fun L W hM => bn_sp b B nn 1024 (by omega) L (nn + 1) 5 _ (bn_long nn hn0 hn1) none 0 0 W hM ⟨rfl, rfl⟩)
          clear hsrc hr2 hx2 hav hgood
          have hwz : w.heap.size ≤ wr.heap.size := by omega
          go_wp2_with (first
            | (go_at_call 16; refine (works_ok _).mono ?_; rintro e z9 ⟨rfl, hb⟩; have Y9 := Lib.hid (Y8.out.trans (hb.mono Y8.out.size)); clear hb)
            | (go_at_call 27; refine (HC.out _ z6 Z6.out).mono ?_; rintro e z8 ⟨rfl, hb⟩; have Y8 := Lib.hid (Y6.out.trans (hb.mono Y6.out.size)); clear hb)
            | ((with_reducible show wpList _ _ _ (⟨some 74, _, _, _, _, _⟩ :: _) _ _); refine wpList_loadAG (by rfl) R106.out 26 (.tmp 10) rfl (by first | rfl | simp [Act.eval, Act.put]) Try.underlying26 rfl IZ.out ?_)
            | ((with_reducible show wpList _ _ _ (⟨some 75, _, _, _, _, _⟩ :: _) _ _); refine wpList_build0O (by rfl) 26 rfl (BZ.out _) ?_)
            | ((with_reducible show wpList _ _ _ (⟨some 76, _, _, _, _, _⟩ :: _) _ _); refine wpList_valG (by rfl) (v := .bool true) (exec_eql 26 (.tmp 74) (.tmp 75) _ rfl _ _ rfl rfl (guardDe _ _ _ _ _) (QZ.out _)) ?_)
            | ((with_reducible show wpList _ _ _ (⟨some 87, _, _, _, _, _⟩ :: _) _ _); refine wpList_valG (by rfl) (v := .agg (⟨4, 0, 16384, 0⟩ : Dsc).cells) (by kernel_rfl) ?_)
            | (go_at_call 13; refine (num_any _ _).mono ?_; rintro e w' ⟨rfl, rfl⟩)
            | (go_at_call 26; refine HWR.out.mono ?_; rintro e z6 ⟨rfl, hk, hm⟩; have Z6 := Lib.hid (show MemAt z6 b B 20480 (bnF nn 1024) _ from hm); have Y6 := Lib.hid (Br.out.trans (hk.below (B := w.heap.size) hwz (fun j hj e => by rcases e with e | e <;> omega))); have R106 := Lib.hid (R10r.out.kept hk (fun e => by rcases e with e | e <;> omega)); clear hk hm))
          go_ret
          exact ⟨by first | rfl | simp, Y9.out⟩

theorem boundsLaw (size : Int) (past : Bool) (w : World) (hw0 : (Lit.int .u8 size).wf = true) : Calls Try.prog 5 #[.int .u8 size, .bool past] w fun e w' => e = .returned (.bool true) ∧ Below w.heap.size w w' := by
  obtain ⟨h0, h1⟩ := wf_u8 hw0
  cases past
  · exact bounds_in size w h0 h1
  · exact bounds_past size w h0 h1
end Go.Proofs.Ytcljbmkdflkeeaa
