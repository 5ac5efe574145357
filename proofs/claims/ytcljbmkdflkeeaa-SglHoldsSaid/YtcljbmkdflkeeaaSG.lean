/- sgl: block, bucket, segment. -/
import Derived.Test.YtcljbmkdflkeeaaSZ
namespace Go.Proofs.Ytcljbmkdflkeeaa
set_option linter.unusedVariables false
set_option linter.unusedSimpArgs false
open Go.RowKit

theorem kN {P : Nat → Prop} {a b : World} (h : Below a.heap.size a b) : Keeps (fun k => ¬ P k) a b := Keeps.of_below h
theorem Wlk.c0 {P : Nat → Prop} {wb : Nat} {W : World} {m : Value} {th : Bool} {ex : Int} {s : WSt} (h : Wlk P wb W m th ex s) : W.cell? ⟨wb, 0, none⟩ = some m := by obtain ⟨v, hr, -⟩ := h.ex; exact hr.cell (i := 0) (by omega)

section
variable (P : Nat → Prop) (wb b B size : Nat) (f : Nat → Int) (L : List (Nat × Nat)) (th : Bool) (ex : Int) (s : WSt) (d : Dsc) (W : World)
set_option maxRecDepth 100000 in
set_option maxHeartbeats 2000000 in
theorem block_ok (hM : MemAt W b B size f L) (h : Wlk P wb W (.pointer (some ⟨b, 0, none⟩)) th ex s) (hd : d.Ok) (hk : chk size d.a d.n = 0) (hl : s.out.length ≤ 1048576) (hs : s.left ≤ 1048576) :
    Calls Try.prog 58 #[.pointer (some ⟨wb, 0, none⟩), .agg d.cells] W fun e W' => e = .returned (.tuple #[]) ∧ Keeps (fun k => ¬ P k) W W' ∧ Wlk P wb W' (.pointer (some ⟨b, 0, none⟩)) th ex (addS ⟨d.a, d.n, false⟩ s) := by
  obtain ⟨W1, hW1, hb1, ha1, hs1⟩ := box_start d W
  have HC := Lib.hid (wcheck_ok wb b B size f L d W1 (hM.below hb1) (h.below hb1).c0 hd hk)
  have HW := Lib.hid (h.below hb1)
  have HA := Lib.hid ha1
  have HB1 := Lib.hid hb1
  have HW1 := Lib.hid hW1
  have HADD := Lib.hid fun W (h : Wlk P wb W (.pointer (some ⟨b, 0, none⟩)) th ex s) => wadd_any P wb (.pointer (some ⟨b, 0, none⟩)) th ex s ⟨d.a, d.n, false⟩ W h hl hd.n.2 hs
  have hz : W.heap.size < W1.heap.size := by omega
  obtain ⟨A, hA⟩ : ∃ A, A = d.cells := ⟨_, rfl⟩
  have HSZ := Lib.hid (show (Try.prog.info? 26).map (·.size) = some A.size by rw [hA]; exact sizeD)
  have c1 : W1.cell? ⟨W.heap.size, 1, none⟩ = some (.int .u64 d.a) := ha1.cell rfl
  have c2 : W1.cell? ⟨W.heap.size, 2, none⟩ = some (.int .i64 d.n) := ha1.cell rfl
  obtain ⟨a, ha⟩ : ∃ a, a = d.a := ⟨_, rfl⟩
  obtain ⟨n, hn⟩ : ∃ n, n = d.n := ⟨_, rfl⟩
  rw [← hA] at HA HC HW1 ⊢
  rw [← ha] at c1 HADD ⊢
  rw [← hn] at c2 HADD ⊢
  obtain ⟨s', hs'⟩ : ∃ s', s' = addS ⟨a, n, false⟩ s := ⟨_, rfl⟩
  rw [← hs'] at HADD ⊢
  clear hM h hd hk hl hs hW1 hb1 ha1 hs1 hA ha hn hs'
  go_enter Try.func58, Try.ntmps58
  go_upto_region 1 with (fail)
  rw [← HW1.out]
  go_upto_region 2 with (first
    | ((with_reducible show wpList _ _ _ (⟨some 5, _, _, _, _, _⟩ :: _) _ _); refine wpList_loadA rfl HA.out 26 (.tmp 3) rfl (by first | rfl | simp [Act.eval, Act.put]) Try.underlying26 rfl HSZ.out ?_)
    | (go_at_call 66; refine HC.out.mono ?_; rintro e w2 ⟨rfl, hb2⟩))
  have g1 := (hb2.cell (p := ⟨W.heap.size, 1, none⟩) hz).trans c1
  have g2 := (hb2.cell (p := ⟨W.heap.size, 2, none⟩) hz).trans c2
  have HW2 := Lib.hid (HW.out.below hb2)
  have HB2 := Lib.hid (HB1.out.trans (hb2.mono (by omega)))
  clear hb2 c1 c2
  go_wp2_with (go_at_call 67; refine (HADD.out _ HW2.out).mono ?_; rintro e w3 ⟨rfl, hk3, hw3⟩; have HK3 := Lib.hid ((kN (P := P) HB2.out).trans hk3); have HW3 := Lib.hid hw3; clear hk3 hw3)
  go_end0
  exact ⟨rfl, HK3.out, HW3.out⟩

set_option maxRecDepth 100000 in
set_option maxHeartbeats 2000000 in
theorem block_bad (hM : MemAt W b B size f L) (h : W.cell? ⟨wb, 0, none⟩ = some (.pointer (some ⟨b, 0, none⟩))) (hd : d.Ok) (no : Int) (hk : chk size d.a d.n = no) (hne : (no == 0) = false) :
    Calls Try.prog 58 #[.pointer (some ⟨wb, 0, none⟩), .agg d.cells] W fun e W' => e = .panicked [pan no] ∧ Below W.heap.size W W' := by
  obtain ⟨W1, hW1, hb1, ha1, hs1⟩ := box_start d W
  have hwl := World.block_lt_of_cell? _ _ h
  simp only [] at hwl
  have HC := Lib.hid (wcheck_bad wb b B size f L d W1 (hM.below hb1) ((hb1.cell (p := ⟨wb, 0, none⟩) hwl).trans h) hd no hk hne)
  have HA := Lib.hid ha1
  have HB1 := Lib.hid hb1
  have HW1 := Lib.hid hW1
  obtain ⟨A, hA⟩ : ∃ A, A = d.cells := ⟨_, rfl⟩
  have HSZ := Lib.hid (show (Try.prog.info? 26).map (·.size) = some A.size by rw [hA]; exact sizeD)
  rw [← hA] at HA HC HW1 ⊢
  clear hM h hd hk hW1 hb1 ha1 hs1 hA hne
  go_enter Try.func58, Try.ntmps58
  go_upto_region 1 with (fail)
  rw [← HW1.out]
  go_wp2_with (first
    | ((with_reducible show wpList _ _ _ (⟨some 5, _, _, _, _, _⟩ :: _) _ _); refine wpList_loadA rfl HA.out 26 (.tmp 3) rfl (by first | rfl | simp [Act.eval, Act.put]) Try.underlying26 rfl HSZ.out ?_)
    | (go_at_call 66; refine HC.out.mono ?_; rintro e w2 ⟨rfl, hb2⟩; have HB2 := Lib.hid (HB1.out.trans (hb2.mono HB1.out.size)); clear hb2))
  exact ⟨rfl, rfl, HB2.out⟩

set_option maxRecDepth 100000 in
set_option maxHeartbeats 2000000 in
theorem bucket_any (m : Value) (h : Wlk P wb W m th ex s) (hd : d.Ok) (hl : s.out.length ≤ 1048576) (hs : s.left ≤ 1048576) :
    Calls Try.prog 59 #[.pointer (some ⟨wb, 0, none⟩), .agg d.cells] W fun e W' => e = .returned (.tuple #[]) ∧ Keeps (fun k => ¬ P k) W W' ∧ Wlk P wb W' m th ex (if th then addS ⟨0, d.n, true⟩ s else s) := by
  obtain ⟨W1, hW1, hb1, ha1, hs1⟩ := box_start d W
  have HW := Lib.hid (h.below hb1)
  have HB1 := Lib.hid hb1
  have HW1 := Lib.hid hW1
  have HADD := Lib.hid fun W (h : Wlk P wb W m th ex s) => wadd_any P wb m th ex s ⟨0, d.n, true⟩ W h hl hd.n.2 hs
  have c2 : W1.cell? ⟨W.heap.size, 2, none⟩ = some (.int .i64 d.n) := ha1.cell rfl
  have ct : W1.cell? ⟨wb, 1, none⟩ = some (.bool th) := by obtain ⟨v, hr, -⟩ := (h.below hb1).ex; exact hr.cell (i := 1) (by omega)
  obtain ⟨A, hA⟩ : ∃ A, A = d.cells := ⟨_, rfl⟩
  obtain ⟨n, hn⟩ : ∃ n, n = d.n := ⟨_, rfl⟩
  rw [← hA] at HW1 ⊢
  rw [← hn] at c2 HADD ⊢
  obtain ⟨s', hs'⟩ : ∃ s', s' = addS ⟨0, n, true⟩ s := ⟨_, rfl⟩
  rw [← hs'] at HADD ⊢
  clear h hd hl hs hW1 hb1 ha1 hs1 hA hn hs'
  cases th
  · go_enter Try.func59, Try.ntmps59
    go_upto_region 1 with (fail)
    rw [← HW1.out]
    go_wp2_with fail
    go_end0
    exact ⟨rfl, kN HB1.out, HW.out⟩
  · go_enter Try.func59, Try.ntmps59
    go_upto_region 1 with (fail)
    rw [← HW1.out]
    go_wp2_with (go_at_call 67; refine (HADD.out _ HW.out).mono ?_; rintro e w3 ⟨rfl, hk3, hw3⟩; have HK3 := Lib.hid ((kN (P := P) HB1.out).trans hk3); have HW3 := Lib.hid hw3; clear hk3 hw3)
    go_end0
    exact ⟨rfl, HK3.out, HW3.out⟩
end
end Go.Proofs.Ytcljbmkdflkeeaa
