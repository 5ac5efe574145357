/- prp: got, address, next. -/
import Derived.Test.YtfmabknhfehdcaaGreatZP18
import Derived.Deep.DrawnRows
namespace Go.Proofs.YtfmabknhfehdcaaGreat
set_option linter.unusedSimpArgs false
set_option linter.unusedVariables false
open Go.RowKit
attribute [local go_sem ↓] Go.wp_at_zero Go.wp_at_succ
theorem le_lo (F : Nat → Int) : le F 0 8 = hz F 7 8 := by simp [le, hz]; omega
theorem wrd_bd {f : Nat → Int} (hf : Bytes f) (a : Int) : 0 ≤ wrd f a ∧ wrd f a ≤ 18446744073709551615 := by
 have h := hz_bd (F := fun i => f (a.toNat + i)) (fun i => hf _) 7 8
 unfold wrd
 have e : (256 : Int) ^ 8 = 18446744073709551616 := by decide
 rw [e] at h
 omega
theorem Wlk.set1 {P : Nat → Prop} {wb : Nat} {W : World} {m : Value} {s : PSt} (h : Wlk P wb W m s) (x : Int) : Wlk P wb (W.setCell ⟨wb, 1, none⟩ (.int .u64 x)) m ⟨x, s.fresh, s.left, s.out⟩ := by
 obtain ⟨v, hr, ho, hp⟩ := h.ex
 refine ⟨⟨v, (hr.set 1 _).congr fun i hi => ?_, ho.kept (w' := W.setCell ⟨wb, 1, none⟩ (.int .u64 x)) (row := some wb) ⟨rfl, rfl, rfl, by simp, fun j hj hne => Below.heap_setCell _ _ _ _ (fun e => hne (congrArg some e))⟩ (.inr (fun e => by have := (ho.lt wb e).1; omega)), hp⟩, h.notg, fun j hj => by have := h.lt j hj; simpa using this⟩
 unfold wcell
 by_cases e : i = 1
 ·subst e; rfl
 ·simp only [e, if_false]
theorem Wlk.set2 {P : Nat → Prop} {wb : Nat} {W : World} {m : Value} {s : PSt} (h : Wlk P wb W m s) (x : Bool) : Wlk P wb (W.setCell ⟨wb, 2, none⟩ (.bool x)) m ⟨s.list, x, s.left, s.out⟩ := by
 obtain ⟨v, hr, ho, hp⟩ := h.ex
 refine ⟨⟨v, (hr.set 2 _).congr fun i hi => ?_, ho.kept (w' := W.setCell ⟨wb, 2, none⟩ (.bool x)) (row := some wb) ⟨rfl, rfl, rfl, by simp, fun j hj hne => Below.heap_setCell _ _ _ _ (fun e => hne (congrArg some e))⟩ (.inr (fun e => by have := (ho.lt wb e).1; omega)), hp⟩, h.notg, fun j hj => by have := h.lt j hj; simpa using this⟩
 unfold wcell
 by_cases e : i = 2
 ·subst e; rfl
 ·simp only [e, if_false]
theorem Wlk.fz {P : Nat → Prop} {wb : Nat} {W : World} {m : Value} {s : PSt} (h : Wlk P wb W m s) (i : Nat) : W.frozen? ⟨wb, i, none⟩ = false := by obtain ⟨v, hr, -⟩ := h.ex; exact hr.frozen i
theorem Wlk.c0 {P : Nat → Prop} {wb : Nat} {W : World} {m : Value} {s : PSt} (h : Wlk P wb W m s) : W.cell? ⟨wb, 0, none⟩ = some m := by obtain ⟨v, hr, -⟩ := h.ex; exact hr.cell (i := 0) (by omega)
theorem Wlk.c1 {P : Nat → Prop} {wb : Nat} {W : World} {m : Value} {s : PSt} (h : Wlk P wb W m s) : W.cell? ⟨wb, 1, none⟩ = some (.int .u64 s.list) := by obtain ⟨v, hr, -⟩ := h.ex; exact hr.cell (i := 1) (by omega)
theorem Wlk.c2 {P : Nat → Prop} {wb : Nat} {W : World} {m : Value} {s : PSt} (h : Wlk P wb W m s) : W.cell? ⟨wb, 2, none⟩ = some (.bool s.fresh) := by obtain ⟨v, hr, -⟩ := h.ex; exact hr.cell (i := 2) (by omega)
section
variable (b B size : Nat) (f : Nat → Int) (L : List (Nat × Nat)) (a : Int) (W : World) (hM : MemAt W b B size f L) (ha0 : 0 ≤ a) (ha1 : a ≤ 18446744073709551615)
include hM ha0 ha1
set_option maxRecDepth 100000 in
set_option maxHeartbeats 2000000 in
theorem got_ok (hc : chk size a 8 = 0) :
  Calls Tryz.prog 107 #[.func (.func 15) #[.pointer (some ⟨b, 0, none⟩)] #[], .int .u64 a, .int .i64 8] W fun e W' => ∃ v, e = .returned v ∧ NewBytes W.heap.size W' v 8 (fun i => f (a.toNat + i)) ∧ Below W.heap.size W W' := by
 obtain ⟨h0, h8⟩ := chk_ok hc
 obtain ⟨an, rfl⟩ : ∃ an : Nat, a = (an : Int) := ⟨a.toNat, by omega⟩
 have HR := Lib.hid (show Calls Tryz.prog 15 #[.pointer (some ⟨b, 0, none⟩), .int .u64 (an : Nat), .int .i64 8] W fun e w' => ∃ v, e = .returned (.tuple #[v, .int .i64 0]) ∧ NewBytes W.heap.size w' v 8 (fun i => f (an + i)) ∧ Below W.heap.size W w' from read_ok b B size f L an 8 W hM (by omega))
 clear hM hc
 go_enter Tryz.func107, Tryz.ntmps107
 go_upto_region 2 with ((with_reducible refine HR.out.mono ?_); rintro e w1 ⟨v, rfl, hv, hb⟩; have HV := Lib.hid hv; have HB := Lib.hid hb; clear hv hb)
 go_wp2_with (go_at_call 46; refine (must1_ok _ _).mono ?_; rintro e w' ⟨rfl, rfl⟩)
 go_ret
 exact ⟨v, rfl, HV.out.kept (S := fun _ => False) ((Keeps.refl _ _).alloc _) (fun _ _ e => e), HB.out.alloc HB.out.size _⟩
set_option maxRecDepth 100000 in
set_option maxHeartbeats 2000000 in
theorem got_bad (no : Int) (hc : chk size a 8 = no) (hne : (no == 0) = false) :
  Calls Tryz.prog 107 #[.func (.func 15) #[.pointer (some ⟨b, 0, none⟩)] #[], .int .u64 a, .int .i64 8] W fun e W' => e = .panicked [pan no] ∧ Below W.heap.size W W' := by
 have HR := Lib.hid (show Calls Tryz.prog 15 #[.pointer (some ⟨b, 0, none⟩), .int .u64 a, .int .i64 8] W fun e w' => e = .returned (.tuple #[.slice none 0 0, .int .i64 no]) ∧ Below W.heap.size W w' by
  rw [← hc]
  exact read_err b B size f L a 8 W hM ha0 ha1 (by omega) (by omega) (by rw [hc]; exact bne_iff_ne.2 (beq_eq_false_iff_ne.1 hne)))
 clear hM hc
 go_enter Tryz.func107, Tryz.ntmps107
 go_upto_region 2 with ((with_reducible refine HR.out.mono ?_); rintro e w1 ⟨rfl, hb⟩; have HB := Lib.hid hb; clear hb)
 go_wp2_with fail
 refine (must1_bad _ _).mono ?_
 rintro e w' ⟨rfl, rfl⟩
 exact ⟨rfl, rfl, HB.out.alloc HB.out.size _⟩
end
section
variable (P : Nat → Prop) (wb b B size : Nat) (f : Nat → Int) (L : List (Nat × Nat)) (s : PSt) (W : World) (hM : MemAt W b B size f L) (hby : Bytes f) (h : Wlk P wb W (.pointer (some ⟨b, 0, none⟩)) s) (ha0 : 0 ≤ s.list) (ha1 : s.list ≤ 18446744073709551615)
include hM hby h ha0 ha1
set_option maxRecDepth 100000 in
set_option maxHeartbeats 2000000 in
theorem address_ok (hc : chk size s.list 8 = 0) :
  Calls Tryz.prog 101 #[.pointer (some ⟨wb, 0, none⟩)] W fun e W' => e = .returned (.int .u64 (wrd f s.list)) ∧ Keeps (fun k => ¬ P k) W W' ∧ Wlk P wb W' (.pointer (some ⟨b, 0, none⟩)) ⟨s.list + 8, s.fresh, s.left, s.out⟩ := by
 have H := Lib.hid h
 have hsm := hM.small
 obtain ⟨h0, h8⟩ := chk_ok hc
 obtain ⟨v, hr, ho, hp⟩ := h.ex
 have hwl := hr.lt
 have HG := Lib.hid (got_ok b B size f L s.list W.drew (hM.below (Below.refl _ W).drew) ha0 ha1 hc)
 have c0 : W.cell? ⟨wb, 0, none⟩ = some (.pointer (some ⟨b, 0, none⟩)) := hr.cell (i := 0) (by omega)
 have c1 : W.cell? ⟨wb, 1, none⟩ = some (.int .u64 s.list) := hr.cell (i := 1) (by omega)
 have HWR := Lib.hid (show wrd f s.list = le (fun i => f (s.list.toNat + i)) 0 8 from (le_lo _).symm)
 have HBY := Lib.hid (show ∀ j, 0 ≤ (fun i => f (s.list.toNat + i)) j ∧ (fun i => f (s.list.toNat + i)) j ≤ 255 from fun j => hby _)
 obtain ⟨F, hF⟩ : ∃ F : Nat → Int, F = fun i => f (s.list.toNat + i) := ⟨_, rfl⟩
 rw [← hF] at HG HWR HBY
 rw [HWR.out]
 obtain ⟨l, hl⟩ : ∃ l, l = s.list := ⟨_, rfl⟩
 rw [← hl] at HG c1 ha0 h8 ⊢
 have HL := Lib.hid hl
 clear hM hby h hr ho hp hc HWR hF hl ha1
 go_enter Tryz.func101, Tryz.ntmps101
 go_upto_region 1 with fail
 go_region_held3 (fun w' => w'.cell? ⟨wb, 0, none⟩ = some (.pointer (some ⟨b, 0, none⟩)) ∧ w'.cell? ⟨wb, 1, none⟩ = some (.int .u64 l)) (go_keep) (first
  | (go_at_call 107; refine (HG.out).mono ?_; rintro e w1 ⟨bv, rfl, hv, hb⟩; have x0 := (hb.cell (p := ⟨wb, 0, none⟩) hwl).trans c0; have x1 := (hb.cell (p := ⟨wb, 1, none⟩) hwl).trans c1; obtain ⟨g, cap, G, rfl, hg1, hg2, hg3, hg4, hg5⟩ := hv; have HB := Lib.hid hb; have HX := Lib.hid hg2; have HY := Lib.hid hg5; clear hb hg2 hg5)
  | (go_at_call 106; refine (get_ok g 0 8 cap F _ HBY.out (by omega) (by omega) (fun j hj => by rw [Nat.zero_add, HX.out.cell (by omega), HY.out j hj])).mono ?_; rintro e w' ⟨rfl, rfl⟩))
 have HW1 := Lib.hid (H.out.below ((Below.refl _ W).drew.trans HB.out))
 have HK1 := Lib.hid (show Keeps (fun k => ¬ P k) W w1 from kN ((Below.refl _ W).drew.trans HB.out))
 have y1 := HW1.out.fz 1
 have y2 : w1.cell? ⟨wb, 1, none⟩ = some (.int .u64 l) := x1
 clear x0 x1 c0 c1 HX HY HB HG
 go_wp2_with fail
 go_ret
 refine ⟨rfl, HK1.out.setCell (p := ⟨wb, 1, none⟩) (fun _ => H.out.notg) _, ?_⟩
 exact HW1.out.set1 (l + 8)
omit hby in
set_option maxRecDepth 100000 in
set_option maxHeartbeats 2000000 in
theorem address_bad (no : Int) (hc : chk size s.list 8 = no) (hne : (no == 0) = false) :
  Calls Tryz.prog 101 #[.pointer (some ⟨wb, 0, none⟩)] W fun e W' => e = .panicked [pan no] ∧ Below W.heap.size W W' := by
 have HG := Lib.hid (got_bad b B size f L s.list W.drew (hM.below (Below.refl _ W).drew) ha0 ha1 no hc hne)
 have c0 := h.c0
 have c1 := h.c1
 obtain ⟨l, hl⟩ : ∃ l, l = s.list := ⟨_, rfl⟩
 rw [← hl] at HG c1 ha0
 clear hM h hc hl ha1 hne
 go_enter Tryz.func101, Tryz.ntmps101
 go_upto_region 1 with fail
 refine wp_region_held_drew (S := fun w' => w' = W.drew) (by kernel_rfl) rfl (fun hS0 => ?_)
 refine takeD 6 (i := 0) (v := .pointer (some ⟨wb, 0, none⟩)) rfl rfl (by kernel_rfl) (by kernel_rfl) (by kernel_rfl) (fun _ _ _ h => h) (Or.inl ⟨by rfl, by (intro w' hw'; subst hw'; go_simp)⟩) (by assumption) ?_
 try simp only [Act.put, List.setIfInBounds_toArray, List.set_cons_zero, List.set_cons_succ]
 refine takeD 7 (i := 1) (v := .pointer (some ⟨wb, 0, none⟩)) rfl rfl (by kernel_rfl) (by kernel_rfl) (by kernel_rfl) (fun _ _ _ h => h) (Or.inl ⟨by rfl, by (intro w' hw'; subst hw'; go_simp)⟩) (by assumption) ?_
 try simp only [Act.put, List.setIfInBounds_toArray, List.set_cons_zero, List.set_cons_succ]
 refine takeD 8 (i := 2) (v := .pointer (some ⟨wb, 0, none⟩)) rfl rfl (by kernel_rfl) (by kernel_rfl) (by kernel_rfl) (fun _ _ _ h => h) (Or.inl ⟨by rfl, by (intro w' hw'; subst hw'; go_simp)⟩) (by assumption) ?_
 try simp only [Act.put, List.setIfInBounds_toArray, List.set_cons_zero, List.set_cons_succ]
 refine takeD 9 (i := 3) (v := .pointer (some ⟨b, 0, none⟩)) rfl rfl (by kernel_rfl) (by kernel_rfl) (by kernel_rfl) (fun _ _ _ h => h) (Or.inl ⟨by rfl, by (intro w' hw'; subst hw'; go_simp)⟩) (by assumption) ?_
 try simp only [Act.put, List.setIfInBounds_toArray, List.set_cons_zero, List.set_cons_succ]
 refine takeD 10 (i := 4) (v := .func (.func 15) #[.pointer (some ⟨b, 0, none⟩)] #[]) rfl rfl (by kernel_rfl) (by kernel_rfl) (by kernel_rfl) (fun _ _ _ h => h) (Or.inl ⟨by rfl, by (intro w' hw'; subst hw'; go_simp)⟩) (by assumption) ?_
 try simp only [Act.put, List.setIfInBounds_toArray, List.set_cons_zero, List.set_cons_succ]
 refine takeD 11 (i := 5) (v := .pointer (some ⟨wb, 0, none⟩)) rfl rfl (by kernel_rfl) (by kernel_rfl) (by kernel_rfl) (fun _ _ _ h => h) (Or.inl ⟨by rfl, by (intro w' hw'; subst hw'; go_simp)⟩) (by assumption) ?_
 try simp only [Act.put, List.setIfInBounds_toArray, List.set_cons_zero, List.set_cons_succ]
 refine takeD 12 (i := 6) (v := .pointer (some ⟨wb, 0, none⟩)) rfl rfl (by kernel_rfl) (by kernel_rfl) (by kernel_rfl) (fun _ _ _ h => h) (Or.inl ⟨by rfl, by (intro w' hw'; subst hw'; go_simp)⟩) (by assumption) ?_
 try simp only [Act.put, List.setIfInBounds_toArray, List.set_cons_zero, List.set_cons_succ]
 refine takeD 13 (i := 7) (v := .pointer (some ⟨wb, 1, none⟩)) rfl rfl (by kernel_rfl) (by kernel_rfl) (by kernel_rfl) (fun _ _ _ h => h) (Or.inl ⟨by rfl, by (intro w' hw'; subst hw'; go_simp)⟩) (by assumption) ?_
 try simp only [Act.put, List.setIfInBounds_toArray, List.set_cons_zero, List.set_cons_succ]
 refine takeD 14 (i := 8) (v := .int .u64 l) rfl rfl (by kernel_rfl) (by kernel_rfl) (by kernel_rfl) (fun _ _ _ h => h) (Or.inl ⟨by rfl, by (intro w' hw'; subst hw'; go_simp)⟩) (by assumption) ?_
 try simp only [Act.put, List.setIfInBounds_toArray, List.set_cons_zero, List.set_cons_succ]
 refine wpAnyH_ready (rs := [9]) (by kernel_rfl) (by simp) (AllReadyH.cons rfl (fun K hK => ?_) AllReadyH.nil)
 rw [if_pos (by rfl)]
 go_simp
 refine HG.out.mono ?_
 rintro e w1 ⟨rfl, hb⟩
 exact ⟨rfl, rfl, (Below.refl _ W).drew.trans hb⟩
end
end Go.Proofs.YtfmabknhfehdcaaGreat
namespace Go.Proofs.YtfmabknhfehdcaaGreat
set_option linter.unusedSimpArgs false
set_option linter.unusedVariables false
open Go.RowKit
/-- What next leaves. -/
def NxPost (P : Nat → Prop) (wb : Nat) (m : Value) (W : World) (R : Except Int (Int × PSt)) (e : Ending) (W' : World) : Prop := match R with
 | .error no => e = .panicked [pan no] ∧ Keeps (fun k => ¬ P k) W W'
 | .ok x => e = .returned (.int .u64 x.1) ∧ Keeps (fun k => ¬ P k) W W' ∧ Wlk P wb W' m x.2
section
variable {f : Nat → Int} {size : Nat} {K l lf : Int} {out : List Spn}
theorem nxt_no0 (h : l % 8 ≠ 0) : nxtP f size K ⟨l, true, lf, out⟩ = .error 150 := by unfold nxtP; rw [if_pos ⟨rfl, h⟩]
theorem nxt_fresh (h : l % 8 = 0) : nxtP f size K ⟨l, true, lf, out⟩ = nxtP f size K ⟨l, false, lf, out⟩ := by
 simp [nxtP, h]
theorem nxt_no1 (hc : chk size l 8 ≠ 0) : nxtP f size K ⟨l, false, lf, out⟩ = .error (chk size l 8) := by unfold nxtP; rw [if_neg (fun c => by cases c.1), if_pos hc]
theorem nxt_ok1 (hc : chk size l 8 = 0) (hk : ¬ (l % 4096 = 4088 ∧ 1 < K)) : nxtP f size K ⟨l, false, lf, out⟩ = .ok (wrd f l, ⟨l + 8, false, lf, out⟩) := by unfold nxtP; rw [if_neg (fun c => by cases c.1), if_neg (fun c => c hc), if_neg hk]
theorem nxt_no2 (hc : chk size l 8 = 0) (hk : l % 4096 = 4088 ∧ 1 < K) (hv : wrd f l % 4096 ≠ 0) : nxtP f size K ⟨l, false, lf, out⟩ = .error 150 := by unfold nxtP; rw [if_neg (fun c => by cases c.1), if_neg (fun c => c hc), if_pos hk, if_pos hv]
theorem nxt_no3 (hc : chk size l 8 = 0) (hk : l % 4096 = 4088 ∧ 1 < K) (hv : wrd f l % 4096 = 0) (hd : chk size (wrd f l) 8 ≠ 0) : nxtP f size K ⟨l, false, lf, out⟩ = .error (chk size (wrd f l) 8) := by unfold nxtP; rw [if_neg (fun c => by cases c.1), if_neg (fun c => c hc), if_pos hk, if_neg (fun c => c hv), if_pos hd]
theorem nxt_ok2 (hc : chk size l 8 = 0) (hk : l % 4096 = 4088 ∧ 1 < K) (hv : wrd f l % 4096 = 0) (hd : chk size (wrd f l) 8 = 0) : nxtP f size K ⟨l, false, lf, out⟩ = .ok (wrd f (wrd f l), ⟨wrd f l + 8, false, lf, out⟩) := by unfold nxtP; rw [if_neg (fun c => by cases c.1), if_neg (fun c => c hc), if_pos hk, if_neg (fun c => c hv), if_neg (fun c => c hd)]
end
set_option maxRecDepth 100000 in
set_option maxHeartbeats 16000000 in
theorem next_any (P : Nat → Prop) (wb b B size : Nat) (f : Nat → Int) (L : List (Nat × Nat)) (l lf K : Int) (fr : Bool) (out : List Spn) (W : World) (hM : MemAt W b B size f L) (hPb : P b) (hPB : P B) (hby : Bytes f) (h : Wlk P wb W (.pointer (some ⟨b, 0, none⟩)) ⟨l, fr, lf, out⟩) (ha0 : 0 ≤ l) (ha1 : l ≤ 18446744073709551615)
  (hK0 : -9223372036854775808 ≤ K) (hK1 : K ≤ 9223372036854775807) (R : Except Int (Int × PSt)) (hR : R = nxtP f size K ⟨l, fr, lf, out⟩) :
  Calls Tryz.prog 95 #[.pointer (some ⟨wb, 0, none⟩), .int .i64 K] W (NxPost P wb (.pointer (some ⟨b, 0, none⟩)) W R) := by
 have HR := Lib.hid hR
 have c1 := h.c1
 have c2 := h.c2
 have f2 := h.fz 2
 simp only [] at c1 c2
 have HW0 := Lib.hid h
 have HM0 := Lib.hid hM
 clear h hR hM
 cases fr with
 | true =>
  by_cases hl8 : l % 8 = 0
  ·have qa := Lib.hid (beq_iff_eq.2 hl8)
   replace HR := Lib.hid (HR.out.trans (nxt_fresh hl8))
   clear hl8
   go_enter Tryz.func95, Tryz.ntmps95
   go_upto_region 4 with (first
    | (go_at_call 83; refine (aligned_any l 8 true _ ha0 ha1 (by omega) (by omega) qa.out).mono ?_; rintro e w' ⟨rfl, rfl⟩)
    | (go_at_call 46; refine (must1_ok _ _).mono ?_; rintro e w' ⟨rfl, rfl⟩; have y2 := (HW0.out.below ((Below.refl _ W).alloc (Nat.le_refl _) (.cells #[.bool true] 4))).fz 2; have x2 := (HW0.out.below ((Below.refl _ W).alloc (Nat.le_refl _) (.cells #[.bool true] 4))).c2))
   obtain ⟨Wc, hWc⟩ : ∃ z, z = (W.alloc (.cells #[.bool true] 4)).setCell ⟨wb, 2, none⟩ (.bool false) := ⟨_, rfl⟩
   rw [← hWc]
   have HW := Lib.hid (show Wlk P wb Wc (.pointer (some ⟨b, 0, none⟩)) ⟨l, false, lf, out⟩ by rw [hWc]; exact (HW0.out.below ((Below.refl _ W).alloc (Nat.le_refl _) (.cells #[.bool true] 4))).set2 false)
   have HK := Lib.hid (show Keeps (fun k => ¬ P k) W Wc by rw [hWc]; exact ((Keeps.refl _ W).alloc _).setCell (p := ⟨wb, 2, none⟩) (fun _ => HW0.out.notg) _)
   have HM := Lib.hid (HM0.out.kept HK.out (fun h => h hPb) (fun h => h hPB))
   clear hWc c1 c2 f2 x2 y2
   have l0 := ha0
   have l1 := ha1
   have e1 := HW.out.c1
   have HAD := Lib.hid fun (hc : chk size l 8 = 0) => address_ok P wb b B size f L ⟨l, false, lf, out⟩ Wc HM.out hby HW.out ha0 ha1 hc
   have HAB := Lib.hid fun no (hc : chk size l 8 = no) hne => address_bad P wb b B size f L ⟨l, false, lf, out⟩ Wc HM.out HW.out ha0 ha1 no hc hne
   simp only [] at e1
   obtain ⟨las, hlas⟩ : ∃ z, z = (l % 4096 == 4088) := ⟨_, rfl⟩
   have qlas : (l % 4096 == 4088) = las := hlas.symm
   have HLAS := Lib.hid hlas
   clear hlas
   by_cases hc : chk size l 8 = 0
   case neg =>
    have HNE := Lib.hid (beq_eq_false_iff_ne.2 hc)
    have HR2 := Lib.hid (HR.out.trans (nxt_no1 hc))
    clear hc qlas
    go_wp2_with fail
    refine (HAB.out _ rfl HNE.out).mono ?_
    rintro e w9 ⟨rfl, hb⟩
    rw [HR2.out]
    exact ⟨rfl, rfl, HK.out.trans (kN hb)⟩
   case pos =>
    have HA1 := Lib.hid (HAD.out hc)
    have HCK := Lib.hid hc
    obtain ⟨v, hv⟩ : ∃ z, z = wrd f l := ⟨_, rfl⟩
    have hvb := wrd_bd hby l
    rw [← hv] at HA1 hvb
    have HV := Lib.hid hv
    clear hc HAD HAB hv
    by_cases hcas : l % 4096 = 4088 ∧ 1 < K
    case neg =>
     have HR2 := Lib.hid (HR.out.trans (nxt_ok1 HCK.out hcas))
     have qp : las = false ∨ decide (1 < K) = false := by
      by_cases h1 : l % 4096 = 4088
      ·exact .inr (decide_eq_false (fun h2 => hcas ⟨h1, h2⟩))
      ·exact .inl (by rw [HLAS.out]; exact beq_eq_false_iff_ne.2 h1)
     clear hcas HLAS
     rcases qp with qp | qp
     ·subst qp
      go_wp2_with (go_at_call 101; refine HA1.out.mono ?_; rintro e w2 ⟨rfl, hk, hw⟩; have HK2 := Lib.hid (HK.out.trans hk); have HK23 := Lib.hid hk; have HW2 := Lib.hid hw; clear hk hw)
      go_ret
      rw [HR2.out, ← HV.out]
      exact ⟨rfl, HK2.out, HW2.out⟩
     ·cases las
      all_goals
       go_wp2_with (go_at_call 101; refine HA1.out.mono ?_; rintro e w2 ⟨rfl, hk, hw⟩; have HK2 := Lib.hid (HK.out.trans hk); have HK23 := Lib.hid hk; have HW2 := Lib.hid hw; clear hk hw)
       go_ret
       rw [HR2.out, ← HV.out]
       exact ⟨rfl, HK2.out, HW2.out⟩
    case pos =>
     have hlt : las = true := by rw [HLAS.out]; exact beq_iff_eq.2 hcas.1
     have qk : decide (1 < K) = true := decide_eq_true hcas.2
     subst hlt
     have HCAS := Lib.hid hcas
     clear hcas HLAS
     by_cases hv4 : v % 4096 = 0
     case neg =>
      have HR2 := Lib.hid (HR.out.trans (nxt_no2 HCK.out HCAS.out (by rw [← HV.out]; exact hv4)))
      have qv := Lib.hid (beq_eq_false_iff_ne.2 hv4)
      clear hv4
      go_wp2_with (first
       | (go_at_call 101; refine HA1.out.mono ?_; rintro e w2 ⟨rfl, hk, hw⟩; have HK2 := Lib.hid (HK.out.trans hk); have HK23 := Lib.hid hk; have HW2 := Lib.hid hw; clear hk hw)
       | (go_at_call 83; refine (aligned_any v 4096 false _ hvb.1 hvb.2 (by omega) (by omega) qv.out).mono ?_; rintro e w' ⟨rfl, rfl⟩))
      refine (must1_bad _ _).mono ?_
      rintro e w' ⟨rfl, rfl⟩
      rw [HR2.out]
      exact ⟨rfl, rfl, HK2.out.alloc _⟩
     case pos =>
      have qv := Lib.hid (beq_iff_eq.2 hv4)
      go_upto_region 9 with (first
       | (go_at_call 101; refine HA1.out.mono ?_; rintro e w2 ⟨rfl, hk, hw⟩; have HK2 := Lib.hid (HK.out.trans hk); have HK23 := Lib.hid hk; have HW2 := Lib.hid hw; have y1 := (hw.below ((Below.refl _ w2).alloc (Nat.le_refl _) (.cells #[.bool true] 4))).fz 1; clear hk hw)
       | (go_at_call 83; refine (aligned_any v 4096 true _ hvb.1 hvb.2 (by omega) (by omega) qv.out).mono ?_; rintro e w' ⟨rfl, rfl⟩)
       | (go_at_call 46; refine (must1_ok _ _).mono ?_; rintro e w' ⟨rfl, rfl⟩; have x1 := (HW2.out.below ((Below.refl _ w2).alloc (Nat.le_refl _) (.cells #[.bool true] 4))).c1))
      obtain ⟨W3, hW3⟩ : ∃ z, z = (w2.alloc (.cells #[.bool true] 4)).setCell ⟨wb, 1, none⟩ (.int .u64 v) := ⟨_, rfl⟩
      rw [← hW3]
      have hw3 : Wlk P wb W3 (.pointer (some ⟨b, 0, none⟩)) ⟨v, false, lf, out⟩ := by rw [hW3]; exact (HW2.out.below ((Below.refl _ w2).alloc (Nat.le_refl _) (.cells #[.bool true] 4))).set1 v
      have hk3 : Keeps (fun k => ¬ P k) W W3 := by rw [hW3]; exact (HK2.out.alloc _).setCell (p := ⟨wb, 1, none⟩) (fun _ => HW2.out.notg) _
      have hk23 : Keeps (fun k => ¬ P k) Wc W3 := by rw [hW3]; exact (HK23.out.alloc _).setCell (p := ⟨wb, 1, none⟩) (fun _ => HW2.out.notg) _
      have hm3 : MemAt W3 b B size f L := HM.out.kept hk23 (fun h => h hPb) (fun h => h hPB)
      have HAD := Lib.hid fun (hc : chk size v 8 = 0) => address_ok P wb b B size f L ⟨v, false, lf, out⟩ W3 hm3 hby hw3 hvb.1 hvb.2 hc
      have HAB := Lib.hid fun no (hc : chk size v 8 = no) hne => address_bad P wb b B size f L ⟨v, false, lf, out⟩ W3 hm3 hw3 hvb.1 hvb.2 no hc hne
      have HK3 := Lib.hid hk3
      clear hW3 hw3 hk3 hk23 hm3 x1 y1
      by_cases hc : chk size v 8 = 0
      ·have HA2 := Lib.hid (HAD.out hc)
       have HR2 := Lib.hid (HR.out.trans (nxt_ok2 HCK.out HCAS.out (by rw [← HV.out]; exact hv4) (by rw [← HV.out]; exact hc)))
       clear HAD HAB hc hv4
       go_wp2_with (go_at_call 101; refine HA2.out.mono ?_; rintro e w4 ⟨rfl, hk, hw⟩; have HK4 := Lib.hid (HK3.out.trans hk); have HW4 := Lib.hid hw; clear hk hw)
       go_ret
       rw [HR2.out, ← HV.out]
       exact ⟨rfl, HK4.out, HW4.out⟩
      ·have HNE := Lib.hid (beq_eq_false_iff_ne.2 hc)
       have HR2 := Lib.hid (HR.out.trans (nxt_no3 HCK.out HCAS.out (by rw [← HV.out]; exact hv4) (by rw [← HV.out]; exact hc)))
       clear hc HAD hv4
       go_wp2_with fail
       refine (HAB.out _ rfl HNE.out).mono ?_
       rintro e w9 ⟨rfl, hb⟩
       rw [HR2.out, ← HV.out]
       exact ⟨rfl, rfl, HK3.out.trans (kN hb)⟩
  ·have qa := Lib.hid (beq_eq_false_iff_ne.2 hl8)
   have HR2 := Lib.hid (HR.out.trans (nxt_no0 hl8))
   clear hl8
   go_enter Tryz.func95, Tryz.ntmps95
   go_wp2_with (go_at_call 83; refine (aligned_any l 8 false _ ha0 ha1 (by omega) (by omega) qa.out).mono ?_; rintro e w' ⟨rfl, rfl⟩)
   refine (must1_bad _ _).mono ?_
   rintro e w' ⟨rfl, rfl⟩
   rw [HR2.out]
   exact ⟨rfl, rfl, (Keeps.refl _ W).alloc _⟩
 | false =>
  go_enter Tryz.func95, Tryz.ntmps95
  go_upto_region 4 with fail
  have HK := Lib.hid (show Keeps (fun k => ¬ P k) W W from Keeps.refl _ _)
  have HW := HW0
  have HM := HM0
  clear c1 c2 f2
  have l0 := ha0
  have l1 := ha1
  have e1 := HW.out.c1
  have HAD := Lib.hid fun (hc : chk size l 8 = 0) => address_ok P wb b B size f L ⟨l, false, lf, out⟩ W HM.out hby HW.out ha0 ha1 hc
  have HAB := Lib.hid fun no (hc : chk size l 8 = no) hne => address_bad P wb b B size f L ⟨l, false, lf, out⟩ W HM.out HW.out ha0 ha1 no hc hne
  simp only [] at e1
  obtain ⟨las, hlas⟩ : ∃ z, z = (l % 4096 == 4088) := ⟨_, rfl⟩
  have qlas : (l % 4096 == 4088) = las := hlas.symm
  have HLAS := Lib.hid hlas
  clear hlas
  by_cases hc : chk size l 8 = 0
  case neg =>
   have HNE := Lib.hid (beq_eq_false_iff_ne.2 hc)
   have HR2 := Lib.hid (HR.out.trans (nxt_no1 hc))
   clear hc qlas
   go_wp2_with fail
   refine (HAB.out _ rfl HNE.out).mono ?_
   rintro e w9 ⟨rfl, hb⟩
   rw [HR2.out]
   exact ⟨rfl, rfl, HK.out.trans (kN hb)⟩
  case pos =>
   have HA1 := Lib.hid (HAD.out hc)
   have HCK := Lib.hid hc
   obtain ⟨v, hv⟩ : ∃ z, z = wrd f l := ⟨_, rfl⟩
   have hvb := wrd_bd hby l
   rw [← hv] at HA1 hvb
   have HV := Lib.hid hv
   clear hc HAD HAB hv
   by_cases hcas : l % 4096 = 4088 ∧ 1 < K
   case neg =>
    have HR2 := Lib.hid (HR.out.trans (nxt_ok1 HCK.out hcas))
    have qp : las = false ∨ decide (1 < K) = false := by
     by_cases h1 : l % 4096 = 4088
     ·exact .inr (decide_eq_false (fun h2 => hcas ⟨h1, h2⟩))
     ·exact .inl (by rw [HLAS.out]; exact beq_eq_false_iff_ne.2 h1)
    clear hcas HLAS
    rcases qp with qp | qp
    ·subst qp
     go_wp2_with (go_at_call 101; refine HA1.out.mono ?_; rintro e w2 ⟨rfl, hk, hw⟩; have HK2 := Lib.hid (HK.out.trans hk); have HK23 := Lib.hid hk; have HW2 := Lib.hid hw; clear hk hw)
     go_ret
     rw [HR2.out, ← HV.out]
     exact ⟨rfl, HK2.out, HW2.out⟩
    ·cases las
     all_goals
      go_wp2_with (go_at_call 101; refine HA1.out.mono ?_; rintro e w2 ⟨rfl, hk, hw⟩; have HK2 := Lib.hid (HK.out.trans hk); have HK23 := Lib.hid hk; have HW2 := Lib.hid hw; clear hk hw)
      go_ret
      rw [HR2.out, ← HV.out]
      exact ⟨rfl, HK2.out, HW2.out⟩
   case pos =>
    have hlt : las = true := by rw [HLAS.out]; exact beq_iff_eq.2 hcas.1
    have qk : decide (1 < K) = true := decide_eq_true hcas.2
    subst hlt
    have HCAS := Lib.hid hcas
    clear hcas HLAS
    by_cases hv4 : v % 4096 = 0
    case neg =>
     have HR2 := Lib.hid (HR.out.trans (nxt_no2 HCK.out HCAS.out (by rw [← HV.out]; exact hv4)))
     have qv := Lib.hid (beq_eq_false_iff_ne.2 hv4)
     clear hv4
     go_wp2_with (first
      | (go_at_call 101; refine HA1.out.mono ?_; rintro e w2 ⟨rfl, hk, hw⟩; have HK2 := Lib.hid (HK.out.trans hk); have HK23 := Lib.hid hk; have HW2 := Lib.hid hw; clear hk hw)
      | (go_at_call 83; refine (aligned_any v 4096 false _ hvb.1 hvb.2 (by omega) (by omega) qv.out).mono ?_; rintro e w' ⟨rfl, rfl⟩))
     refine (must1_bad _ _).mono ?_
     rintro e w' ⟨rfl, rfl⟩
     rw [HR2.out]
     exact ⟨rfl, rfl, HK2.out.alloc _⟩
    case pos =>
     have qv := Lib.hid (beq_iff_eq.2 hv4)
     go_upto_region 9 with (first
      | (go_at_call 101; refine HA1.out.mono ?_; rintro e w2 ⟨rfl, hk, hw⟩; have HK2 := Lib.hid (HK.out.trans hk); have HK23 := Lib.hid hk; have HW2 := Lib.hid hw; have y1 := (hw.below ((Below.refl _ w2).alloc (Nat.le_refl _) (.cells #[.bool true] 4))).fz 1; clear hk hw)
      | (go_at_call 83; refine (aligned_any v 4096 true _ hvb.1 hvb.2 (by omega) (by omega) qv.out).mono ?_; rintro e w' ⟨rfl, rfl⟩)
      | (go_at_call 46; refine (must1_ok _ _).mono ?_; rintro e w' ⟨rfl, rfl⟩; have x1 := (HW2.out.below ((Below.refl _ w2).alloc (Nat.le_refl _) (.cells #[.bool true] 4))).c1))
     obtain ⟨W3, hW3⟩ : ∃ z, z = (w2.alloc (.cells #[.bool true] 4)).setCell ⟨wb, 1, none⟩ (.int .u64 v) := ⟨_, rfl⟩
     rw [← hW3]
     have hw3 : Wlk P wb W3 (.pointer (some ⟨b, 0, none⟩)) ⟨v, false, lf, out⟩ := by rw [hW3]; exact (HW2.out.below ((Below.refl _ w2).alloc (Nat.le_refl _) (.cells #[.bool true] 4))).set1 v
     have hk3 : Keeps (fun k => ¬ P k) W W3 := by rw [hW3]; exact (HK2.out.alloc _).setCell (p := ⟨wb, 1, none⟩) (fun _ => HW2.out.notg) _
     have hk23 : Keeps (fun k => ¬ P k) W W3 := by rw [hW3]; exact (HK23.out.alloc _).setCell (p := ⟨wb, 1, none⟩) (fun _ => HW2.out.notg) _
     have hm3 : MemAt W3 b B size f L := HM.out.kept hk23 (fun h => h hPb) (fun h => h hPB)
     have HAD := Lib.hid fun (hc : chk size v 8 = 0) => address_ok P wb b B size f L ⟨v, false, lf, out⟩ W3 hm3 hby hw3 hvb.1 hvb.2 hc
     have HAB := Lib.hid fun no (hc : chk size v 8 = no) hne => address_bad P wb b B size f L ⟨v, false, lf, out⟩ W3 hm3 hw3 hvb.1 hvb.2 no hc hne
     have HK3 := Lib.hid hk3
     clear hW3 hw3 hk3 hk23 hm3 x1 y1
     by_cases hc : chk size v 8 = 0
     ·have HA2 := Lib.hid (HAD.out hc)
      have HR2 := Lib.hid (HR.out.trans (nxt_ok2 HCK.out HCAS.out (by rw [← HV.out]; exact hv4) (by rw [← HV.out]; exact hc)))
      clear HAD HAB hc hv4
      go_wp2_with (go_at_call 101; refine HA2.out.mono ?_; rintro e w4 ⟨rfl, hk, hw⟩; have HK4 := Lib.hid (HK3.out.trans hk); have HW4 := Lib.hid hw; clear hk hw)
      go_ret
      rw [HR2.out, ← HV.out]
      exact ⟨rfl, HK4.out, HW4.out⟩
     ·have HNE := Lib.hid (beq_eq_false_iff_ne.2 hc)
      have HR2 := Lib.hid (HR.out.trans (nxt_no3 HCK.out HCAS.out (by rw [← HV.out]; exact hv4) (by rw [← HV.out]; exact hc)))
      clear hc HAD hv4
      go_wp2_with fail
      refine (HAB.out _ rfl HNE.out).mono ?_
      rintro e w9 ⟨rfl, hb⟩
      rw [HR2.out, ← HV.out]
      exact ⟨rfl, rfl, HK3.out.trans (kN hb)⟩
end Go.Proofs.YtfmabknhfehdcaaGreat
