/- prp: got, address, next. -/
import Derived.Test.YtfploifafpifnaaPW
import Derived.Deep.DrawnRows
namespace Go.Proofs.Ytfploifafpifnaa
set_option linter.unusedVariables false
set_option linter.unusedSimpArgs false
open Go.RowKit
attribute [local go_sem ↓] Go.wp_at_zero Go.wp_at_succ

theorem le_lo (F : Nat → Int) : le F 0 8 = hz F 7 8 := by simp [le, hz]; omega
theorem wrd_bd {f : Nat → Int} (hf : Bytes f) (a : Int) : 0 ≤ wrd f a ∧ wrd f a ≤ 18446744073709551615 := by
  have h := hz_bd (F := fun i => f (a.toNat + i)) (fun i => hf _) 7 8
  unfold wrd
  have e : (256 : Int) ^ 8 = 18446744073709551616 := by decide
  rw [e] at h
  omega
theorem Wlk.set1 {P : Nat → Prop} {wb : Nat} {W : World} {m : Value} {s : PSt} (h : Wlk P wb W m s) (x : Int) : Wlk P wb (W.setCell ⟨wb, 1, none⟩ (.int .u64 x)) m ⟨x, s.fresh, s.left, s.out⟩ := by
  obtain ⟨v, hr, ho, hp⟩ := h.ex
  refine ⟨⟨v, (hr.set 1 _).congr fun i hi => ?_, ho.kept (w' := W.setCell ⟨wb, 1, none⟩ (.int .u64 x)) (row := some wb) ⟨rfl, rfl, rfl, by simp, fun j hj hne => Below.heap_setCell _ _ _ _ (fun e => hne (congrArg some e))⟩ (.inr (fun e => by have := (ho.lt wb e).1; omega)), hp⟩, h.notg, fun j hj => by have := h.lt j hj; simpa using this⟩
  unfold wcell
  by_cases e : i = 1
  · subst e; rfl
  · simp only [e, if_false]
theorem Wlk.set2 {P : Nat → Prop} {wb : Nat} {W : World} {m : Value} {s : PSt} (h : Wlk P wb W m s) (x : Bool) : Wlk P wb (W.setCell ⟨wb, 2, none⟩ (.bool x)) m ⟨s.list, x, s.left, s.out⟩ := by
  obtain ⟨v, hr, ho, hp⟩ := h.ex
  refine ⟨⟨v, (hr.set 2 _).congr fun i hi => ?_, ho.kept (w' := W.setCell ⟨wb, 2, none⟩ (.bool x)) (row := some wb) ⟨rfl, rfl, rfl, by simp, fun j hj hne => Below.heap_setCell _ _ _ _ (fun e => hne (congrArg some e))⟩ (.inr (fun e => by have := (ho.lt wb e).1; omega)), hp⟩, h.notg, fun j hj => by have := h.lt j hj; simpa using this⟩
  unfold wcell
  by_cases e : i = 2
  · subst e; rfl
  · simp only [e, if_false]
theorem Wlk.fz {P : Nat → Prop} {wb : Nat} {W : World} {m : Value} {s : PSt} (h : Wlk P wb W m s) (i : Nat) : W.frozen? ⟨wb, i, none⟩ = false := by obtain ⟨v, hr, -⟩ := h.ex; exact hr.frozen i
theorem Wlk.c0 {P : Nat → Prop} {wb : Nat} {W : World} {m : Value} {s : PSt} (h : Wlk P wb W m s) : W.cell? ⟨wb, 0, none⟩ = some m := by obtain ⟨v, hr, -⟩ := h.ex; exact hr.cell (i := 0) (by omega)
theorem Wlk.c1 {P : Nat → Prop} {wb : Nat} {W : World} {m : Value} {s : PSt} (h : Wlk P wb W m s) : W.cell? ⟨wb, 1, none⟩ = some (.int .u64 s.list) := by obtain ⟨v, hr, -⟩ := h.ex; exact hr.cell (i := 1) (by omega)
theorem Wlk.c2 {P : Nat → Prop} {wb : Nat} {W : World} {m : Value} {s : PSt} (h : Wlk P wb W m s) : W.cell? ⟨wb, 2, none⟩ = some (.bool s.fresh) := by obtain ⟨v, hr, -⟩ := h.ex; exact hr.cell (i := 2) (by omega)
section
variable (b B size : Nat) (f : Nat → Int) (L : List (Nat × Nat)) (a : Int) (W : World) (hM : MemAt W b B size f L) (ha0 : 0 ≤ a) (ha1 : a ≤ 18446744073709551615)
include hM ha0 ha1
set_option maxRecDepth 100000 in
set_option maxHeartbeats 2000000 in
theorem got_ok (hc : chk size a 8 = 0) :
    Calls Try.prog 60 #[.func (.func 12) #[.pointer (some ⟨b, 0, none⟩)] #[], .int .u64 a, .int .i64 8] W fun e W' => ∃ v, e = .returned v ∧ NewBytes W.heap.size W' v 8 (fun i => f (a.toNat + i)) ∧ Below W.heap.size W W' := by
  obtain ⟨h0, h8⟩ := chk_ok hc
  obtain ⟨an, rfl⟩ : ∃ an : Nat, a = (an : Int) := ⟨a.toNat, by omega⟩
  have HR := Lib.hid (show Calls Try.prog 12 #[.pointer (some ⟨b, 0, none⟩), .int .u64 (an : Nat), .int .i64 8] W fun e w' => ∃ v, e = .returned (.tuple #[v, .int .i64 0]) ∧ NewBytes W.heap.size w' v 8 (fun i => f (an + i)) ∧ Below W.heap.size W w' from read_ok b B size f L an 8 W hM (by omega))
  clear hM hc
  go_enter Try.func60, Try.ntmps60
  go_upto_region 2 with ((with_reducible refine HR.out.mono ?_); rintro e w1 ⟨v, rfl, hv, hb⟩; have HV := Lib.hid hv; have HB := Lib.hid hb; clear hv hb)
  go_wp2_with (go_at_call 27; refine (must1_ok _ _).mono ?_; rintro e w' ⟨rfl, rfl⟩)
  go_ret
  exact ⟨v, rfl, HV.out.kept (S := fun _ => False) ((Keeps.refl _ _).alloc _) (fun _ _ e => e), HB.out.alloc HB.out.size _⟩
set_option maxRecDepth 100000 in
set_option maxHeartbeats 2000000 in
theorem got_bad (no : Int) (hc : chk size a 8 = no) (hne : (no == 0) = false) :
    Calls Try.prog 60 #[.func (.func 12) #[.pointer (some ⟨b, 0, none⟩)] #[], .int .u64 a, .int .i64 8] W fun e W' => e = .panicked [pan no] ∧ Below W.heap.size W W' := by
  have HR := Lib.hid (show Calls Try.prog 12 #[.pointer (some ⟨b, 0, none⟩), .int .u64 a, .int .i64 8] W fun e w' => e = .returned (.tuple #[.slice none 0 0, .int .i64 no]) ∧ Below W.heap.size W w' by
    rw [← hc]
    exact read_err b B size f L a 8 W hM ha0 ha1 (by omega) (by omega) (by rw [hc]; exact bne_iff_ne.2 (beq_eq_false_iff_ne.1 hne)))
  clear hM hc
  go_enter Try.func60, Try.ntmps60
  go_upto_region 2 with ((with_reducible refine HR.out.mono ?_); rintro e w1 ⟨rfl, hb⟩; have HB := Lib.hid hb; clear hb)
  go_wp2_with fail
  refine (must1_bad _ _).mono ?_
  rintro e w' ⟨rfl, rfl⟩
  exact ⟨rfl, rfl, HB.out.alloc HB.out.size _⟩
end
section
variable (P : Nat → Prop) (wb b B size : Nat) (f : Nat → Int) (L : List (Nat × Nat)) (s : PSt) (W : World) (hM : MemAt W b B size f L) (hby : Bytes f) (h : Wlk P wb W (.pointer (some ⟨b, 0, none⟩)) s) (ha0 : 0 ≤ s.list) (ha1 : s.list ≤ 18446744073709551615)
include hM hby h ha0 ha1
set_option maxRecDepth 100000 in
set_option maxHeartbeats 2000000 in
theorem address_ok (hc : chk size s.list 8 = 0) :
    Calls Try.prog 54 #[.pointer (some ⟨wb, 0, none⟩)] W fun e W' => e = .returned (.int .u64 (wrd f s.list)) ∧ Keeps (fun k => ¬ P k) W W' ∧ Wlk P wb W' (.pointer (some ⟨b, 0, none⟩)) ⟨s.list + 8, s.fresh, s.left, s.out⟩ := by
  have H := Lib.hid h
  have hsm := hM.small
  obtain ⟨h0, h8⟩ := chk_ok hc
  obtain ⟨v, hr, ho, hp⟩ := h.ex
  have hwl := hr.lt
  have HG := Lib.hid (got_ok b B size f L s.list W.drew (hM.below (Below.refl _ W).drew) ha0 ha1 hc)
  have c0 : W.cell? ⟨wb, 0, none⟩ = some (.pointer (some ⟨b, 0, none⟩)) := hr.cell (i := 0) (by omega)
  have c1 : W.cell? ⟨wb, 1, none⟩ = some (.int .u64 s.list) := hr.cell (i := 1) (by omega)
  have HWR := Lib.hid (show wrd f s.list = le (fun i => f (s.list.toNat + i)) 0 8 from (le_lo _).symm)
  have HBY := Lib.hid (show ∀ j, 0 ≤ (fun i => f (s.list.toNat + i)) j ∧ (fun i => f (s.list.toNat + i)) j ≤ 255 from fun j => hby _)
  obtain ⟨F, hF⟩ : ∃ F : Nat → Int, F = fun i => f (s.list.toNat + i) := ⟨_, rfl⟩
  rw [← hF] at HG HWR HBY
  rw [HWR.out]
  obtain ⟨l, hl⟩ : ∃ l, l = s.list := ⟨_, rfl⟩
  rw [← hl] at HG c1 ha0 h8 ⊢
  have HL := Lib.hid hl
  clear hM hby h hr ho hp hc HWR hF hl ha1
  go_enter Try.func54, Try.ntmps54
  go_upto_region 1 with fail
  go_region_held3 (fun w' => w'.cell? ⟨wb, 0, none⟩ = some (.pointer (some ⟨b, 0, none⟩)) ∧ w'.cell? ⟨wb, 1, none⟩ = some (.int .u64 l)) (go_keep) (first
    | (go_at_call 60; refine (HG.out).mono ?_; rintro e w1 ⟨bv, rfl, hv, hb⟩; have x0 := (hb.cell (p := ⟨wb, 0, none⟩) hwl).trans c0; have x1 := (hb.cell (p := ⟨wb, 1, none⟩) hwl).trans c1; obtain ⟨g, cap, G, rfl, hg1, hg2, hg3, hg4, hg5⟩ := hv; have HB := Lib.hid hb; have HX := Lib.hid hg2; have HY := Lib.hid hg5; clear hb hg2 hg5)
    | (go_at_call 59; refine (get_ok g 0 8 cap F _ HBY.out (by omega) (by omega) (fun j hj => by rw [Nat.zero_add, HX.out.cell (by omega), HY.out j hj])).mono ?_; rintro e w' ⟨rfl, rfl⟩))
  have HW1 := Lib.hid (H.out.below ((Below.refl _ W).drew.trans HB.out))
  have HK1 := Lib.hid (show Keeps (fun k => ¬ P k) W w1 from kN ((Below.refl _ W).drew.trans HB.out))
  have y1 := HW1.out.fz 1
  have y2 : w1.cell? ⟨wb, 1, none⟩ = some (.int .u64 l) := x1
  clear x0 x1 c0 c1 HX HY HB HG
  go_wp2_with fail
  go_ret
  refine ⟨rfl, HK1.out.setCell (p := ⟨wb, 1, none⟩) (fun _ => H.out.notg) _, ?_⟩
  exact HW1.out.set1 (l + 8)
omit hby in
set_option maxRecDepth 100000 in
set_option maxHeartbeats 2000000 in
theorem address_bad (no : Int) (hc : chk size s.list 8 = no) (hne : (no == 0) = false) :
    Calls Try.prog 54 #[.pointer (some ⟨wb, 0, none⟩)] W fun e W' => e = .panicked [pan no] ∧ Below W.heap.size W W' := by
  have HG := Lib.hid (got_bad b B size f L s.list W.drew (hM.below (Below.refl _ W).drew) ha0 ha1 no hc hne)
  have c0 := h.c0
  have c1 := h.c1
  obtain ⟨l, hl⟩ : ∃ l, l = s.list := ⟨_, rfl⟩
  rw [← hl] at HG c1 ha0
  clear hM h hc hl ha1 hne
  go_enter Try.func54, Try.ntmps54
  go_upto_region 1 with fail
  refine wp_region_held_drew (S := fun w' => w' = W.drew) (by kernel_rfl) rfl (fun hS0 => ?_)
  refine takeD 6 (i := 0) (v := .pointer (some ⟨wb, 0, none⟩)) rfl rfl (by kernel_rfl) (by kernel_rfl) (by kernel_rfl) (fun _ _ _ h => h) (Or.inl ⟨by rfl, by (intro w' hw'; subst hw'; go_simp)⟩) (by assumption) ?_
  try simp only [Act.put, List.setIfInBounds_toArray, List.set_cons_zero, List.set_cons_succ]
  refine takeD 7 (i := 1) (v := .pointer (some ⟨wb, 0, none⟩)) rfl rfl (by kernel_rfl) (by kernel_rfl) (by kernel_rfl) (fun _ _ _ h => h) (Or.inl ⟨by rfl, by (intro w' hw'; subst hw'; go_simp)⟩) (by assumption) ?_
  try simp only [Act.put, List.setIfInBounds_toArray, List.set_cons_zero, List.set_cons_succ]
  refine takeD 8 (i := 2) (v := .pointer (some ⟨wb, 0, none⟩)) rfl rfl (by kernel_rfl) (by kernel_rfl) (by kernel_rfl) (fun _ _ _ h => h) (Or.inl ⟨by rfl, by (intro w' hw'; subst hw'; go_simp)⟩) (by assumption) ?_
  try simp only [Act.put, List.setIfInBounds_toArray, List.set_cons_zero, List.set_cons_succ]
  refine takeD 9 (i := 3) (v := .pointer (some ⟨b, 0, none⟩)) rfl rfl (by kernel_rfl) (by kernel_rfl) (by kernel_rfl) (fun _ _ _ h => h) (Or.inl ⟨by rfl, by (intro w' hw'; subst hw'; go_simp)⟩) (by assumption) ?_
  try simp only [Act.put, List.setIfInBounds_toArray, List.set_cons_zero, List.set_cons_succ]
  refine takeD 10 (i := 4) (v := .func (.func 12) #[.pointer (some ⟨b, 0, none⟩)] #[]) rfl rfl (by kernel_rfl) (by kernel_rfl) (by kernel_rfl) (fun _ _ _ h => h) (Or.inl ⟨by rfl, by (intro w' hw'; subst hw'; go_simp)⟩) (by assumption) ?_
  try simp only [Act.put, List.setIfInBounds_toArray, List.set_cons_zero, List.set_cons_succ]
  refine takeD 11 (i := 5) (v := .pointer (some ⟨wb, 0, none⟩)) rfl rfl (by kernel_rfl) (by kernel_rfl) (by kernel_rfl) (fun _ _ _ h => h) (Or.inl ⟨by rfl, by (intro w' hw'; subst hw'; go_simp)⟩) (by assumption) ?_
  try simp only [Act.put, List.setIfInBounds_toArray, List.set_cons_zero, List.set_cons_succ]
  refine takeD 12 (i := 6) (v := .pointer (some ⟨wb, 0, none⟩)) rfl rfl (by kernel_rfl) (by kernel_rfl) (by kernel_rfl) (fun _ _ _ h => h) (Or.inl ⟨by rfl, by (intro w' hw'; subst hw'; go_simp)⟩) (by assumption) ?_
  try simp only [Act.put, List.setIfInBounds_toArray, List.set_cons_zero, List.set_cons_succ]
  refine takeD 13 (i := 7) (v := .pointer (some ⟨wb, 1, none⟩)) rfl rfl (by kernel_rfl) (by kernel_rfl) (by kernel_rfl) (fun _ _ _ h => h) (Or.inl ⟨by rfl, by (intro w' hw'; subst hw'; go_simp)⟩) (by assumption) ?_
  try simp only [Act.put, List.setIfInBounds_toArray, List.set_cons_zero, List.set_cons_succ]
  refine takeD 14 (i := 8) (v := .int .u64 l) rfl rfl (by kernel_rfl) (by kernel_rfl) (by kernel_rfl) (fun _ _ _ h => h) (Or.inl ⟨by rfl, by (intro w' hw'; subst hw'; go_simp)⟩) (by assumption) ?_
  try simp only [Act.put, List.setIfInBounds_toArray, List.set_cons_zero, List.set_cons_succ]
  refine wpAnyH_ready (rs := [9]) (by kernel_rfl) (by simp) (AllReadyH.cons rfl (fun K hK => ?_) AllReadyH.nil)
  rw [if_pos (by rfl)]
  go_simp
  refine HG.out.mono ?_
  rintro e w1 ⟨rfl, hb⟩
  exact ⟨rfl, rfl, (Below.refl _ W).drew.trans hb⟩
end
end Go.Proofs.Ytfploifafpifnaa
