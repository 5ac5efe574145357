/- connect: zeros, and a field that is read. -/
import Derived.Test.YtchkipafjnehfaaDA
import Derived.IntWalk
namespace Go.Proofs.Ytchkipafjnehfaa
set_option linter.unusedVariables false
set_option linter.unusedSimpArgs false
open Go.RowKit

/-- the cells of a cursor that reads -/
def ccell (ab at' : Nat) : Nat → Value := fun i => if i = 0 then .pointer (some ⟨ab, 0, none⟩) else if i = 1 then .int .i64 at' else .bool true
/-- the entry's cells -/
def bB (B : Nat → Int) : Nat → Value := fun i => .int .u8 (B i)
/-- all zero from a to b -/
def Zer (B : Nat → Int) (a b : Nat) : Prop := ∀ j, a ≤ j → j < b → B j = 0

theorem ccell_set {w : World} {cb ty ab p : Nat} (h : w.rowIs cb ty 3 (ccell ab p)) (q : Nat) : (w.setCell ⟨cb, 1, none⟩ (.int .i64 q)).rowIs cb ty 3 (ccell ab q) := by
  refine (h.set 1 (.int .i64 q)).congr fun i _ => ?_
  unfold ccell
  by_cases h1 : i = 1
  · subst h1; simp
  · rw [if_neg h1]
    by_cases h0 : i = 0
    · rw [if_pos h0, if_pos h0]
    · rw [if_neg h0, if_neg h0, if_neg h1, if_neg h1]

def ZerosPost (cb ab p q : Nat) (B : Nat → Int) (w : World) (e : Ending) (w' : World) : Prop :=
  Keeps (One cb) w w' ∧ ((e = .returned (.tuple #[]) ∧ Zer B p q ∧ w'.rowIs cb 84 3 (ccell ab (max p q))) ∨ (e = .panicked [fmtP] ∧ ¬ Zer B p q))

set_option maxRecDepth 100000 in
set_option maxHeartbeats 2000000 in
theorem zeros_any (cb ab p q : Nat) (B : Nat → Int) (w : World) (hc : w.rowIs cb 84 3 (ccell ab p)) (hr : w.rowIs ab 43 64 (bB B)) (hp : p ≤ 64) (hq : q ≤ 64) (hne : cb ≠ ab) :
    Calls Try.prog 47 #[.pointer (some ⟨cb, 0, none⟩), .int .i64 q] w (ZerosPost cb ab p q B w) := by
  have HC := Lib.hid hc
  have HR := Lib.hid hr
  clear hc hr
  go_enter Try.func47, Try.ntmps47
  go_wp2
  go_loopw [4] (fun _ wr => ∃ k : Nat, p ≤ k ∧ k ≤ max p q ∧ Zer B p k ∧ Keeps (One cb) w wr ∧ wr.rowIs cb 84 3 (ccell ab k)) (fun _ wr => 64 - (intOf ((wr.cell? ⟨cb, 1, none⟩).getD undef)).toNat)
  case atStart => exact ⟨p, Nat.le_refl _, by omega, fun j h1 h2 => by omega, Keeps.refl _ _, HC.out⟩
  case round =>
    obtain ⟨k, hk1, hk2, hz, hkp, hcur⟩ := hrel
    have c0 : wr.cell? ⟨cb, 0, none⟩ = some (.pointer (some ⟨ab, 0, none⟩)) := hcur.cell (i := 0) (by omega)
    have c1 : wr.cell? ⟨cb, 1, none⟩ = some (.int .i64 k) := hcur.cell (i := 1) (by omega)
    have f1 := hcur.frozen 1
    have HZ := Lib.hid hz
    have HK := Lib.hid hkp
    have HCUR := Lib.hid hcur
    clear hz hkp hcur
    by_cases hlt : k < q
    · have b0 : wr.cell? ⟨ab, k, none⟩ = some (.int .u8 (B k)) := (HK.out.rowIs HR.out (fun e => hne (Eq.symm e))).cell (i := k) (by omega)
      cases hb : (B k == 0)
      · go_wp2_with fail
        have h64 : (k : Int) < 64 := by omega
        have HNZ := Lib.hid (show ¬ Zer B p q from fun h => by have := h k hk1 hlt; simp [this] at hb)
        refine wp_region_any (by kernel_rfl) ?_
        try (change wpAny _ _ _ _ _ _ _ (World.drew _))
        refine wpAny_take (i := 0) (v := ?_) rfl (by kernel_rfl) (by kernel_rfl) (by kernel_rfl) (fun _ _ _ h => h) (Or.inl ⟨by rfl, ?_⟩) ?_
        rotate_left 1
        · intro w; go_simp; try (with_reducible rfl)
        refine wpAny_take (i := 1) (v := ?_) rfl (by kernel_rfl) (by kernel_rfl) (by kernel_rfl) (fun _ _ _ h => h) (Or.inl ⟨by rfl, ?_⟩) ?_
        rotate_left 1
        · intro w; go_simp; try (with_reducible rfl)
        refine wpAny_take (i := 2) (v := ?_) rfl (by kernel_rfl) (by kernel_rfl) (by kernel_rfl) (fun _ _ _ h => h) (Or.inl ⟨by rfl, ?_⟩) ?_
        rotate_left 1
        · intro w; go_simp; try (with_reducible rfl)
        refine wpAny_take (i := 4) (v := ?_) rfl (by kernel_rfl) (by kernel_rfl) (by kernel_rfl) (fun _ _ _ h => h) (Or.inl ⟨by rfl, ?_⟩) ?_
        rotate_left 1
        · intro w; go_simp; try (with_reducible rfl)
        refine wpAny_take (i := 5) (v := ?_) rfl (by kernel_rfl) (by kernel_rfl) (by kernel_rfl) (fun _ _ _ h => h) (Or.inl ⟨by rfl, ?_⟩) ?_
        rotate_left 1
        · intro w; go_simp; try (with_reducible rfl)
        refine wpAny_take (i := 6) (v := ?_) rfl (by kernel_rfl) (by kernel_rfl) (by kernel_rfl) (fun _ _ _ h => h) (Or.inl ⟨by rfl, ?_⟩) ?_
        rotate_left 1
        · intro w; go_simp; try (with_reducible rfl)
        refine wpAny_ready (rs := [3, 7]) (by kernel_rfl) (by simp) ?_
        refine AllReady.cons rfl (fun K hK => ?_) ?_
        · go_simp
          refine hK _ _ ?_
          clear hK K
          refine wpAny_take (i := 8) (v := ?_) rfl (by kernel_rfl) (by kernel_rfl) (by kernel_rfl) (fun _ _ _ h => h) (Or.inl ⟨by rfl, ?_⟩) ?_
          rotate_left 1
          · intro w; go_simp; try (with_reducible rfl)
          refine wpAny_ready (rs := [7]) (by kernel_rfl) (by simp) ?_
          refine AllReady.cons rfl (fun K hK => ?_) ?_
          · go_simp
            refine hK _ _ ?_
            clear hK K
            refine wpAny_ready (rs := [9]) (by kernel_rfl) (by simp) ?_
            refine AllReady.cons rfl (fun K hK => ?_) ?_
            · go_simp
              refine hK _ _ ?_
              clear hK K
              refine wpAny_ready (rs := [10]) (by kernel_rfl) (by simp) ?_
              refine AllReady.cons rfl (fun K hK => ?_) ?_
              · go_simp
                refine hK _ _ ?_
                clear hK K
                refine wpAny_take (i := 11) (v := ?_) rfl (by kernel_rfl) (by kernel_rfl) (by kernel_rfl) (fun _ _ _ h => h) (Or.inl ⟨by rfl, ?_⟩) ?_
                rotate_left 1
                · intro w; go_simp; try (with_reducible rfl)
                refine wpAny_ready (rs := [12]) (by kernel_rfl) (by simp) ?_
                refine AllReady.cons rfl (fun K hK => ?_) ?_
                · go_simp
                  go_wp2_with (go_at_call 46; refine (must_bad _).mono ?_; rintro e w' ⟨rfl, rfl⟩)
                  exact ⟨rfl, HK.out.drew, .inr ⟨rfl, HNZ.out⟩⟩
                exact AllReady.nil
              exact AllReady.nil
            exact AllReady.nil
          exact AllReady.nil
        refine AllReady.cons rfl (fun K hK => ?_) ?_
        · go_simp
          refine hK _ _ ?_
          clear hK K
          refine wpAny_ready (rs := [3]) (by kernel_rfl) (by simp) ?_
          refine AllReady.cons rfl (fun K hK => ?_) ?_
          · go_simp
            refine hK _ _ ?_
            clear hK K
            refine wpAny_take (i := 8) (v := ?_) rfl (by kernel_rfl) (by kernel_rfl) (by kernel_rfl) (fun _ _ _ h => h) (Or.inl ⟨by rfl, ?_⟩) ?_
            rotate_left 1
            · intro w; go_simp; try (with_reducible rfl)
            refine wpAny_ready (rs := [9]) (by kernel_rfl) (by simp) ?_
            refine AllReady.cons rfl (fun K hK => ?_) ?_
            · go_simp
              refine hK _ _ ?_
              clear hK K
              refine wpAny_ready (rs := [10]) (by kernel_rfl) (by simp) ?_
              refine AllReady.cons rfl (fun K hK => ?_) ?_
              · go_simp
                refine hK _ _ ?_
                clear hK K
                refine wpAny_take (i := 11) (v := ?_) rfl (by kernel_rfl) (by kernel_rfl) (by kernel_rfl) (fun _ _ _ h => h) (Or.inl ⟨by rfl, ?_⟩) ?_
                rotate_left 1
                · intro w; go_simp; try (with_reducible rfl)
                refine wpAny_ready (rs := [12]) (by kernel_rfl) (by simp) ?_
                refine AllReady.cons rfl (fun K hK => ?_) ?_
                · go_simp
                  go_wp2_with (go_at_call 46; refine (must_bad _).mono ?_; rintro e w' ⟨rfl, rfl⟩)
                  exact ⟨rfl, HK.out.drew, .inr ⟨rfl, HNZ.out⟩⟩
                exact AllReady.nil
              exact AllReady.nil
            exact AllReady.nil
          exact AllReady.nil
        exact AllReady.nil
      · go_wp2_with fail
        have e1 : IntKind.i64.wrap ((k : Int) + 1) = ((k + 1 : Nat) : Int) := by rw [IntWalk.i64_in _ (by omega)]; rfl
        have HZ2 := Lib.hid (show Zer B p (k + 1) from fun j h1 h2 => by
          by_cases e : j = k
          · subst e; simpa using hb
          · exact HZ.out j h1 (by omega))
        go_region_with (go_at_call 46; refine (must_ok _).mono ?_; rintro e w' ⟨rfl, rfl⟩)
        all_goals
          have c1n : (wr.setCell ⟨cb, 1, none⟩ (.int .i64 ((k : Int) + 1))).cell? ⟨cb, 1, none⟩ = some (.int .i64 ((k : Int) + 1)) := (ccell_set HCUR.out (k + 1)).cell (i := 1) (by omega)
          go_wp2_with fail
          go_roundw
          case rel => exact ⟨k + 1, by omega, by omega, HZ2.out, (HK.out.drew.set1 _ _), (ccell_set (HCUR.out.of_block rfl) (k + 1)).congr fun _ _ => rfl⟩
          case measure => simp [intOf, c1, c1n]; omega
    · have hkq : k = max p q := by omega
      go_wp2_with fail
      go_end0
      exact ⟨HK.out, .inl ⟨rfl, fun j h1 h2 => HZ.out j h1 (by omega), by rw [← hkq]; exact HCUR.out⟩⟩
end Go.Proofs.Ytchkipafjnehfaa
