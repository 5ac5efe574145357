/- connect: the reference's watch. -/
import Derived.Test.YtchkipafjnehfaaW
import Derived.Test.YtchkipafjnehfaaRow
namespace Go.Proofs.Ytchkipafjnehfaa
open Go.RowKit

/-- a watch and an empty one, new -/
def rcell (l n t : Int) (o : Bool) : Nat → Value := fun i => if i = 0 then .int .i64 l else if i = 1 then .int .i64 n else if i = 2 then .int .i64 t else .bool o
theorem two_rows (l n t : Int) (o : Bool) (w : World) :
    ((w.alloc (.cells #[.int .i64 l, .int .i64 n, .int .i64 t, .bool o] 51)).alloc (.cells #[.int .i64 0, .int .i64 0, .int .i64 0, .bool false] 51)).rowIs w.heap.size 51 4 (rcell l n t o) ∧
    ((w.alloc (.cells #[.int .i64 l, .int .i64 n, .int .i64 t, .bool o] 51)).alloc (.cells #[.int .i64 0, .int .i64 0, .int .i64 0, .bool false] 51)).rowIs (w.heap.size + 1) 51 4 (rcell 0 0 0 false) := by
  constructor
  · refine World.rowIs.alloc ?_ _
    exact World.rowIs_alloc w _ _ _ (fun i hi => by match i, hi with | 0, _ => rfl | 1, _ => rfl | 2, _ => rfl | 3, _ => rfl)
  · have e : (w.alloc (.cells #[.int .i64 l, .int .i64 n, .int .i64 t, .bool o] 51)).heap.size = w.heap.size + 1 := by simp
    have := World.rowIs_alloc (w.alloc (.cells #[.int .i64 l, .int .i64 n, .int .i64 t, .bool o] 51)) #[.int .i64 0, .int .i64 0, .int .i64 0, .bool false] 51 (rcell 0 0 0 false) (fun i hi => by match i, hi with | 0, _ => rfl | 1, _ => rfl | 2, _ => rfl | 3, _ => rfl)
    rw [e] at this
    exact this

/-- A watch of the reference, by value. -/
def rw (l n t : Int) (o : Bool) : Value := .agg #[.int .i64 l, .int .i64 n, .int .i64 t, .bool o]

set_option maxHeartbeats 1000000 in
theorem refDue_any (l n t d : Int) (o : Bool) (w : World) (hl : 0 ≤ l) (hl' : l ≤ 9223372036854775807) (ht : 0 ≤ t) (ht' : t ≤ 9223372036854775807) (hd : d = dueOf l t) :
    Calls Try.prog 25 #[rw l n t o] w fun e w' => e = .returned (.int .i64 d) ∧ Below w.heap.size w w' := by
  have HD := Lib.hid hd
  clear hd
  unfold rw
  by_cases h0 : l = 0
  · subst h0
    go_enter Try.func25, Try.ntmps25
    go_wp2
    go_ret
    exact ⟨by rw [HD.out]; rfl, (Below.refl _ _).alloc (Nat.le_refl _) _⟩
  · have hb : (l == 0) = false := by simpa using h0
    have HN := Lib.hid h0
    clear h0
    by_cases h1 : 9223372036854775807 - t < l
    · go_enter Try.func25, Try.ntmps25
      go_wp2
      go_ret
      exact ⟨ret_int (by rw [HD.out]; unfold dueOf; rw [if_neg HN.out, if_pos (by omega)]), (Below.refl _ _).alloc (Nat.le_refl _) _⟩
    · go_enter Try.func25, Try.ntmps25
      go_wp2
      go_ret
      exact ⟨ret_int (by rw [HD.out]; unfold dueOf; rw [if_neg HN.out, if_neg (by omega)]), (Below.refl _ _).alloc (Nat.le_refl _) _⟩

set_option maxHeartbeats 2000000 in
theorem refPass_any (l n t now m : Int) (o o' : Bool) (w : World) (hl : 0 ≤ l) (hl' : l ≤ 9223372036854775807) (ht : 0 ≤ t) (htn : t ≤ n) (hn : n ≤ 9223372036854775807) (hw : now ≤ 9223372036854775807) (hm : m = max n now) (ho : o' = ov l m t o) :
    Calls Try.prog 27 #[rw l n t o, .int .i64 now] w fun e w' => e = .returned (rw l m t o') ∧ Below w.heap.size w w' := by
  have HM := Lib.hid hm
  have hb : ∀ c : Value, Below w.heap.size w ((w.alloc (.cells #[c] 0)).alloc (.cells #[c] 0)) := fun c => ((Below.refl _ _).alloc (Nat.le_refl _) _).alloc (by simp) _
  clear hb
  have go : ∀ k : Int, k ≤ 9223372036854775807 → n ≤ k → o' = ov l k t o → (n < now ∧ now = k ∨ now ≤ n ∧ n = k) → Calls Try.prog 27 #[rw l n t o, .int .i64 now] w fun e w' => e = .returned (rw l k t o') ∧ Below w.heap.size w w' := by
    intro k hk hnk ho' hc
    have HO := Lib.hid ho'
    clear ho' ho hm
    unfold rw
    have HC := Lib.hid hc
    clear hc
    by_cases hl0 : 0 < l
    · by_cases hge : l ≤ k - t
      · have e : ov l k t o = true := by unfold ov; simp; omega
        rw [HO.out, e]
        clear e
        rcases HC.out with ⟨hx, hy⟩ | ⟨hx, hy⟩
        · subst hy
          go_enter Try.func27, Try.ntmps27
          go_wp2
          exact bodyPost_ret (v := .agg #[.int .i64 l, .int .i64 now, .int .i64 t, .bool true]) (by simp [results, Try.results27, go_sem]) rfl ⟨rfl, ((Below.refl _ _).alloc (Nat.le_refl _) _).alloc (by simp) _⟩
        · subst hy
          go_enter Try.func27, Try.ntmps27
          go_wp2
          exact bodyPost_ret (v := .agg #[.int .i64 l, .int .i64 n, .int .i64 t, .bool true]) (by simp [results, Try.results27, go_sem]) rfl ⟨rfl, ((Below.refl _ _).alloc (Nat.le_refl _) _).alloc (by simp) _⟩
      · have e : ov l k t o = o := by unfold ov; cases o <;> simp; omega
        rw [HO.out, e]
        clear e
        rcases HC.out with ⟨hx, hy⟩ | ⟨hx, hy⟩
        · subst hy
          go_enter Try.func27, Try.ntmps27
          go_wp2
          exact bodyPost_ret (v := .agg #[.int .i64 l, .int .i64 now, .int .i64 t, .bool o]) (by simp [results, Try.results27, go_sem]) rfl ⟨rfl, ((Below.refl _ _).alloc (Nat.le_refl _) _).alloc (by simp) _⟩
        · subst hy
          go_enter Try.func27, Try.ntmps27
          go_wp2
          exact bodyPost_ret (v := .agg #[.int .i64 l, .int .i64 n, .int .i64 t, .bool o]) (by simp [results, Try.results27, go_sem]) rfl ⟨rfl, ((Below.refl _ _).alloc (Nat.le_refl _) _).alloc (by simp) _⟩
    · have e : ov l k t o = o := by unfold ov; cases o <;> simp; omega
      rw [HO.out, e]
      clear e
      obtain rfl : l = 0 := by omega
      rcases HC.out with ⟨hx, hy⟩ | ⟨hx, hy⟩
      · subst hy
        go_enter Try.func27, Try.ntmps27
        go_wp2
        exact bodyPost_ret (v := .agg #[.int .i64 0, .int .i64 now, .int .i64 t, .bool o]) (by simp [results, Try.results27, go_sem]) rfl ⟨rfl, ((Below.refl _ _).alloc (Nat.le_refl _) _).alloc (by simp) _⟩
      · subst hy
        go_enter Try.func27, Try.ntmps27
        go_wp2
        exact bodyPost_ret (v := .agg #[.int .i64 0, .int .i64 n, .int .i64 t, .bool o]) (by simp [results, Try.results27, go_sem]) rfl ⟨rfl, ((Below.refl _ _).alloc (Nat.le_refl _) _).alloc (by simp) _⟩
  by_cases hx : n < now
  · have e : m = now := by omega
    subst e
    exact go m hw (by omega) ho (.inl ⟨hx, rfl⟩)
  · have e : m = n := by omega
    subst e
    exact go m hn (by omega) ho (.inr ⟨by omega, rfl⟩)

end Go.Proofs.Ytchkipafjnehfaa
