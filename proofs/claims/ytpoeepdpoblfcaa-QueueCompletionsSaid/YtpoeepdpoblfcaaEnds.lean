/- queue: four ends that lie apart. -/
import Derived.Test.YtpoeepdpoblfcaaAny
namespace Go.Proofs.Ytpoeepdpoblfcaa
open Go.RowKit

/-- A sender, a fetcher, a poster and a poller of the same size that the call made. -/
structure Ends (w W : World) (gs gf gp gl n sh st fh ft ph pt : Nat) (pp : Bool) (lh lt : Nat) (lp : Bool) : Prop where
  s : QAt 91 3 W gs n sh st true
  f : QAt 93 3 W gf n fh ft true
  p : QAt 96 4 W gp n ph pt pp
  l : QAt 98 4 W gl n lh lt lp
  b : Below w.heap.size w W
  g0 : w.heap.size ≤ gs
  g1 : gs < gf
  g2 : gf < gp
  g3 : gp < gl
namespace Ends
variable {w W W' : World} {gs gf gp gl n sh st fh ft ph pt lh lt : Nat} {pp lp : Bool}
theorem kept {S : Nat → Prop} (h : Ends w W gs gf gp gl n sh st fh ft ph pt pp lh lt lp) (k : Keeps S W W') (hS : ∀ j, S j → w.heap.size ≤ j ∧ j ≠ gs ∧ j ≠ gf ∧ j ≠ gp ∧ j ≠ gl) : Ends w W' gs gf gp gl n sh st fh ft ph pt pp lh lt lp :=
  ⟨h.s.kept k (fun e => (hS _ e).2.1 rfl), h.f.kept k (fun e => (hS _ e).2.2.1 rfl), h.p.kept k (fun e => (hS _ e).2.2.2.1 rfl), h.l.kept k (fun e => (hS _ e).2.2.2.2 rfl),
    h.b.trans (k.below h.b.size (fun j hj e => by have := (hS j e).1; omega)), h.g0, h.g1, h.g2, h.g3⟩
theorem below (h : Ends w W gs gf gp gl n sh st fh ft ph pt pp lh lt lp) (k : Below W.heap.size W W') : Ends w W' gs gf gp gl n sh st fh ft ph pt pp lh lt lp :=
  h.kept (Keeps.of_below (S := fun _ => False) k) (fun _ e => e.elim)
theorem sk {sh' st' : Nat} (h : Ends w W gs gf gp gl n sh st fh ft ph pt pp lh lt lp) (k : Keeps (One gs) W W') (q : QAt 91 3 W' gs n sh' st' true) : Ends w W' gs gf gp gl n sh' st' fh ft ph pt pp lh lt lp := by
  have := h.g0; have := h.g1; have := h.g2; have := h.g3
  exact ⟨q, h.f.kept k (fun e => by have e : gf = gs := e; omega), h.p.kept k (fun e => by have e : gp = gs := e; omega), h.l.kept k (fun e => by have e : gl = gs := e; omega), h.b.trans (k.below h.b.size (fun j hj e => by have e : j = gs := e; omega)), h.g0, h.g1, h.g2, h.g3⟩
theorem fk {fh' ft' : Nat} (h : Ends w W gs gf gp gl n sh st fh ft ph pt pp lh lt lp) (k : Keeps (One gf) W W') (q : QAt 93 3 W' gf n fh' ft' true) : Ends w W' gs gf gp gl n sh st fh' ft' ph pt pp lh lt lp := by
  have := h.g0; have := h.g1; have := h.g2; have := h.g3
  exact ⟨h.s.kept k (fun e => by have e : gs = gf := e; omega), q, h.p.kept k (fun e => by have e : gp = gf := e; omega), h.l.kept k (fun e => by have e : gl = gf := e; omega), h.b.trans (k.below h.b.size (fun j hj e => by have e : j = gf := e; omega)), h.g0, h.g1, h.g2, h.g3⟩
theorem pk {ph' pt' : Nat} {pp' : Bool} (h : Ends w W gs gf gp gl n sh st fh ft ph pt pp lh lt lp) (k : Keeps (One gp) W W') (q : QAt 96 4 W' gp n ph' pt' pp') : Ends w W' gs gf gp gl n sh st fh ft ph' pt' pp' lh lt lp := by
  have := h.g0; have := h.g1; have := h.g2; have := h.g3
  exact ⟨h.s.kept k (fun e => by have e : gs = gp := e; omega), h.f.kept k (fun e => by have e : gf = gp := e; omega), q, h.l.kept k (fun e => by have e : gl = gp := e; omega), h.b.trans (k.below h.b.size (fun j hj e => by have e : j = gp := e; omega)), h.g0, h.g1, h.g2, h.g3⟩
theorem lk {lh' lt' : Nat} {lp' : Bool} (h : Ends w W gs gf gp gl n sh st fh ft ph pt pp lh lt lp) (k : Keeps (One gl) W W') (q : QAt 98 4 W' gl n lh' lt' lp') : Ends w W' gs gf gp gl n sh st fh ft ph pt pp lh' lt' lp' := by
  have := h.g0; have := h.g1; have := h.g2; have := h.g3
  exact ⟨h.s.kept k (fun e => by have e : gs = gl := e; omega), h.f.kept k (fun e => by have e : gf = gl := e; omega), h.p.kept k (fun e => by have e : gp = gl := e; omega), q, h.b.trans (k.below h.b.size (fun j hj e => by have e : j = gl := e; omega)), h.g0, h.g1, h.g2, h.g3⟩
end Ends

/-- the command of zeros -/
def zCmd : Cmd := { op := 0, fused := 0, sgl := false, id := 0, nsid := 0, c2 := 0, c3 := 0, mt := 0, d0 := 0, d1 := 0, w0 := 0, w1 := 0, w2 := 0, w3 := 0, w4 := 0, w5 := 0 }
theorem zCmd_ok : zCmd.Ok := by constructor <;> (constructor <;> decide)
theorem buildCmd (w : World) : (Instr.build 38 #[]).run Try.prog w = .ok zCmd.v w := by kernel_rfl
theorem zCpl_ok : zCpl.Ok := by constructor <;> (constructor <;> decide)
theorem buildCpl' (w : World) : (Instr.build 43 #[]).run Try.prog w = .ok zCpl.v w := by kernel_rfl

/-- the entry of a completion of zeros, decoded -/
theorem dec_zero (ph : Bool) (w : World) : Calls Try.prog 49 #[.agg (cplE (zCpl.withPh ph))] w fun e w' => e = .returned (.tuple #[(dCpl (cplB (zCpl.withPh ph))).v, .int .i64 0]) ∧ Below w.heap.size w w' := by
  have hB : ∀ j, 0 ≤ cplB (zCpl.withPh ph) j ∧ cplB (zCpl.withPh ph) j ≤ 255 := by
    intro j
    unfold cplB byteOf
    (repeat' split) <;> omega
  refine dec_ok (cplB (zCpl.withPh ph)) w hB ?_
  cases ph <;> decide
theorem dec_zero_ph (ph : Bool) : (dCpl (cplB (zCpl.withPh ph))).ph = ph := by
  cases ph <;> decide

theorem post_zero (T g m : Nat) (ph : Bool) (w : World) (q : QAt T 4 w g 2 m m ph) (hm : m < 2) :
    Calls Try.prog 38 #[.pointer (some ⟨g, 0, none⟩), zCpl.v] w fun e w' => e = .returned (.tuple #[.int .i64 m, .agg (cplE (zCpl.withPh ph)), .int .i64 0]) ∧ Keeps (One g) w w' ∧ QAt T 4 w' g 2 m (1 - m) (ph != decide (1 - m = 0)) := by
  have h := pPost_any T g 2 m m ph zCpl w q zCpl_ok
  have hu : usd 2 m m = 0 := (usd_zero hm hm).2 rfl
  have hnx : nxt 2 m = 1 - m := by rw [nxt_eq hm]; split <;> omega
  have hf : ¬ (7 : Int) < zCpl.ty := by decide
  have e1 : ptAt 2 m m zCpl = m := by unfold ptAt; rw [if_neg hf, hu, if_neg (by omega)]
  have e2 : ptA 2 m m ph zCpl = cplE (zCpl.withPh ph) := by unfold ptA; rw [if_neg hf, hu, if_neg (by omega)]
  have e3 : ptEr 2 m m zCpl = 0 := by unfold ptEr; rw [if_neg hf, hu, if_neg (by omega)]
  have e4 : ptT 2 m m zCpl = 1 - m := by unfold ptT; rw [if_neg hf, hu, if_neg (by omega), hnx]
  have e5 : ptPh 2 m m ph zCpl = (ph != decide (1 - m = 0)) := by unfold ptPh; rw [if_neg hf, hu, if_neg (by omega), hnx]
  rw [e1, e2, e3, e4, e5] at h
  exact h
theorem ring_zero (T g m : Nat) (ph : Bool) (w : World) (q : QAt T 4 w g 2 m (1 - m) ph) (hm : m < 2) :
    Calls Try.prog 40 #[.pointer (some ⟨g, 0, none⟩), .int .i64 ((1 - m : Nat) : Int)] w fun e w' => e = .returned (.int .i64 0) ∧ Keeps (One g) w w' ∧ QAt T 4 w' g 2 (1 - m) (1 - m) ph :=
  pRing_ok T 4 g 2 m (1 - m) ph (1 - m) w q (by omega) (Nat.le_refl _)
end Go.Proofs.Ytpoeepdpoblfcaa
