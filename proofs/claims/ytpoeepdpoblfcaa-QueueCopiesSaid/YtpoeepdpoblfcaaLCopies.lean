/- queue: the law QueueCopies. -/
import Derived.Test.YtpoeepdpoblfcaaSeq
namespace Go.Proofs.Ytpoeepdpoblfcaa
open Go.RowKit
attribute [local go_sem ↓] Go.wp_at_zero Go.wp_at_succ

theorem wpList_boxA {P : Program} {ops : Array Oper} {Q : Exit → Act → World → Prop} {a : Act} {w : World} {rest : List Oper} {o : Oper} (hgd : o.guard = none) (t : TypeId) (x : Operand) (ho : o.op = .box t x) {A : Array Value} (hx : a.eval x = .agg A)
    (h : wpList P ops Q rest (a.put o.dst (.pointer (some ⟨w.heap.size, 0, none⟩))) (w.alloc (.cells A t))) : wpList P ops Q (o :: rest) a w := by
  refine wpList_plain hgd fun K hK => ?_
  unfold Oper.wp execOp
  simp only [ho, hx, Sem.run_bind, Instr.box, newVar, newRow, run_newObj_alloc, Sem.run_pure, Result.andThen_ok]
  exact hK _ _ h

theorem cplB_bd (c : Cpl) (j : Nat) : 0 ≤ cplB c j ∧ cplB c j ≤ 255 := by
  unfold cplB byteOf
  repeat' split
  all_goals omega
/-- the bytes that Post gives -/
def ptB (n h t : Nat) (ph : Bool) (c : Cpl) (j : Nat) : Int := if 7 < c.ty then 0 else if usd n h t = n - 1 then 0 else cplB (c.withPh ph) j
theorem ptA_eq (n h t : Nat) (ph : Bool) (c : Cpl) : ptA n h t ph c = arr 16 fun j => .int .u8 (ptB n h t ph c j) := by
  unfold ptA ptB
  split
  · rfl
  · split
    · rfl
    · rfl
theorem ptB_bd (n h t : Nat) (ph : Bool) (c : Cpl) (j : Nat) : 0 ≤ ptB n h t ph c j ∧ ptB n h t ph c j ≤ 255 := by
  unfold ptB
  split
  · omega
  · split
    · omega
    · exact cplB_bd _ _

/-- The four ends and the two boxes. -/
structure CI (w W : World) (bc bd gs gf gp gl n : Nat) (c : Cmd) (d : Cpl) (sh st fh ft ph pt : Nat) (pp : Bool) (lh lt : Nat) (lp : Bool) : Prop where
  e : Ends w W gs gf gp gl n sh st fh ft ph pt pp lh lt lp
  ac : ArrAt W bc c.cells
  ad : ArrAt W bd d.cells
  h1 : bc < bd
  h2 : bd < gs
namespace CI
variable {w W W' : World} {bc bd gs gf gp gl n sh st fh ft ph pt lh lt : Nat} {pp lp : Bool} {c : Cmd} {d : Cpl}
theorem below (i : CI w W bc bd gs gf gp gl n c d sh st fh ft ph pt pp lh lt lp) (k : Below W.heap.size W W') : CI w W' bc bd gs gf gp gl n c d sh st fh ft ph pt pp lh lt lp :=
  ⟨i.e.below k, i.ac.below k, i.ad.below k, i.h1, i.h2⟩
theorem sk {sh' st' : Nat} (i : CI w W bc bd gs gf gp gl n c d sh st fh ft ph pt pp lh lt lp) (k : Keeps (One gs) W W') (q : QAt 91 3 W' gs n sh' st' true) : CI w W' bc bd gs gf gp gl n c d sh' st' fh ft ph pt pp lh lt lp := by
  have := i.h1; have := i.h2; have := i.e.g1; have := i.e.g2; have := i.e.g3
  exact ⟨i.e.sk k q, i.ac.kept k (fun e => by have e : bc = gs := e; omega), i.ad.kept k (fun e => by have e : bd = gs := e; omega), i.h1, i.h2⟩
theorem fk {fh' ft' : Nat} (i : CI w W bc bd gs gf gp gl n c d sh st fh ft ph pt pp lh lt lp) (k : Keeps (One gf) W W') (q : QAt 93 3 W' gf n fh' ft' true) : CI w W' bc bd gs gf gp gl n c d sh st fh' ft' ph pt pp lh lt lp := by
  have := i.h1; have := i.h2; have := i.e.g1; have := i.e.g2; have := i.e.g3
  exact ⟨i.e.fk k q, i.ac.kept k (fun e => by have e : bc = gf := e; omega), i.ad.kept k (fun e => by have e : bd = gf := e; omega), i.h1, i.h2⟩
theorem pk {ph' pt' : Nat} {pp' : Bool} (i : CI w W bc bd gs gf gp gl n c d sh st fh ft ph pt pp lh lt lp) (k : Keeps (One gp) W W') (q : QAt 96 4 W' gp n ph' pt' pp') : CI w W' bc bd gs gf gp gl n c d sh st fh ft ph' pt' pp' lh lt lp := by
  have := i.h1; have := i.h2; have := i.e.g1; have := i.e.g2; have := i.e.g3
  exact ⟨i.e.pk k q, i.ac.kept k (fun e => by have e : bc = gp := e; omega), i.ad.kept k (fun e => by have e : bd = gp := e; omega), i.h1, i.h2⟩
theorem lk {lh' lt' : Nat} {lp' : Bool} (i : CI w W bc bd gs gf gp gl n c d sh st fh ft ph pt pp lh lt lp) (k : Keeps (One gl) W W') (q : QAt 98 4 W' gl n lh' lt' lp') : CI w W' bc bd gs gf gp gl n c d sh st fh ft ph pt pp lh' lt' lp' := by
  have := i.h1; have := i.h2; have := i.e.g1; have := i.e.g2; have := i.e.g3
  exact ⟨i.e.lk k q, i.ac.kept k (fun e => by have e : bc = gl := e; omega), i.ad.kept k (fun e => by have e : bd = gl := e; omega), i.h1, i.h2⟩
end CI
/-- The four ends, their copies, the two boxes. -/
structure CJ (w W : World) (bc bd gs gf gp gl gt gu gv gw n : Nat) (c : Cmd) (d : Cpl) (sh st fh ft ph pt : Nat) (pp : Bool) (lh lt : Nat) (lp : Bool) (th tt uh ut vh vt : Nat) (vp : Bool) (wh wt : Nat) (wp : Bool) : Prop where
  i : CI w W bc bd gs gf gp gl n c d sh st fh ft ph pt pp lh lt lp
  k : Ends w W gt gu gv gw n th tt uh ut vh vt vp wh wt wp
  h3 : gl < gt
namespace CJ
variable {w W W' : World} {bc bd gs gf gp gl gt gu gv gw n sh st fh ft ph pt lh lt th tt uh ut vh vt wh wt : Nat} {pp lp vp wp : Bool} {c : Cmd} {d : Cpl}
theorem below (j : CJ w W bc bd gs gf gp gl gt gu gv gw n c d sh st fh ft ph pt pp lh lt lp th tt uh ut vh vt vp wh wt wp) (k : Below W.heap.size W W') : CJ w W' bc bd gs gf gp gl gt gu gv gw n c d sh st fh ft ph pt pp lh lt lp th tt uh ut vh vt vp wh wt wp :=
  ⟨j.i.below k, j.k.below k, j.h3⟩
theorem sk {sh' st' : Nat} (j : CJ w W bc bd gs gf gp gl gt gu gv gw n c d sh st fh ft ph pt pp lh lt lp th tt uh ut vh vt vp wh wt wp) (k : Keeps (One gs) W W') (q : QAt 91 3 W' gs n sh' st' true) : CJ w W' bc bd gs gf gp gl gt gu gv gw n c d sh' st' fh ft ph pt pp lh lt lp th tt uh ut vh vt vp wh wt wp := by
  have := j.i.h1; have := j.i.h2; have := j.i.e.g0; have := j.i.e.g1; have := j.i.e.g2; have := j.i.e.g3; have := j.h3; have := j.k.g1; have := j.k.g2; have := j.k.g3
  exact ⟨j.i.sk k q, j.k.kept k (fun x e => by have e : x = gs := e; omega), j.h3⟩
theorem fk {fh' ft' : Nat} (j : CJ w W bc bd gs gf gp gl gt gu gv gw n c d sh st fh ft ph pt pp lh lt lp th tt uh ut vh vt vp wh wt wp) (k : Keeps (One gf) W W') (q : QAt 93 3 W' gf n fh' ft' true) : CJ w W' bc bd gs gf gp gl gt gu gv gw n c d sh st fh' ft' ph pt pp lh lt lp th tt uh ut vh vt vp wh wt wp := by
  have := j.i.h1; have := j.i.h2; have := j.i.e.g0; have := j.i.e.g1; have := j.i.e.g2; have := j.i.e.g3; have := j.h3; have := j.k.g1; have := j.k.g2; have := j.k.g3
  exact ⟨j.i.fk k q, j.k.kept k (fun x e => by have e : x = gf := e; omega), j.h3⟩
theorem pk {ph' pt' : Nat} {pp' : Bool} (j : CJ w W bc bd gs gf gp gl gt gu gv gw n c d sh st fh ft ph pt pp lh lt lp th tt uh ut vh vt vp wh wt wp) (k : Keeps (One gp) W W') (q : QAt 96 4 W' gp n ph' pt' pp') : CJ w W' bc bd gs gf gp gl gt gu gv gw n c d sh st fh ft ph' pt' pp' lh lt lp th tt uh ut vh vt vp wh wt wp := by
  have := j.i.h1; have := j.i.h2; have := j.i.e.g0; have := j.i.e.g1; have := j.i.e.g2; have := j.i.e.g3; have := j.h3; have := j.k.g1; have := j.k.g2; have := j.k.g3
  exact ⟨j.i.pk k q, j.k.kept k (fun x e => by have e : x = gp := e; omega), j.h3⟩
theorem lk {lh' lt' : Nat} {lp' : Bool} (j : CJ w W bc bd gs gf gp gl gt gu gv gw n c d sh st fh ft ph pt pp lh lt lp th tt uh ut vh vt vp wh wt wp) (k : Keeps (One gl) W W') (q : QAt 98 4 W' gl n lh' lt' lp') : CJ w W' bc bd gs gf gp gl gt gu gv gw n c d sh st fh ft ph pt pp lh' lt' lp' th tt uh ut vh vt vp wh wt wp := by
  have := j.i.h1; have := j.i.h2; have := j.i.e.g0; have := j.i.e.g1; have := j.i.e.g2; have := j.i.e.g3; have := j.h3; have := j.k.g1; have := j.k.g2; have := j.k.g3
  exact ⟨j.i.lk k q, j.k.kept k (fun x e => by have e : x = gl := e; omega), j.h3⟩
theorem ts {th' tt' : Nat} (j : CJ w W bc bd gs gf gp gl gt gu gv gw n c d sh st fh ft ph pt pp lh lt lp th tt uh ut vh vt vp wh wt wp) (k : Keeps (One gt) W W') (q : QAt 91 3 W' gt n th' tt' true) : CJ w W' bc bd gs gf gp gl gt gu gv gw n c d sh st fh ft ph pt pp lh lt lp th' tt' uh ut vh vt vp wh wt wp := by
  have := j.i.h1; have := j.i.h2; have := j.i.e.g0; have := j.i.e.g1; have := j.i.e.g2; have := j.i.e.g3; have := j.h3; have := j.k.g1; have := j.k.g2; have := j.k.g3
  exact ⟨⟨j.i.e.kept k (fun x e => by have e : x = gt := e; omega), j.i.ac.kept k (fun e => by have e : bc = gt := e; omega), j.i.ad.kept k (fun e => by have e : bd = gt := e; omega), j.i.h1, j.i.h2⟩, j.k.sk k q, j.h3⟩
theorem vs {vh' vt' : Nat} {vp' : Bool} (j : CJ w W bc bd gs gf gp gl gt gu gv gw n c d sh st fh ft ph pt pp lh lt lp th tt uh ut vh vt vp wh wt wp) (k : Keeps (One gv) W W') (q : QAt 96 4 W' gv n vh' vt' vp') : CJ w W' bc bd gs gf gp gl gt gu gv gw n c d sh st fh ft ph pt pp lh lt lp th tt uh ut vh' vt' vp' wh wt wp := by
  have := j.i.h1; have := j.i.h2; have := j.i.e.g0; have := j.i.e.g1; have := j.i.e.g2; have := j.i.e.g3; have := j.h3; have := j.k.g1; have := j.k.g2; have := j.k.g3
  exact ⟨⟨j.i.e.kept k (fun x e => by have e : x = gv := e; omega), j.i.ac.kept k (fun e => by have e : bc = gv := e; omega), j.i.ad.kept k (fun e => by have e : bd = gv := e; omega), j.i.h1, j.i.h2⟩, j.k.pk k q, j.h3⟩
end CJ

set_option maxRecDepth 100000 in
set_option maxHeartbeats 8000000 in
theorem c_bad (size many : Int) (c : Cmd) (d : Cpl) (w : World) (h : size < 2 ∨ 4096 < size) :
    Calls Try.prog 9 #[.int .i64 size, .int .i64 many, .agg c.cells, .agg d.cells] w fun e w' => e = .returned (.bool true) ∧ Below w.heap.size w w' := by
  have H := Lib.hid h
  clear h
  go_enter Try.func9, Try.ntmps9
  go_upto_region 1 with (first
    | ((with_reducible show wpList _ _ _ (⟨some 6, _, _, _, _, _⟩ :: _) _ _); refine wpList_boxA rfl 38 (.tmp 2) rfl rfl ?_)
    | ((with_reducible show wpList _ _ _ (⟨some 7, _, _, _, _, _⟩ :: _) _ _); refine wpList_boxA rfl 43 (.tmp 3) rfl (by first | rfl | simp [Act.eval, Act.put]) ?_))
  obtain ⟨W0, hW⟩ : ∃ z, z = (w.alloc (.cells c.cells 38)).alloc (.cells d.cells 43) := ⟨_, rfl⟩
  rw [← hW]
  have HB0 := Lib.hid (show Below w.heap.size w W0 by rw [hW]; exact ((Below.refl _ _).alloc (Nat.le_refl _) _).alloc (by simp) _)
  obtain ⟨bc, hbc⟩ : ∃ z, z = w.heap.size := ⟨_, rfl⟩
  obtain ⟨bd, hbd⟩ : ∃ z, z = w.heap.size + 1 := ⟨_, rfl⟩
  have AC := Lib.hid (show ArrAt W0 bc c.cells by rw [hW, hbc]; exact (ArrAt.fresh w c.cells 38 (by simp [Cmd.cells])).alloc _)
  have AD := Lib.hid (show ArrAt W0 bd d.cells by rw [hW, hbd, show w.heap.size + 1 = (w.alloc (.cells c.cells 38)).heap.size by simp]; exact ArrAt.fresh _ d.cells 43 (by simp [Cpl.cells]))
  have hcd : bc < bd := by omega
  have hdW : bd < W0.heap.size := AD.out.lt
  have hw0 : w.heap.size ≤ bc := by omega
  rw [← hbd]
  rw [← hbc]
  clear hW hbd hbc
  go_wp2_with (first
    | (go_at_call 29; refine (sNew_err _ _ H.out).mono ?_; rintro e w1 ⟨rfl, rfl⟩)
    | (go_at_call 11; refine (fNew_err _ _ H.out).mono ?_; rintro e w1 ⟨rfl, rfl⟩)
    | (go_at_call 37; refine (pNew_err _ _ H.out).mono ?_; rintro e w1 ⟨rfl, rfl⟩)
    | (go_at_call 23; refine (lNew_err _ _ H.out).mono ?_; rintro e w1 ⟨rfl, rfl⟩)
    | (go_at_call 13; refine (known_any _).mono ?_; rintro e w1 ⟨rfl, hb⟩; have HB := Lib.hid (HB0.out.trans (hb.mono HB0.out.size)); clear hb))
  go_ret
  exact ⟨rfl, HB.out⟩

set_option maxRecDepth 100000 in
set_option maxHeartbeats 8000000 in
theorem c_long (n : Nat) (many : Int) (c : Cmd) (d : Cpl) (w : World) (hn : 2 ≤ n) (hn' : n ≤ 4096) (hm : many < 0 ∨ 50 < many) :
    Calls Try.prog 9 #[.int .i64 n, .int .i64 many, .agg c.cells, .agg d.cells] w fun e w' => e = .returned (.bool true) ∧ Below w.heap.size w w' := by
  go_enter Try.func9, Try.ntmps9
  go_upto_region 1 with (first
    | ((with_reducible show wpList _ _ _ (⟨some 6, _, _, _, _, _⟩ :: _) _ _); refine wpList_boxA rfl 38 (.tmp 2) rfl rfl ?_)
    | ((with_reducible show wpList _ _ _ (⟨some 7, _, _, _, _, _⟩ :: _) _ _); refine wpList_boxA rfl 43 (.tmp 3) rfl (by first | rfl | simp [Act.eval, Act.put]) ?_))
  obtain ⟨W0, hW⟩ : ∃ z, z = (w.alloc (.cells c.cells 38)).alloc (.cells d.cells 43) := ⟨_, rfl⟩
  rw [← hW]
  have HB0 := Lib.hid (show Below w.heap.size w W0 by rw [hW]; exact ((Below.refl _ _).alloc (Nat.le_refl _) _).alloc (by simp) _)
  obtain ⟨bc, hbc⟩ : ∃ z, z = w.heap.size := ⟨_, rfl⟩
  obtain ⟨bd, hbd⟩ : ∃ z, z = w.heap.size + 1 := ⟨_, rfl⟩
  have AC := Lib.hid (show ArrAt W0 bc c.cells by rw [hW, hbc]; exact (ArrAt.fresh w c.cells 38 (by simp [Cmd.cells])).alloc _)
  have AD := Lib.hid (show ArrAt W0 bd d.cells by rw [hW, hbd, show w.heap.size + 1 = (w.alloc (.cells c.cells 38)).heap.size by simp]; exact ArrAt.fresh _ d.cells 43 (by simp [Cpl.cells]))
  have hcd : bc < bd := by omega
  have hdW : bd < W0.heap.size := AD.out.lt
  have hw0 : w.heap.size ≤ bc := by omega
  rw [← hbd]
  rw [← hbc]
  clear hW hbd hbc
  go_wp2_with fail
  refine (sNew_ok _ _ hn hn').mono ?_
  rintro e w1 ⟨v, rfl, gs, rfl, g0, hb1, hq1⟩
  have HQ1 := Lib.hid hq1
  have HB1 := Lib.hid hb1
  have hlt1 := hq1.lt
  have hs1 := hb1.size
  clear hq1 hb1
  go_wp2_with fail
  refine (fNew_ok _ _ hn hn').mono ?_
  rintro e w2 ⟨v, rfl, gf, rfl, g1, hb2, hq2⟩
  have HQ2 := Lib.hid hq2
  have HB2 := Lib.hid hb2
  have hlt2 := hq2.lt
  have hs2 := hb2.size
  clear hq2 hb2
  go_wp2_with fail
  refine (pNew_ok _ _ hn hn').mono ?_
  rintro e w3 ⟨v, rfl, gp, rfl, g2, hb3, hq3⟩
  have HQ3 := Lib.hid hq3
  have HB3 := Lib.hid hb3
  have hlt3 := hq3.lt
  have hs3 := hb3.size
  clear hq3 hb3
  go_wp2_with fail
  refine (lNew_ok _ _ hn hn').mono ?_
  rintro e w4 ⟨v, rfl, gl, rfl, g3, hb4, hq4⟩
  have hb14 := ((HB1.out.trans (HB2.out.mono hs1)).trans (HB3.out.mono (by omega))).trans (hb4.mono (by omega))
  have hs0 := HB0.out.size
  have I0 := Lib.hid (show CI w w4 bc bd gs gf gp gl n c d 0 0 0 0 0 0 true 0 0 true from
    ⟨⟨HQ1.out.kept (S := fun _ => False) (((keepB HB2.out).trans (keepB HB3.out)).trans (keepB hb4)) (fun e => e), HQ2.out.kept (S := fun _ => False) ((keepB HB3.out).trans (keepB hb4)) (fun e => e), HQ3.out.below hb4, hq4,
      HB0.out.trans (hb14.mono hs0), by omega, by omega, by omega, by omega⟩, AC.out.below hb14, AD.out.below hb14, hcd, by omega⟩)
  clear hb4 hq4 HQ1 HQ2 HQ3 HB1 HB2 HB3 hb14
  have HM := Lib.hid hm
  clear hm
  rcases HM.out with h | h
  · have d1 : decide (many < 0) = true := by simpa using h
    clear h
    go_wp2_with (go_at_call 13; refine (known_any _).mono ?_; rintro e w5 ⟨rfl, hb⟩; have HB := Lib.hid (I0.out.e.b.trans (hb.mono I0.out.e.b.size)); clear hb)
    go_ret
    exact ⟨rfl, HB.out⟩
  · have d1 : decide (many < 0) = false := by simp; omega
    have d2 : decide (50 < many) = true := by simpa using h
    clear h
    go_wp2_with (go_at_call 13; refine (known_any _).mono ?_; rintro e w5 ⟨rfl, hb⟩; have HB := Lib.hid (I0.out.e.b.trans (hb.mono I0.out.e.b.size)); clear hb)
    go_ret
    exact ⟨rfl, HB.out⟩

set_option maxRecDepth 100000 in
set_option maxHeartbeats 8000000 in
theorem c_main (n many : Nat) (c : Cmd) (d : Cpl) (w : World) (hn : 2 ≤ n) (hn' : n ≤ 4096) (hm : many ≤ 50) (hc : c.Ok) (hd : d.Ok) :
    Calls Try.prog 9 #[.int .i64 n, .int .i64 many, .agg c.cells, .agg d.cells] w fun e w' => e = .returned (.bool true) ∧ Below w.heap.size w w' := by
  have HCO := Lib.hid hc
  have HDO := Lib.hid hd
  clear hc hd
  have d1 : decide ((many : Int) < 0) = false := by simp <;> omega
  have d2 : decide ((50 : Int) < (many : Int)) = false := by simp; omega
  go_enter Try.func9, Try.ntmps9
  go_upto_region 1 with (first
    | ((with_reducible show wpList _ _ _ (⟨some 6, _, _, _, _, _⟩ :: _) _ _); refine wpList_boxA rfl 38 (.tmp 2) rfl rfl ?_)
    | ((with_reducible show wpList _ _ _ (⟨some 7, _, _, _, _, _⟩ :: _) _ _); refine wpList_boxA rfl 43 (.tmp 3) rfl (by first | rfl | simp [Act.eval, Act.put]) ?_))
  obtain ⟨W0, hW⟩ : ∃ z, z = (w.alloc (.cells c.cells 38)).alloc (.cells d.cells 43) := ⟨_, rfl⟩
  rw [← hW]
  have HB0 := Lib.hid (show Below w.heap.size w W0 by rw [hW]; exact ((Below.refl _ _).alloc (Nat.le_refl _) _).alloc (by simp) _)
  obtain ⟨bc, hbc⟩ : ∃ z, z = w.heap.size := ⟨_, rfl⟩
  obtain ⟨bd, hbd⟩ : ∃ z, z = w.heap.size + 1 := ⟨_, rfl⟩
  have AC := Lib.hid (show ArrAt W0 bc c.cells by rw [hW, hbc]; exact (ArrAt.fresh w c.cells 38 (by simp [Cmd.cells])).alloc _)
  have AD := Lib.hid (show ArrAt W0 bd d.cells by rw [hW, hbd, show w.heap.size + 1 = (w.alloc (.cells c.cells 38)).heap.size by simp]; exact ArrAt.fresh _ d.cells 43 (by simp [Cpl.cells]))
  have hcd : bc < bd := by omega
  have hdW : bd < W0.heap.size := AD.out.lt
  have hw0 : w.heap.size ≤ bc := by omega
  rw [← hbd]
  rw [← hbc]
  clear hW hbd hbc
  go_wp2_with fail
  refine (sNew_ok _ _ hn hn').mono ?_
  rintro e w1 ⟨v, rfl, gs, rfl, g0, hb1, hq1⟩
  have HQ1 := Lib.hid hq1
  have HB1 := Lib.hid hb1
  have hlt1 := hq1.lt
  have hs1 := hb1.size
  clear hq1 hb1
  go_wp2_with fail
  refine (fNew_ok _ _ hn hn').mono ?_
  rintro e w2 ⟨v, rfl, gf, rfl, g1, hb2, hq2⟩
  have HQ2 := Lib.hid hq2
  have HB2 := Lib.hid hb2
  have hlt2 := hq2.lt
  have hs2 := hb2.size
  clear hq2 hb2
  go_wp2_with fail
  refine (pNew_ok _ _ hn hn').mono ?_
  rintro e w3 ⟨v, rfl, gp, rfl, g2, hb3, hq3⟩
  have HQ3 := Lib.hid hq3
  have HB3 := Lib.hid hb3
  have hlt3 := hq3.lt
  have hs3 := hb3.size
  clear hq3 hb3
  go_wp2_with fail
  refine (lNew_ok _ _ hn hn').mono ?_
  rintro e w4 ⟨v, rfl, gl, rfl, g3, hb4, hq4⟩
  have hb14 := ((HB1.out.trans (HB2.out.mono hs1)).trans (HB3.out.mono (by omega))).trans (hb4.mono (by omega))
  have hs0 := HB0.out.size
  have I0 := Lib.hid (show CI w w4 bc bd gs gf gp gl n c d 0 0 0 0 0 0 true 0 0 true from
    ⟨⟨HQ1.out.kept (S := fun _ => False) (((keepB HB2.out).trans (keepB HB3.out)).trans (keepB hb4)) (fun e => e), HQ2.out.kept (S := fun _ => False) ((keepB HB3.out).trans (keepB hb4)) (fun e => e), HQ3.out.below hb4, hq4,
      HB0.out.trans (hb14.mono hs0), by omega, by omega, by omega, by omega⟩, AC.out.below hb14, AD.out.below hb14, hcd, by omega⟩)
  clear hb4 hq4 HQ1 HQ2 HQ3 HB1 HB2 HB3 hb14
  clear AC AD HB0 hlt1 hlt2 hlt3 hs1 hs2 hs3 g0 g1 g2 g3 hdW hs0
  go_wp2_with fail
  go_loopw [17] (fun i wr => ∃ (k : Nat) (sh st fh ft ph pt lh lt : Nat) (pp lp : Bool), k ≤ many ∧ i = .int .i64 k ∧ CI w wr bc bd gs gf gp gl n c d sh st fh ft ph pt pp lh lt lp) (fun i _ => many - (intOf i).toNat)
  case atStart => exact ⟨0, 0, 0, 0, 0, 0, 0, 0, 0, true, true, Nat.zero_le _, rfl, I0.out⟩
  case round =>
    clear I0
    obtain ⟨k, sh, st, fh, ft, ph, pt, lh, lt, pp, lp, hk, rfl, hI⟩ := hrel
    have I0 := Lib.hid hI
    clear hI
    by_cases hlt : k < many
    · have m1 : (k : Int) < (many : Int) := by omega
      have HPU := Lib.hid fun w q => sPush_any 91 gs n sh st true c w q HCO.out
      obtain ⟨st', hv1⟩ : ∃ z, z = psT n sh st c := ⟨_, rfl⟩
      obtain ⟨A1, hv2⟩ : ∃ z, z = psA n sh st c := ⟨_, rfl⟩
      rw [← hv1, ← hv2] at HPU
      clear hv1 hv2
      go_upto_region 11 with (first
        | ((with_reducible show wpList _ _ _ (⟨some 78, _, _, _, _, _⟩ :: _) _ _); refine wpList_loadA rfl I0.out.ac 38 (.tmp 6) rfl (by first | rfl | simp [Act.eval, Act.put]) Try.underlying38 rfl size_cmd ?_)
        | (go_at_call 30; refine (HPU.out _ I0.out.e.s).mono ?_; rintro e w5 ⟨rfl, hk2, hq2⟩; have I1 := Lib.hid (I0.out.sk hk2 hq2); clear hk2 hq2))
      go_upto_region 12 with (first
        | (go_at_call 32; refine (sTail_ok _ _ _ _ _ _ _ _ I1.out.e.s).mono ?_; rintro e w6 ⟨rfl, hb⟩; have I2 := Lib.hid (I1.out.below hb); clear hb)
        | (go_at_call 18; refine (fRing_any _ _ _ _ _ _ _ _ _ I2.out.e.f).mono ?_; rintro e w7 ⟨rfl, hk2, hq2⟩; have I3 := Lib.hid (I2.out.fk hk2 hq2); clear hk2 hq2))
      go_upto_region 13 with (go_at_call 15; refine (fNext_any _ _ _ _ _ _ _ _ I3.out.e.f).mono ?_; rintro e w8 ⟨rfl, hk2, hq2⟩; have I4 := Lib.hid (I3.out.fk hk2 hq2); clear hk2 hq2)
      go_upto_region 14 with (first
        | (go_at_call 19; refine (fHead_ok _ _ _ _ _ _ _ _ I4.out.e.f).mono ?_; rintro e w9 ⟨rfl, hb⟩; have I5 := Lib.hid (I4.out.below hb); clear hb)
        | (go_at_call 33; refine (sHead_any _ _ _ _ _ _ _ _ _ I5.out.e.s).mono ?_; rintro e w10 ⟨rfl, hk2, hq2⟩; have I6 := Lib.hid (I5.out.sk hk2 hq2); clear hk2 hq2))
      have HPO := Lib.hid fun w q => pPost_any 96 gp n ph pt pp d w q HDO.out
      obtain ⟨pt', hv1⟩ : ∃ z, z = ptT n ph pt d := ⟨_, rfl⟩
      obtain ⟨B, hv2⟩ : ∃ z, z = ptB n ph pt pp d := ⟨_, rfl⟩
      obtain ⟨er, hv3⟩ : ∃ z, z = ptEr n ph pt d := ⟨_, rfl⟩
      have hBd : ∀ j, 0 ≤ B j ∧ B j ≤ 255 := by rw [hv2]; exact ptB_bd n ph pt pp d
      obtain ⟨A2, hv4⟩ : ∃ z, z = arr 16 (fun j => .int .u8 (B j)) := ⟨_, rfl⟩
      rw [ptA_eq, ← hv1, ← hv2, ← hv3, ← hv4] at HPO
      have HA2 := Lib.hid (show BytesA 16 A2 from ⟨B, hv4⟩)
      have HAS := Lib.hid (show (Try.prog.info? 44).map (·.size) = some A2.size by rw [HA2.out.size]; exact size16)
      have HPL := Lib.hid fun w q => lPoll_any 98 gl n lh lt lp B w q hBd
      have HPL := Lib.hid fun w q => (by have := HPL.out w q; unfold arrB at this; rw [← hv4] at this; exact this : Calls Try.prog 24 #[.pointer (some ⟨gl, 0, none⟩), .agg A2] w fun e w' => e = .returned (.tuple #[(plC lp B).v, .bool (isNew lp B), .int .i64 (plEr B)]) ∧ Keeps (One gl) w w' ∧ QAt 98 4 w' gl n (plH n lh lp B) lt (plPh n lh lp B))
      clear hv1 hv2 hv3 hv4 hBd
      go_upto_region 15 with (first
        | ((with_reducible show wpList _ _ _ (⟨some 92, _, _, _, _, _⟩ :: _) _ _); refine wpList_loadA rfl I6.out.ad 43 (.tmp 7) rfl (by first | rfl | simp [Act.eval, Act.put]) Try.underlying43 rfl size10 ?_)
        | (go_at_call 38; refine (HPO.out _ I6.out.e.p).mono ?_; rintro e w11 ⟨rfl, hk2, hq2⟩; have I7' := Lib.hid (I6.out.pk hk2 hq2); clear hk2 hq2)
        | ((with_reducible show wpList _ _ _ (⟨some 19, _, _, _, _, _⟩ :: _) _ _); refine wpList_alloc rfl 44 rfl zero16 ?_; rw [show (Value.agg (arr 16 z16)).cells = arr 16 z16 from rfl])
        | ((with_reducible show wpList _ _ _ (⟨none, .store _ (.tmp 19) _, _, _, _, _⟩ :: _) _ _); refine wpList_storeA rfl (b := w11.heap.size) (A := arr 16 z16) (A' := A2) (fr16 w11) 44 (.tmp 19) (.tmp 95) rfl (by simp [Act.eval]) (by simp [Act.eval]) sz16 (by rw [arr_size, HA2.out.size]) HA2.out.one ?_))
      obtain ⟨w12, hw⟩ : ∃ z, z = (w11.alloc (.cells (arr 16 z16) 44)).setCells w11.heap.size 0 A2.toList := ⟨_, rfl⟩
      rw [← hw]
      have A19 := Lib.hid (show ArrAt w12 w11.heap.size A2 by rw [hw]; exact (fr16 w11).store A2 (by rw [arr_size, HA2.out.size]))
      have I7 := Lib.hid (I7'.out.below (show Below w11.heap.size w11 w12 by rw [hw]; exact set16 _ _))
      clear hw I7'
      by_cases he : er = 0
      · have e0 : (er == 0) = true := by simpa using he
        clear he
        go_wp2_with (first
          | ((with_reducible show wpList _ _ _ (⟨some 100, _, _, _, _, _⟩ :: _) _ _); refine wpList_loadA rfl A19.out 44 (.tmp 19) rfl (by first | rfl | simp [Act.eval, Act.put]) Try.underlying44 rfl HAS.out ?_)
          | (go_at_call 24; refine (HPL.out _ I7.out.e.l).mono ?_; rintro e w13 ⟨rfl, hk2, hq2⟩; have I8 := Lib.hid (I7.out.lk hk2 hq2); clear hk2 hq2)
          | (go_at_call 27; refine (lHead_ok _ _ _ _ _ _ _ _ I8.out.e.l).mono ?_; rintro e w14 ⟨rfl, hb⟩; have I9 := Lib.hid (I8.out.below hb); clear hb)
          | (go_at_call 40; refine (pRing_any _ _ _ _ _ _ _ _ _ I9.out.e.p).mono ?_; rintro e w15 ⟨rfl, hk2, hq2⟩; have I10 := Lib.hid (I9.out.pk hk2 hq2); clear hk2 hq2))
        go_roundw
        case rel => exact ⟨k + 1, _, _, _, _, _, _, _, _, _, _, by omega, by go_num, I10.out⟩
        case measure => simp [intOf]; omega
      · have e0 : (er == 0) = false := by simpa using he
        clear he
        go_wp2_with (first
          | (go_at_call 27; refine (lHead_ok _ _ _ _ _ _ _ _ I7.out.e.l).mono ?_; rintro e w14 ⟨rfl, hb⟩; have I9 := Lib.hid (I7.out.below hb); clear hb)
          | (go_at_call 40; refine (pRing_any _ _ _ _ _ _ _ _ _ I9.out.e.p).mono ?_; rintro e w15 ⟨rfl, hk2, hq2⟩; have I10 := Lib.hid (I9.out.pk hk2 hq2); clear hk2 hq2))
        go_roundw
        case rel => exact ⟨k + 1, _, _, _, _, _, _, _, _, _, _, by omega, by go_num, I10.out⟩
        case measure => simp [intOf]; omega
    · obtain rfl : k = many := by omega
      go_wp2_with fail
      refine (sCopy_ok _ _ _ _ _ _ _ I0.out.e.s).mono ?_
      rintro e w1 ⟨v, rfl, gt, rfl, g0, hb1, hq1⟩
      have I1 := Lib.hid (I0.out.below hb1)
      have HQ1 := Lib.hid hq1
      have hlt1 := hq1.lt
      have hl0 := I0.out.e.l.lt
      have hz0 := I0.out.e.b.size
      clear hq1 hb1
      go_wp2_with fail
      refine (fCopy_ok _ _ _ _ _ _ _ I1.out.e.f).mono ?_
      rintro e w2 ⟨v, rfl, gu, rfl, g1, hb2, hq2⟩
      have I2 := Lib.hid (I1.out.below hb2)
      have HQ2 := Lib.hid hq2
      have HB2 := Lib.hid hb2
      have hlt2 := hq2.lt
      clear hq2 hb2
      go_wp2_with fail
      refine (pCopy_ok _ _ _ _ _ _ _ I2.out.e.p).mono ?_
      rintro e w3 ⟨v, rfl, gv, rfl, g2, hb3, hq3⟩
      have I3 := Lib.hid (I2.out.below hb3)
      have HQ3 := Lib.hid hq3
      have HB3 := Lib.hid hb3
      have hlt3 := hq3.lt
      clear hq3 hb3
      go_wp2_with fail
      refine (lCopy_ok _ _ _ _ _ _ _ I3.out.e.l).mono ?_
      rintro e w4 ⟨v, rfl, gw, rfl, g3, hb4, hq4⟩
      have I4 := Lib.hid (I3.out.below hb4)
      have J0 := Lib.hid (show CJ w w4 bc bd gs gf gp gl gt gu gv gw n c d sh st fh ft ph pt pp lh lt lp sh st fh ft ph pt pp lh lt lp from
        ⟨I4.out, ⟨HQ1.out.kept (S := fun _ => False) (((keepB HB2.out).trans (keepB HB3.out)).trans (keepB hb4)) (fun e => e), HQ2.out.kept (S := fun _ => False) ((keepB HB3.out).trans (keepB hb4)) (fun e => e), HQ3.out.below hb4, hq4,
          I4.out.e.b, by omega, by omega, by omega, by omega⟩, by omega⟩)
      clear hb4 hq4 HQ1 HQ2 HQ3 HB2 HB3 I0 I1 I2 I3 I4
      have hun : usd n sh st < n := usd_lt J0.out.i.e.s.hh J0.out.i.e.s.ht
      have HFS := Lib.hid fun w q => sFree_ok 91 3 gs n sh st true w q
      have HFT := Lib.hid fun w q => sFree_ok 91 3 gt n sh st true w q
      obtain ⟨u1, hu1⟩ : ∃ z, z = ((n : Int) - 1 - (usd n sh st : Nat)) := ⟨_, rfl⟩
      rw [← hu1] at HFS HFT
      have HWF := Lib.hid fun w q => fWaiting_ok 93 3 gf n fh ft true w q
      have HWU := Lib.hid fun w q => fWaiting_ok 93 3 gu n fh ft true w q
      obtain ⟨u2, hu2⟩ : ∃ z, z = usd n fh ft := ⟨_, rfl⟩
      rw [← hu2] at HWF HWU
      have HFP := Lib.hid fun w q => pFree_ok 96 4 gp n ph pt pp w q
      have HFV := Lib.hid fun w q => pFree_ok 96 4 gv n ph pt pp w q
      obtain ⟨u3, hu3⟩ : ∃ z, z = ((n : Int) - 1 - (usd n ph pt : Nat)) := ⟨_, rfl⟩
      rw [← hu3] at HFP HFV
      clear hu1 hu2 hu3 hun
      have o1 := J0.out.i.e.g1; have o2 := J0.out.i.e.g2; have o3 := J0.out.i.e.g3; have o4 := J0.out.h3; have o5 := J0.out.k.g1; have o6 := J0.out.k.g2; have o7 := J0.out.k.g3; have o8 := J0.out.k.l.lt
      go_wp2_with fail
      refine (sTail_ok _ _ _ _ _ _ _ _ J0.out.k.s).mono ?_
      rintro e w5 ⟨rfl, hb⟩
      have J5 := Lib.hid (J0.out.below hb)
      clear hb J0
      go_wp2_with fail
      refine (sTail_ok _ _ _ _ _ _ _ _ J5.out.i.e.s).mono ?_
      rintro e w6 ⟨rfl, hb⟩
      have J6 := Lib.hid (J5.out.below hb)
      clear hb J5
      go_wp2_with fail
      refine (HFT.out _ J6.out.k.s).mono ?_
      rintro e w7 ⟨rfl, hb⟩
      have J7 := Lib.hid (J6.out.below hb)
      clear hb J6
      go_wp2_with fail
      refine (HFS.out _ J7.out.i.e.s).mono ?_
      rintro e w8 ⟨rfl, hb⟩
      have J8 := Lib.hid (J7.out.below hb)
      clear hb J7
      go_wp2_with fail
      refine (fHead_ok _ _ _ _ _ _ _ _ J8.out.k.f).mono ?_
      rintro e w9 ⟨rfl, hb⟩
      have J9 := Lib.hid (J8.out.below hb)
      clear hb J8
      go_wp2_with fail
      refine (fHead_ok _ _ _ _ _ _ _ _ J9.out.i.e.f).mono ?_
      rintro e w10 ⟨rfl, hb⟩
      have J10 := Lib.hid (J9.out.below hb)
      clear hb J9
      go_wp2_with fail
      refine (HWU.out _ J10.out.k.f).mono ?_
      rintro e w11 ⟨rfl, hb⟩
      have J11 := Lib.hid (J10.out.below hb)
      clear hb J10
      go_wp2_with fail
      refine (HWF.out _ J11.out.i.e.f).mono ?_
      rintro e w12 ⟨rfl, hb⟩
      have J12 := Lib.hid (J11.out.below hb)
      clear hb J11
      go_wp2_with fail
      refine (HFV.out _ J12.out.k.p).mono ?_
      rintro e w13 ⟨rfl, hb⟩
      have J13 := Lib.hid (J12.out.below hb)
      clear hb J12
      go_wp2_with fail
      refine (HFP.out _ J13.out.i.e.p).mono ?_
      rintro e w14 ⟨rfl, hb⟩
      have J14 := Lib.hid (J13.out.below hb)
      clear hb J13
      go_wp2_with fail
      refine (lSlot_ok _ _ _ _ _ _ _ _ J14.out.k.l).mono ?_
      rintro e w15 ⟨rfl, hb⟩
      have J15 := Lib.hid (J14.out.below hb)
      clear hb J14
      go_wp2_with fail
      refine (lSlot_ok _ _ _ _ _ _ _ _ J15.out.i.e.l).mono ?_
      rintro e w16 ⟨rfl, hb⟩
      have J16 := Lib.hid (J15.out.below hb)
      clear hb J15
      go_wp2_with fail
      refine (sTail_ok _ _ _ _ _ _ _ _ J16.out.k.s).mono ?_
      rintro e w17 ⟨rfl, hb⟩
      have J17 := Lib.hid (J16.out.below hb)
      clear hb J16
      go_wp2_with fail
      refine (fHead_ok _ _ _ _ _ _ _ _ J17.out.k.f).mono ?_
      rintro e w18 ⟨rfl, hb⟩
      have J18 := Lib.hid (J17.out.below hb)
      clear hb J17
      go_wp2_with fail
      refine (HFV.out _ J18.out.k.p).mono ?_
      rintro e w19 ⟨rfl, hb⟩
      have J19 := Lib.hid (J18.out.below hb)
      clear hb J18
      go_wp2_with fail
      refine (lSlot_ok _ _ _ _ _ _ _ _ J19.out.k.l).mono ?_
      rintro e w20 ⟨rfl, hb⟩
      have J20 := Lib.hid (J19.out.below hb)
      clear hb J19
      have HPU := Lib.hid fun w q => sPush_any 91 gs n sh st true c w q HCO.out
      have HPT := Lib.hid fun w q => sPush_any 91 gt n sh st true c w q HCO.out
      have HA1 := Lib.hid (psA_bytes n sh st c)
      obtain ⟨st', hv1⟩ : ∃ z, z = psT n sh st c := ⟨_, rfl⟩
      obtain ⟨A1, hv2⟩ : ∃ z, z = psA n sh st c := ⟨_, rfl⟩
      obtain ⟨at1, hv3⟩ : ∃ z, z = psAt n sh st c := ⟨_, rfl⟩
      obtain ⟨er1, hv4⟩ : ∃ z, z = psEr n sh st c := ⟨_, rfl⟩
      rw [← hv1, ← hv2, ← hv3, ← hv4] at HPU HPT
      rw [← hv2] at HA1
      clear hv1 hv2 hv3 hv4
      have HAS1 := Lib.hid (show (Try.prog.info? 69).map (·.size) = some A1.size by rw [HA1.out.size]; exact size64)
      go_upto_region 23 with (first
        | ((with_reducible show wpList _ _ _ (⟨some 180, _, _, _, _, _⟩ :: _) _ _); refine wpList_loadA rfl J20.out.i.ac 38 (.tmp 6) rfl (by first | rfl | simp [Act.eval, Act.put]) Try.underlying38 rfl size_cmd ?_)
        | (go_at_call 30; refine (HPU.out _ J20.out.i.e.s).mono ?_; rintro e w21 ⟨rfl, hk2, hq2⟩; have J21 := Lib.hid (J20.out.sk hk2 hq2); have HKK := Lib.hid hk2; clear hk2 hq2)
        | ((with_reducible show wpList _ _ _ (⟨some 30, _, _, _, _, _⟩ :: _) _ _); refine wpList_alloc rfl 69 rfl zero64 ?_; rw [show (Value.agg (arr 64 z8)).cells = arr 64 z8 from rfl])
        | ((with_reducible show wpList _ _ _ (⟨none, .store _ (.tmp 30) _, _, _, _, _⟩ :: _) _ _); refine wpList_storeA rfl (b := w21.heap.size) (A := arr 64 z8) (A' := A1) (fr64 w21) 69 (.tmp 30) (.tmp 183) rfl (by simp [Act.eval]) (by simp [Act.eval]) sz64 (by rw [arr_size, HA1.out.size]) HA1.out.one ?_))
      have hk2 := HKK.out
      clear hk2 HKK
      obtain ⟨w21x, hw⟩ : ∃ z, z = (w21.alloc (.cells (arr 64 z8) 69)).setCells w21.heap.size 0 A1.toList := ⟨_, rfl⟩
      rw [← hw]
      obtain ⟨b30, hbk⟩ : ∃ z, z = w21.heap.size := ⟨_, rfl⟩
      have hb : Below w21.heap.size w21 w21x := by rw [hw]; exact set64 _ _
      have p30 : gw < b30 := by rw [hbk]; exact J21.out.k.l.lt
      have J21x := Lib.hid (J21.out.below hb)
      have R30_ := Lib.hid (show ArrAt w21x b30 A1 by rw [hw, hbk]; exact (fr64 w21).store A1 (by rw [arr_size, HA1.out.size]))
      rw [← hbk]
      clear hw hb hbk J21 J20
      have hfh := J21x.out.i.e.f.hh
      go_wp2_with fail
      refine (fHead_ok _ _ _ _ _ _ _ _ J21x.out.i.e.f).mono ?_
      rintro e w22 ⟨rfl, hb⟩
      have J22 := Lib.hid (J21x.out.below hb)
      have R30_19 := Lib.hid (R30_.out.below hb)
      clear R30_
      clear hb J21x
      go_wp2_with fail
      refine (fRing_any _ _ _ _ _ _ _ _ _ J22.out.i.e.f).mono ?_
      rintro e w23 ⟨rfl, hk2, hq2⟩
      have J23 := Lib.hid (J22.out.fk hk2 hq2)
      have R30_20 := Lib.hid (R30_19.out.kept hk2 (fun e => by have e : b30 = gf := e; omega))
      clear R30_19
      clear hk2 hq2 J22
      go_wp2_with fail
      refine (fNext_any _ _ _ _ _ _ _ _ J23.out.i.e.f).mono ?_
      rintro e w24 ⟨rfl, hk2, hq2⟩
      have J24 := Lib.hid (J23.out.fk hk2 hq2)
      have R30_21 := Lib.hid (R30_20.out.kept hk2 (fun e => by have e : b30 = gf := e; omega))
      clear R30_20
      clear hk2 hq2 J23
      have HPO := Lib.hid fun w q => pPost_any 96 gp n ph pt pp d w q HDO.out
      have HPV := Lib.hid fun w q => pPost_any 96 gv n ph pt pp d w q HDO.out
      obtain ⟨pt', hv1⟩ : ∃ z, z = ptT n ph pt d := ⟨_, rfl⟩
      obtain ⟨B, hv2⟩ : ∃ z, z = ptB n ph pt pp d := ⟨_, rfl⟩
      obtain ⟨er, hv3⟩ : ∃ z, z = ptEr n ph pt d := ⟨_, rfl⟩
      obtain ⟨at2, hv5⟩ : ∃ z, z = ptAt n ph pt d := ⟨_, rfl⟩
      have hBd : ∀ j, 0 ≤ B j ∧ B j ≤ 255 := by rw [hv2]; exact ptB_bd n ph pt pp d
      obtain ⟨A2, hv4⟩ : ∃ z, z = arr 16 (fun j => .int .u8 (B j)) := ⟨_, rfl⟩
      rw [ptA_eq, ← hv1, ← hv2, ← hv3, ← hv4, ← hv5] at HPO HPV
      have HA2 := Lib.hid (show BytesA 16 A2 from ⟨B, hv4⟩)
      have HAS2 := Lib.hid (show (Try.prog.info? 44).map (·.size) = some A2.size by rw [HA2.out.size]; exact size16)
      have HPL := Lib.hid fun w q => lPoll_any 98 gl n lh lt lp B w q hBd
      have HPL := Lib.hid fun w q => (by have := HPL.out w q; unfold arrB at this; rw [← hv4] at this; exact this : Calls Try.prog 24 #[.pointer (some ⟨gl, 0, none⟩), .agg A2] w fun e w' => e = .returned (.tuple #[(plC lp B).v, .bool (isNew lp B), .int .i64 (plEr B)]) ∧ Keeps (One gl) w w' ∧ QAt 98 4 w' gl n (plH n lh lp B) lt (plPh n lh lp B))
      clear hv1 hv2 hv3 hv4 hv5 hBd
      go_upto_region 26 with (first
        | ((with_reducible show wpList _ _ _ (⟨some 196, _, _, _, _, _⟩ :: _) _ _); refine wpList_loadA rfl J24.out.i.ad 43 (.tmp 7) rfl (by first | rfl | simp [Act.eval, Act.put]) Try.underlying43 rfl size10 ?_)
        | (go_at_call 38; refine (HPO.out _ J24.out.i.e.p).mono ?_; rintro e w25 ⟨rfl, hk2, hq2⟩; have J25 := Lib.hid (J24.out.pk hk2 hq2); have HKK := Lib.hid hk2; clear hk2 hq2)
        | ((with_reducible show wpList _ _ _ (⟨some 33, _, _, _, _, _⟩ :: _) _ _); refine wpList_alloc rfl 44 rfl zero16 ?_; rw [show (Value.agg (arr 16 z16)).cells = arr 16 z16 from rfl])
        | ((with_reducible show wpList _ _ _ (⟨none, .store _ (.tmp 33) _, _, _, _, _⟩ :: _) _ _); refine wpList_storeA rfl (b := w25.heap.size) (A := arr 16 z16) (A' := A2) (fr16 w25) 44 (.tmp 33) (.tmp 199) rfl (by simp [Act.eval]) (by simp [Act.eval]) sz16 (by rw [arr_size, HA2.out.size]) HA2.out.one ?_))
      have hk2 := HKK.out
      have R30_22 := Lib.hid (R30_21.out.kept hk2 (fun e => by have e : b30 = gp := e; omega))
      clear R30_21
      clear hk2 HKK
      obtain ⟨w25x, hw⟩ : ∃ z, z = (w25.alloc (.cells (arr 16 z16) 44)).setCells w25.heap.size 0 A2.toList := ⟨_, rfl⟩
      rw [← hw]
      obtain ⟨b33, hbk⟩ : ∃ z, z = w25.heap.size := ⟨_, rfl⟩
      have hb : Below w25.heap.size w25 w25x := by rw [hw]; exact set16 _ _
      have p33 : gw < b33 := by rw [hbk]; exact J25.out.k.l.lt
      have J25x := Lib.hid (J25.out.below hb)
      have R30_23 := Lib.hid (R30_22.out.below hb)
      clear R30_22
      have R33_ := Lib.hid (show ArrAt w25x b33 A2 by rw [hw, hbk]; exact (fr16 w25).store A2 (by rw [arr_size, HA2.out.size]))
      rw [← hbk]
      clear hw hb hbk J25 J24
      by_cases he : er = 0
      · have e0 : (er == 0) = true := by simpa using he
        clear he
        go_upto_region 27 with (fail)
        go_upto_region 28 with (first
          | ((with_reducible show wpList _ _ _ (⟨some 204, _, _, _, _, _⟩ :: _) _ _); refine wpList_loadA rfl R33_.out 44 (.tmp 33) rfl (by first | rfl | simp [Act.eval, Act.put]) Try.underlying44 rfl HAS2.out ?_)
          | (go_at_call 24; refine (HPL.out _ J25x.out.i.e.l).mono ?_; rintro e w26 ⟨rfl, hk2, hq2⟩; have J26 := Lib.hid (J25x.out.lk hk2 hq2); have HKK := Lib.hid hk2; clear hk2 hq2))
        have hk2 := HKK.out
        have R30_24 := Lib.hid (R30_23.out.kept hk2 (fun e => by have e : b30 = gl := e; omega))
        clear R30_23
        have R33_24 := Lib.hid (R33_.out.kept hk2 (fun e => by have e : b33 = gl := e; omega))
        clear R33_
        clear hk2 HKK
        go_wp2_with fail
        refine (sTail_ok _ _ _ _ _ _ _ _ J26.out.k.s).mono ?_
        rintro e w27 ⟨rfl, hb⟩
        have J27 := Lib.hid (J26.out.below hb)
        have R30_25 := Lib.hid (R30_24.out.below hb)
        clear R30_24
        have R33_25 := Lib.hid (R33_24.out.below hb)
        clear R33_24
        clear hb J26
        go_wp2_with fail
        refine (fHead_ok _ _ _ _ _ _ _ _ J27.out.k.f).mono ?_
        rintro e w28 ⟨rfl, hb⟩
        have J28 := Lib.hid (J27.out.below hb)
        have R30_26 := Lib.hid (R30_25.out.below hb)
        clear R30_25
        have R33_26 := Lib.hid (R33_25.out.below hb)
        clear R33_25
        clear hb J27
        go_wp2_with fail
        refine (HFV.out _ J28.out.k.p).mono ?_
        rintro e w29 ⟨rfl, hb⟩
        have J29 := Lib.hid (J28.out.below hb)
        have R30_27 := Lib.hid (R30_26.out.below hb)
        clear R30_26
        have R33_27 := Lib.hid (R33_26.out.below hb)
        clear R33_26
        clear hb J28
        go_wp2_with fail
        refine (lSlot_ok _ _ _ _ _ _ _ _ J29.out.k.l).mono ?_
        rintro e w30 ⟨rfl, hb⟩
        have J30 := Lib.hid (J29.out.below hb)
        have R30_28 := Lib.hid (R30_27.out.below hb)
        clear R30_27
        have R33_28 := Lib.hid (R33_27.out.below hb)
        clear R33_27
        clear hb J29
        go_upto_region 31 with (first
          | ((with_reducible show wpList _ _ _ (⟨some 230, _, _, _, _, _⟩ :: _) _ _); refine wpList_loadA rfl J30.out.i.ac 38 (.tmp 6) rfl (by first | rfl | simp [Act.eval, Act.put]) Try.underlying38 rfl size_cmd ?_)
          | (go_at_call 30; refine (HPT.out _ J30.out.k.s).mono ?_; rintro e w31 ⟨rfl, hk2, hq2⟩; have J31 := Lib.hid (J30.out.ts hk2 hq2); have HKK := Lib.hid hk2; clear hk2 hq2)
          | ((with_reducible show wpList _ _ _ (⟨some 36, _, _, _, _, _⟩ :: _) _ _); refine wpList_alloc rfl 69 rfl zero64 ?_; rw [show (Value.agg (arr 64 z8)).cells = arr 64 z8 from rfl])
          | ((with_reducible show wpList _ _ _ (⟨none, .store _ (.tmp 36) _, _, _, _, _⟩ :: _) _ _); refine wpList_storeA rfl (b := w31.heap.size) (A := arr 64 z8) (A' := A1) (fr64 w31) 69 (.tmp 36) (.tmp 233) rfl (by simp [Act.eval]) (by simp [Act.eval]) sz64 (by rw [arr_size, HA1.out.size]) HA1.out.one ?_))
        have hk2 := HKK.out
        have R30_29 := Lib.hid (R30_28.out.kept hk2 (fun e => by have e : b30 = gt := e; omega))
        clear R30_28
        have R33_29 := Lib.hid (R33_28.out.kept hk2 (fun e => by have e : b33 = gt := e; omega))
        clear R33_28
        clear hk2 HKK
        obtain ⟨w31x, hw⟩ : ∃ z, z = (w31.alloc (.cells (arr 64 z8) 69)).setCells w31.heap.size 0 A1.toList := ⟨_, rfl⟩
        rw [← hw]
        obtain ⟨b36, hbk⟩ : ∃ z, z = w31.heap.size := ⟨_, rfl⟩
        have hb : Below w31.heap.size w31 w31x := by rw [hw]; exact set64 _ _
        have p36 : gw < b36 := by rw [hbk]; exact J31.out.k.l.lt
        have J31x := Lib.hid (J31.out.below hb)
        have R30_30 := Lib.hid (R30_29.out.below hb)
        clear R30_29
        have R33_30 := Lib.hid (R33_29.out.below hb)
        clear R33_29
        have R36_ := Lib.hid (show ArrAt w31x b36 A1 by rw [hw, hbk]; exact (fr64 w31).store A1 (by rw [arr_size, HA1.out.size]))
        rw [← hbk]
        clear hw hb hbk J31 J30
        go_upto_region 32 with (first
          | ((with_reducible show wpList _ _ _ (⟨some 237, _, _, _, _, _⟩ :: _) _ _); refine wpList_loadA rfl J31x.out.i.ad 43 (.tmp 7) rfl (by first | rfl | simp [Act.eval, Act.put]) Try.underlying43 rfl size10 ?_)
          | (go_at_call 38; refine (HPV.out _ J31x.out.k.p).mono ?_; rintro e w32 ⟨rfl, hk2, hq2⟩; have J32 := Lib.hid (J31x.out.vs hk2 hq2); have HKK := Lib.hid hk2; clear hk2 hq2)
          | ((with_reducible show wpList _ _ _ (⟨some 39, _, _, _, _, _⟩ :: _) _ _); refine wpList_alloc rfl 44 rfl zero16 ?_; rw [show (Value.agg (arr 16 z16)).cells = arr 16 z16 from rfl])
          | ((with_reducible show wpList _ _ _ (⟨none, .store _ (.tmp 39) _, _, _, _, _⟩ :: _) _ _); refine wpList_storeA rfl (b := w32.heap.size) (A := arr 16 z16) (A' := A2) (fr16 w32) 44 (.tmp 39) (.tmp 240) rfl (by simp [Act.eval]) (by simp [Act.eval]) sz16 (by rw [arr_size, HA2.out.size]) HA2.out.one ?_))
        have hk2 := HKK.out
        have R30_31 := Lib.hid (R30_30.out.kept hk2 (fun e => by have e : b30 = gv := e; omega))
        clear R30_30
        have R33_31 := Lib.hid (R33_30.out.kept hk2 (fun e => by have e : b33 = gv := e; omega))
        clear R33_30
        have R36_31 := Lib.hid (R36_.out.kept hk2 (fun e => by have e : b36 = gv := e; omega))
        clear R36_
        clear hk2 HKK
        obtain ⟨w32x, hw⟩ : ∃ z, z = (w32.alloc (.cells (arr 16 z16) 44)).setCells w32.heap.size 0 A2.toList := ⟨_, rfl⟩
        rw [← hw]
        obtain ⟨b39, hbk⟩ : ∃ z, z = w32.heap.size := ⟨_, rfl⟩
        have hb : Below w32.heap.size w32 w32x := by rw [hw]; exact set16 _ _
        have p39 : gw < b39 := by rw [hbk]; exact J32.out.k.l.lt
        have J32x := Lib.hid (J32.out.below hb)
        have R30_32 := Lib.hid (R30_31.out.below hb)
        clear R30_31
        have R33_32 := Lib.hid (R33_31.out.below hb)
        clear R33_31
        have R36_32 := Lib.hid (R36_31.out.below hb)
        clear R36_31
        have R39_ := Lib.hid (show ArrAt w32x b39 A2 by rw [hw, hbk]; exact (fr16 w32).store A2 (by rw [arr_size, HA2.out.size]))
        rw [← hbk]
        clear hw hb hbk J32 J31x
        have hE1 := fun w => HA1.out.eq64 w
        have hE2 := fun w => HA2.out.eq16 w
        go_wp2_with (first
          | ((with_reducible show wpList _ _ _ (⟨some 246, _, _, _, _, _⟩ :: _) _ _); refine wpList_loadGA (by rfl) R30_32.out 69 (.tmp 30) rfl (by first | rfl | simp [Act.eval, Act.put]) Try.underlying69 rfl HAS1.out ?_)
          | ((with_reducible show wpList _ _ _ (⟨some 247, _, _, _, _, _⟩ :: _) _ _); refine wpList_loadGA (by rfl) R36_32.out 69 (.tmp 36) rfl (by first | rfl | simp [Act.eval, Act.put]) Try.underlying69 rfl HAS1.out ?_)
          | ((with_reducible show wpList _ _ _ (⟨some 261, _, _, _, _, _⟩ :: _) _ _); refine wpList_loadGA (by rfl) R33_32.out 44 (.tmp 33) rfl (by first | rfl | simp [Act.eval, Act.put]) Try.underlying44 rfl HAS2.out ?_)
          | ((with_reducible show wpList _ _ _ (⟨some 262, _, _, _, _, _⟩ :: _) _ _); refine wpList_loadGA (by rfl) R39_.out 44 (.tmp 39) rfl (by first | rfl | simp [Act.eval, Act.put]) Try.underlying44 rfl HAS2.out ?_)
          | (go_at_call 13; refine (known_any _).mono ?_; rintro e w99 ⟨rfl, hb⟩; have HB := Lib.hid (J32x.out.i.e.b.trans (hb.mono J32x.out.i.e.b.size)); clear hb))
        go_ret
        exact ⟨rfl, HB.out⟩
      · have e0 : (er == 0) = false := by simpa using he
        clear he
        go_wp2_with fail
        refine (sTail_ok _ _ _ _ _ _ _ _ J25x.out.k.s).mono ?_
        rintro e w76 ⟨rfl, hb⟩
        have J76 := Lib.hid (J25x.out.below hb)
        have R30_124 := Lib.hid (R30_23.out.below hb)
        clear R30_23
        have R33_124 := Lib.hid (R33_.out.below hb)
        clear R33_
        clear hb J25x
        go_wp2_with fail
        refine (fHead_ok _ _ _ _ _ _ _ _ J76.out.k.f).mono ?_
        rintro e w77 ⟨rfl, hb⟩
        have J77 := Lib.hid (J76.out.below hb)
        have R30_125 := Lib.hid (R30_124.out.below hb)
        clear R30_124
        have R33_125 := Lib.hid (R33_124.out.below hb)
        clear R33_124
        clear hb J76
        go_wp2_with fail
        refine (HFV.out _ J77.out.k.p).mono ?_
        rintro e w78 ⟨rfl, hb⟩
        have J78 := Lib.hid (J77.out.below hb)
        have R30_126 := Lib.hid (R30_125.out.below hb)
        clear R30_125
        have R33_126 := Lib.hid (R33_125.out.below hb)
        clear R33_125
        clear hb J77
        go_wp2_with fail
        refine (lSlot_ok _ _ _ _ _ _ _ _ J78.out.k.l).mono ?_
        rintro e w79 ⟨rfl, hb⟩
        have J79 := Lib.hid (J78.out.below hb)
        have R30_127 := Lib.hid (R30_126.out.below hb)
        clear R30_126
        have R33_127 := Lib.hid (R33_126.out.below hb)
        clear R33_126
        clear hb J78
        go_upto_region 31 with (first
          | ((with_reducible show wpList _ _ _ (⟨some 230, _, _, _, _, _⟩ :: _) _ _); refine wpList_loadA rfl J79.out.i.ac 38 (.tmp 6) rfl (by first | rfl | simp [Act.eval, Act.put]) Try.underlying38 rfl size_cmd ?_)
          | (go_at_call 30; refine (HPT.out _ J79.out.k.s).mono ?_; rintro e w80 ⟨rfl, hk2, hq2⟩; have J80 := Lib.hid (J79.out.ts hk2 hq2); have HKK := Lib.hid hk2; clear hk2 hq2)
          | ((with_reducible show wpList _ _ _ (⟨some 36, _, _, _, _, _⟩ :: _) _ _); refine wpList_alloc rfl 69 rfl zero64 ?_; rw [show (Value.agg (arr 64 z8)).cells = arr 64 z8 from rfl])
          | ((with_reducible show wpList _ _ _ (⟨none, .store _ (.tmp 36) _, _, _, _, _⟩ :: _) _ _); refine wpList_storeA rfl (b := w80.heap.size) (A := arr 64 z8) (A' := A1) (fr64 w80) 69 (.tmp 36) (.tmp 233) rfl (by simp [Act.eval]) (by simp [Act.eval]) sz64 (by rw [arr_size, HA1.out.size]) HA1.out.one ?_))
        have hk2 := HKK.out
        have R30_128 := Lib.hid (R30_127.out.kept hk2 (fun e => by have e : b30 = gt := e; omega))
        clear R30_127
        have R33_128 := Lib.hid (R33_127.out.kept hk2 (fun e => by have e : b33 = gt := e; omega))
        clear R33_127
        clear hk2 HKK
        obtain ⟨w80x, hw⟩ : ∃ z, z = (w80.alloc (.cells (arr 64 z8) 69)).setCells w80.heap.size 0 A1.toList := ⟨_, rfl⟩
        rw [← hw]
        obtain ⟨b36, hbk⟩ : ∃ z, z = w80.heap.size := ⟨_, rfl⟩
        have hb : Below w80.heap.size w80 w80x := by rw [hw]; exact set64 _ _
        have p36 : gw < b36 := by rw [hbk]; exact J80.out.k.l.lt
        have J80x := Lib.hid (J80.out.below hb)
        have R30_129 := Lib.hid (R30_128.out.below hb)
        clear R30_128
        have R33_129 := Lib.hid (R33_128.out.below hb)
        clear R33_128
        have R36_ := Lib.hid (show ArrAt w80x b36 A1 by rw [hw, hbk]; exact (fr64 w80).store A1 (by rw [arr_size, HA1.out.size]))
        rw [← hbk]
        clear hw hb hbk J80 J79
        go_upto_region 32 with (first
          | ((with_reducible show wpList _ _ _ (⟨some 237, _, _, _, _, _⟩ :: _) _ _); refine wpList_loadA rfl J80x.out.i.ad 43 (.tmp 7) rfl (by first | rfl | simp [Act.eval, Act.put]) Try.underlying43 rfl size10 ?_)
          | (go_at_call 38; refine (HPV.out _ J80x.out.k.p).mono ?_; rintro e w81 ⟨rfl, hk2, hq2⟩; have J81 := Lib.hid (J80x.out.vs hk2 hq2); have HKK := Lib.hid hk2; clear hk2 hq2)
          | ((with_reducible show wpList _ _ _ (⟨some 39, _, _, _, _, _⟩ :: _) _ _); refine wpList_alloc rfl 44 rfl zero16 ?_; rw [show (Value.agg (arr 16 z16)).cells = arr 16 z16 from rfl])
          | ((with_reducible show wpList _ _ _ (⟨none, .store _ (.tmp 39) _, _, _, _, _⟩ :: _) _ _); refine wpList_storeA rfl (b := w81.heap.size) (A := arr 16 z16) (A' := A2) (fr16 w81) 44 (.tmp 39) (.tmp 240) rfl (by simp [Act.eval]) (by simp [Act.eval]) sz16 (by rw [arr_size, HA2.out.size]) HA2.out.one ?_))
        have hk2 := HKK.out
        have R30_130 := Lib.hid (R30_129.out.kept hk2 (fun e => by have e : b30 = gv := e; omega))
        clear R30_129
        have R33_130 := Lib.hid (R33_129.out.kept hk2 (fun e => by have e : b33 = gv := e; omega))
        clear R33_129
        have R36_130 := Lib.hid (R36_.out.kept hk2 (fun e => by have e : b36 = gv := e; omega))
        clear R36_
        clear hk2 HKK
        obtain ⟨w81x, hw⟩ : ∃ z, z = (w81.alloc (.cells (arr 16 z16) 44)).setCells w81.heap.size 0 A2.toList := ⟨_, rfl⟩
        rw [← hw]
        obtain ⟨b39, hbk⟩ : ∃ z, z = w81.heap.size := ⟨_, rfl⟩
        have hb : Below w81.heap.size w81 w81x := by rw [hw]; exact set16 _ _
        have p39 : gw < b39 := by rw [hbk]; exact J81.out.k.l.lt
        have J81x := Lib.hid (J81.out.below hb)
        have R30_131 := Lib.hid (R30_130.out.below hb)
        clear R30_130
        have R33_131 := Lib.hid (R33_130.out.below hb)
        clear R33_130
        have R36_131 := Lib.hid (R36_130.out.below hb)
        clear R36_130
        have R39_ := Lib.hid (show ArrAt w81x b39 A2 by rw [hw, hbk]; exact (fr16 w81).store A2 (by rw [arr_size, HA2.out.size]))
        rw [← hbk]
        clear hw hb hbk J81 J80x
        have hE1 := fun w => HA1.out.eq64 w
        have hE2 := fun w => HA2.out.eq16 w
        go_wp2_with (first
          | ((with_reducible show wpList _ _ _ (⟨some 246, _, _, _, _, _⟩ :: _) _ _); refine wpList_loadGA (by rfl) R30_131.out 69 (.tmp 30) rfl (by first | rfl | simp [Act.eval, Act.put]) Try.underlying69 rfl HAS1.out ?_)
          | ((with_reducible show wpList _ _ _ (⟨some 247, _, _, _, _, _⟩ :: _) _ _); refine wpList_loadGA (by rfl) R36_131.out 69 (.tmp 36) rfl (by first | rfl | simp [Act.eval, Act.put]) Try.underlying69 rfl HAS1.out ?_)
          | ((with_reducible show wpList _ _ _ (⟨some 261, _, _, _, _, _⟩ :: _) _ _); refine wpList_loadGA (by rfl) R33_131.out 44 (.tmp 33) rfl (by first | rfl | simp [Act.eval, Act.put]) Try.underlying44 rfl HAS2.out ?_)
          | ((with_reducible show wpList _ _ _ (⟨some 262, _, _, _, _, _⟩ :: _) _ _); refine wpList_loadGA (by rfl) R39_.out 44 (.tmp 39) rfl (by first | rfl | simp [Act.eval, Act.put]) Try.underlying44 rfl HAS2.out ?_)
          | (go_at_call 13; refine (known_any _).mono ?_; rintro e w99 ⟨rfl, hb⟩; have HB := Lib.hid (J81x.out.i.e.b.trans (hb.mono J81x.out.i.e.b.size)); clear hb))
        go_ret
        exact ⟨rfl, HB.out⟩
theorem c_any (size many : Int) (c : Cmd) (d : Cpl) (w : World) (_h1 : (Lit.int .i64 size).wf = true) (_h2 : (Lit.int .i64 many).wf = true) (hc : c.Ok) (hd : d.Ok) :
    Calls Try.prog 9 #[.int .i64 size, .int .i64 many, .agg c.cells, .agg d.cells] w fun e w' => e = .returned (.bool true) ∧ Below w.heap.size w w' := by
  by_cases h : 2 ≤ size ∧ size ≤ 4096
  · obtain ⟨n, rfl⟩ := Int.eq_ofNat_of_zero_le (show 0 ≤ size by omega)
    by_cases hl : 0 ≤ many ∧ many ≤ 50
    · obtain ⟨m, rfl⟩ := Int.eq_ofNat_of_zero_le hl.1
      exact c_main n m c d w (by omega) (by omega) (by omega) hc hd
    · exact c_long n many c d w (by omega) (by omega) (by omega)
  · exact c_bad size many c d w (by omega)
end Go.Proofs.Ytpoeepdpoblfcaa
