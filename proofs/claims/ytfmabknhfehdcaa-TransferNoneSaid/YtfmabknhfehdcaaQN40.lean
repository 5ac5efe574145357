/- transfer: the law TransferNone. -/
import Derived.Test.YtfmabknhfehdcaaQN35
import Derived.Test.YtfmabknhfehdcaaQN39
import Derived.Test.YtfmabknhfehdcaaQN38
import Derived.Test.YtfmabknhfehdcaaQN32
namespace Go.Proofs.Ytfmabknhfehdcaa
set_option linter.unusedVariables false
set_option linter.unusedSimpArgs false
open Go.RowKit Go.Shelf

/-- What lies in memory in TransferNone. -/
structure TNo (w : World) (C : Array Value) (q : Option Addr) (S : List (Nat × Array Value)) (W : World) : Prop where
  below : Below w.heap.size w W
  nomem : NoMem W q
  cm : ArrAt W w.heap.size C
  r6 : W.rowIs (w.heap.size + 1) 4 1 (fun _ => .bool false)
  arr : ∀ x ∈ S, ArrAt W x.1 x.2 ∧ w.heap.size ≤ x.1
theorem TNo.quiet {w A B : World} {N : Nat} {C : Array Value} {q : Option Addr} {S : List (Nat × Array Value)} (h : TNo w C q S A) (k : Quiet N A B) (hN : w.heap.size ≤ N) : TNo w C q S B :=
  ⟨k.below h.below hN, k.nomem h.nomem, k.arr h.cm, k.rowIs h.r6, fun x hx => ⟨k.arr (h.arr x hx).1, (h.arr x hx).2⟩⟩
theorem TNo.go {w A B : World} {C : Array Value} {q : Option Addr} {S : List (Nat × Array Value)} (h : TNo w C q S A) (k : Below A.heap.size A B) : TNo w C q S B :=
  ⟨h.below.trans (k.mono h.below.size), h.nomem.below k, h.cm.below k, (Keeps.of_below (S := fun _ => False) k).rowIs h.r6 (fun e => e), fun x hx => ⟨(h.arr x hx).1.below k, (h.arr x hx).2⟩⟩
theorem TNo.var {w A B : World} {C : Array Value} {q : Option Addr} {S : List (Nat × Array Value)} (h : TNo w C q S A) (T : TypeId) {Z X : Array Value} (hz : 0 < Z.size) (hX : X.size = Z.size) (hW : B = (A.alloc (.cells Z T)).setCells A.heap.size 0 X.toList) : TNo w C q ((A.heap.size, X) :: S) B := by
  obtain ⟨hb, ha⟩ := stored_at hz hX hW
  have h' := h.go hb
  refine ⟨h'.below, h'.nomem, h'.cm, h'.r6, fun x hx => ?_⟩
  rcases List.mem_cons.1 hx with rfl | hx
  · exact ⟨ha, h.below.size⟩
  · exact h'.arr x hx
theorem guardCe (i j : Nat) (X Y : Array Value) (w : World) : (eqGuard .eql 28 (.tmp i) (.tmp j) (.agg X) (.agg Y)).run Try.prog w = .ok () w := by kernel_rfl
theorem eqCm0 (w : World) : (binOp .eql 28 (.agg zCm) (.agg zCm)).run Try.prog w = .ok (.bool true) w := Cmv.eqCmd ⟨0, 0, false, 0, 0, 0, 0, 0, 0, 0, 0, 0, 0, 0, 0, 0⟩ w
/-- What the law asks of the functions without a memory. -/
structure NoFacts (C S6 Z : Array Value) (n : Int) : Prop where
  sp : ∀ p W, NoMem W p → Calls Try.prog 24 #[.pointer p, .agg C, .int .i64 n, .bool true] W fun e w' => e = .returned (.tuple #[.slice none 0 0, .agg S6]) ∧ Below W.heap.size W w'
  gm : ∀ p W, NoMem W p → Calls Try.prog 8 #[.pointer p, .agg C, .int .i64 n] W fun e w' => e = .returned (.tuple #[.slice none 0 0, .agg S6]) ∧ Below W.heap.size W w'
  sm : ∀ p W, NoMem W p → Calls Try.prog 13 #[.pointer p, .agg C, .slice none 0 0] W fun e w' => e = .returned (.agg S6) ∧ Below W.heap.size W w'
  sc : ∀ p W, NoMem W p → Calls Try.prog 19 #[.pointer p, .agg C, .slice none 0 0] W fun e w' => e = .returned (.agg S6) ∧ Below W.heap.size W w'
  ga : ∀ p W, NoMem W p → Calls Try.prog 21 #[.pointer p, .agg C, .int .i64 n, .string { data := #[] }, .int .i64 6] W fun e w' => e = .returned (.bool true) ∧ Below W.heap.size W w'
  ea : ∀ p W, NoMem W p → Calls Try.prog 25 #[.pointer p, .agg C, .int .i64 n, .bool true] W fun e w' => ∃ c, e = .returned (.func (.func 52) #[] #[.pointer (some ⟨c, 0, none⟩)]) ∧ W.heap.size ≤ c ∧ Below W.heap.size W w' ∧ w'.cell? ⟨c, 0, none⟩ = some (.slice none 0 0)
  pr : ∀ p W, NoMem W p → Calls Try.prog 17 #[.pointer p, .agg C, .slice none 0 0, .slice none 0 0, .int .i64 0, .int .i64 0] W fun e w' => e = .returned (.tuple #[.agg Z, .int .i64 1]) ∧ Below W.heap.size W w'
  co : ∀ W, Calls Try.prog 11 #[.agg S6, .int .i64 6] W fun e w' => e = .returned (.bool true) ∧ Below W.heap.size W w'
  eq : ∀ W, (binOp .eql 28 (.agg Z) (.agg Z)).run Try.prog W = .ok (.bool true) W
  bu : ∀ W, (Instr.build 28 #[]).run Try.prog W = .ok (.agg Z) W
  s4 : S6.size = 4
  s1 : S6.all (·.oneCell') = true
  z16 : Z.size = 16
  z1 : Z.all (·.oneCell') = true
  cz : C.size = 16
theorem noFacts (c : Cmd) (hc : c.Ok) (n : Int) : NoFacts c.cells (stA 6) zCm n := by
  have h := c.cm hc
  have hV : ∀ p, Mv (#[.pointer p] ++ c.cells) p c.cells := fun p => ⟨h.z, rfl, h.o⟩
  have hsp : ∀ (n : Int) (th : Bool) p W, NoMem W p → ∀ W', Below W.heap.size W W' → Calls Try.prog 46 #[.agg (#[.pointer p] ++ c.cells), .int .i64 n, .bool th] W' (MsPost W' (.error 6)) := fun n th p W hp W' hb => tspans_none _ c.cells n th p W' (hV p) (hp.below hb)
  have hme : ∀ (n : Int) p W, NoMem W p → ∀ W', Below W.heap.size W W' → Calls Try.prog 30 #[.agg (#[.pointer p] ++ c.cells), .int .i64 n] W' (MePost W' 6) := fun n p W hp W' hb => tmeta_none _ c.cells n p W' (hV p) (hp.below hb)
  have hSp : ∀ p W, NoMem W p → Calls Try.prog 24 #[.pointer p, .agg c.cells, .int .i64 n, .bool true] W fun e w' => e = .returned (.tuple #[.slice none 0 0, .agg (stA 6)]) ∧ Below W.heap.size W w' := fun p W hp =>
    (trSpans_of p c.cells n true (.error 6) W h.z (hsp n true p W hp)).mono fun e w' hq => ⟨hq.2, hq.1⟩
  refine ⟨hSp, fun p W hp => ?_, fun p W hp => ?_, fun p W hp => ?_, fun p W hp => ?_, fun p W hp => ?_, fun p W hp => prep_none p c.cells W hp h.z, fun W => ?_, eqCm0, build_cm0, rfl, stA_one 6, rfl, zCm_one, h.z⟩
  · refine (tgm_of p c.cells c.mt n 6 (fun _ => 0) W h.z h.o h.g7 (hme n p W hp) (fun e => by cases e) (fun W _ e => by cases e)).mono fun e w' hq => ?_
    unfold TgmPost at hq
    rw [if_pos (by decide)] at hq
    exact ⟨hq.2, hq.1⟩
  · refine (tsm_of p c.cells c.mt 6 none 0 0 (fun _ => False) (fun _ => True) W h.z h.o h.g7 (by decide) (hme 0 p W hp) (fun j e => e.elim) (fun W _ e => by cases e) (fun _ _ _ _ => trivial)).mono fun e w' hq => ?_
    unfold TsmPost at hq
    rw [if_pos (by decide)] at hq
    exact hq
  · exact ts_none p c.cells none 0 0 6 W h.z h.o (by omega) (hsp 0 true p W hp)
  · exact gath_of p c.cells n (fun _ => 0) (.error 6) W h.z (fun x e => by cases e; omega) (fun W' hb => tg_none p c.cells n 6 _ W' h.z h.o (hsp n false p W' (hp.below hb)))
  · exact treach_none p c.cells n true W h.z fun W' hb => (hSp p W' (hp.below hb)).mono fun e w' hq => ⟨_, hq.1, rfl, stA_one 6, hq.2⟩
  · exact code_any 6 (by omega) (by omega) W
set_option maxRecDepth 100000 in
set_option maxHeartbeats 16000000 in
theorem noneLaw_nil (C S6 Z : Array Value) (n : Int) (w : World) (hF : NoFacts C S6 Z n) :
    Calls Try.prog 5 #[.agg C, .int .i64 n, .bool false] w fun e w' => e = .returned (.bool true) ∧ Below w.heap.size w w' := by
  have NF := Lib.hid hF
  have HCZ := Lib.hid (show (Try.prog.info? 28).map (·.size) = some C.size by rw [hF.cz]; exact sizeCm)
  have HZZ := Lib.hid (show (Try.prog.info? 28).map (·.size) = some Z.size by rw [hF.z16]; exact sizeCm)
  have HSZ := Lib.hid (show (Try.prog.info? 38).map (·.size) = some S6.size by rw [hF.s4]; exact sizeSt)
  clear hF
  refine calls_marks Try.func5 rfl ?_
  simp only [Try.ntmps5, List.size_toArray, List.length_cons, List.length_nil, Nat.reduceAdd, Nat.reduceSub, Array.replicate_succ, Array.replicate_zero, List.push_toArray, List.append_toArray, List.nil_append, List.cons_append]
  go_upto_region 4 with fail
  obtain ⟨W0, hW⟩ : ∃ z, z = (w.alloc (.cells C 28)).alloc (.cells #[.bool false] 4) := ⟨_, rfl⟩
  rw [← hW]
  have b0 : Below w.heap.size w W0 := by rw [hW]; exact (((Below.refl _ _).alloc (Nat.le_refl _) _).alloc (by simp) _)
  have r3 : ArrAt W0 w.heap.size C := by rw [hW]; exact ((ArrAt.fresh w C _ (by rw [NF.out.cz]; omega)).alloc _)
  have r6 : W0.rowIs (w.heap.size + 1) 4 1 (fun _ => .bool false) := by
    rw [hW]
    have h := World.rowIs_alloc (w.alloc (.cells C 28)) #[.bool false] 4 (fun _ => .bool false) (fun i hi => by simp at hi; subst hi; rfl)
    simp only [World.size_alloc, List.size_toArray, List.length_cons, List.length_nil, Nat.zero_add] at h
    exact h
  have hq : NoMem W0 none := .inl rfl
  obtain ⟨q, hqq⟩ : ∃ q : Option Addr, q = none := ⟨_, rfl⟩
  rw [← hqq] at hq ⊢
  clear hqq
  have I0 := Lib.hid (show TNo w C q [] W0 from ⟨b0, hq, r3, r6, fun x hx => by cases hx⟩)
  clear hW b0 r3 r6 hq
  go_upto_region 5 with (first
    | ((with_reducible show wpList _ _ _ (⟨some 20, _, _, _, _, _⟩ :: _) _ _); refine wpList_loadA rfl I0.out.cm 28 (.tmp 3) rfl (by first | rfl | simp [Act.eval, Act.put]) Try.underlying28 rfl HCZ.out ?_)
    | (go_at_call 24; refine (NF.out.sp q _ I0.out.nomem).mono ?_; rintro e w_b1 ⟨rfl, hb⟩; have I0' := Lib.hid (I0.out.go hb); have HF_b1 := Lib.hid (ArrAt.fresh w_b1 st0 38 (by decide)); clear hb)
    | ((with_reducible show wpList _ _ _ (⟨some 9, _, _, _, _, _⟩ :: _) _ _); refine wpList_alloc rfl 38 rfl zeroSt ?_; rw [show (Value.agg st0).cells = st0 from rfl])
    | ((with_reducible show wpList _ _ _ (⟨none, .store _ _ _, _, _, _, _⟩ :: _) _ _); refine wpList_storeA rfl (b := w_b1.heap.size) (A := st0) (A' := S6) HF_b1.out 38 (.tmp 9) (.tmp 24) rfl (by simp [Act.eval, Act.put]) (by simp [Act.eval, Act.put]) sizeSt (by rw [NF.out.s4]; rfl) NF.out.s1 ?_))
  obtain ⟨W_b1, hW⟩ : ∃ z, z = (w_b1.alloc (.cells st0 38)).setCells w_b1.heap.size 0 S6.toList := ⟨_, rfl⟩
  rw [← hW]
  have I1 := Lib.hid (I0'.out.var 38 (Z := st0) (X := S6) (by decide) (by rw [NF.out.s4]; rfl) hW)
  obtain ⟨b1, hblk⟩ : ∃ z, z = w_b1.heap.size := ⟨_, rfl⟩
  rw [← hblk] at I1 ⊢
  clear hW hblk I0 I0' HF_b1
  go_upto_region 6 with (first
    | ((with_reducible show wpList _ _ _ (⟨some 27, _, _, _, _, _⟩ :: _) _ _); refine wpList_loadA rfl I1.out.cm 28 (.tmp 3) rfl (by first | rfl | simp [Act.eval, Act.put]) Try.underlying28 rfl HCZ.out ?_)
    | (go_at_call 8; refine (NF.out.gm q _ I1.out.nomem).mono ?_; rintro e w_b2 ⟨rfl, hb⟩; have I1' := Lib.hid (I1.out.go hb); have HF_b2 := Lib.hid (ArrAt.fresh w_b2 st0 38 (by decide)); clear hb)
    | ((with_reducible show wpList _ _ _ (⟨some 11, _, _, _, _, _⟩ :: _) _ _); refine wpList_alloc rfl 38 rfl zeroSt ?_; rw [show (Value.agg st0).cells = st0 from rfl])
    | ((with_reducible show wpList _ _ _ (⟨none, .store _ _ _, _, _, _, _⟩ :: _) _ _); refine wpList_storeA rfl (b := w_b2.heap.size) (A := st0) (A' := S6) HF_b2.out 38 (.tmp 11) (.tmp 31) rfl (by simp [Act.eval, Act.put]) (by simp [Act.eval, Act.put]) sizeSt (by rw [NF.out.s4]; rfl) NF.out.s1 ?_))
  obtain ⟨W_b2, hW⟩ : ∃ z, z = (w_b2.alloc (.cells st0 38)).setCells w_b2.heap.size 0 S6.toList := ⟨_, rfl⟩
  rw [← hW]
  have I2 := Lib.hid (I1'.out.var 38 (Z := st0) (X := S6) (by decide) (by rw [NF.out.s4]; rfl) hW)
  obtain ⟨b2, hblk⟩ : ∃ z, z = w_b2.heap.size := ⟨_, rfl⟩
  rw [← hblk] at I2 ⊢
  clear hW hblk I1 I1' HF_b2
  go_upto_region 7 with (first
    | ((with_reducible show wpList _ _ _ (⟨some 34, _, _, _, _, _⟩ :: _) _ _); refine wpList_loadA rfl I2.out.cm 28 (.tmp 3) rfl (by first | rfl | simp [Act.eval, Act.put]) Try.underlying28 rfl HCZ.out ?_)
    | (go_at_call 17; refine (NF.out.pr q _ I2.out.nomem).mono ?_; rintro e w_b3 ⟨rfl, hb⟩; have I2' := Lib.hid (I2.out.go hb); have HF_b3 := Lib.hid (ArrAt.fresh w_b3 zCm 28 (by decide)); clear hb)
    | ((with_reducible show wpList _ _ _ (⟨some 12, _, _, _, _, _⟩ :: _) _ _); refine wpList_alloc rfl 28 rfl zeroCm ?_; rw [show (Value.agg zCm).cells = zCm from rfl])
    | ((with_reducible show wpList _ _ _ (⟨none, .store _ _ _, _, _, _, _⟩ :: _) _ _); refine wpList_storeA rfl (b := w_b3.heap.size) (A := zCm) (A' := Z) HF_b3.out 28 (.tmp 12) (.tmp 36) rfl (by simp [Act.eval, Act.put]) (by simp [Act.eval, Act.put]) sizeCm (by rw [NF.out.z16]; rfl) NF.out.z1 ?_))
  obtain ⟨W_b3, hW⟩ : ∃ z, z = (w_b3.alloc (.cells zCm 28)).setCells w_b3.heap.size 0 Z.toList := ⟨_, rfl⟩
  rw [← hW]
  have I3 := Lib.hid (I2'.out.var 28 (Z := zCm) (X := Z) (by decide) (by rw [NF.out.z16]; rfl) hW)
  obtain ⟨b3, hblk⟩ : ∃ z, z = w_b3.heap.size := ⟨_, rfl⟩
  rw [← hblk] at I3 ⊢
  clear hW hblk I2 I2' HF_b3
  go_upto_region 8 with (first
    | ((with_reducible show wpList _ _ _ (⟨some 39, _, _, _, _, _⟩ :: _) _ _); refine wpList_loadA rfl I3.out.cm 28 (.tmp 3) rfl (by first | rfl | simp [Act.eval, Act.put]) Try.underlying28 rfl HCZ.out ?_)
    | (go_at_call 25; refine (NF.out.ea q _ I3.out.nomem).mono ?_; rintro e W2 ⟨c, rfl, hc0, hb, hcell⟩; have I4 := Lib.hid (I3.out.go hb); have HCE := Lib.hid hcell; have hbs := hb.size; clear hb hcell))
  go_wp2_with fail
  have hst := Lib.hid (treach1_none 8 (by omega) c W2 HCE.out)
  have hw2 : w.heap.size ≤ W2.heap.size := I4.out.below.size
  clear I3 HCE
  refine wp_range (gf := 52) (lb := #[.pointer (some ⟨c, 0, none⟩)]) rfl (enters_of Try.func52 (by kernel_rfl) rfl) hst.out
    (fun h k g o e => (k g o e).trans (h g o e)) (fun W l o o' hl _ _ _ g o2 e => by cases e) (fun _ => rfl)
    (fun _ W => TNo w C q [(b3, Z), (b2, S6), (b1, S6)] W) (fun _ _ _ => False)
    (own_of fun s A B hs hq => hs.quiet hq (by omega))
    (fun cd => own_of fun s A B hs hq => hs)
    I4.out (fun _ _ _ => True) (fun _ _ => own_of fun s A B hs hq => trivial) ?assign ?body ?done ?stop
  case assign =>
    intro l pre x W K hI hK
    have HI := Lib.hid hI
    have HK := Lib.hid hK
    clear hI hK
    gi_wp2
    exact HK.out _ _ (KeepsFrom.of_keeps (Keeps.refl (fun _ => False) _) (fun _ h => h.elim)) (fun _ _ _ => rfl) HI.out trivial
  case body =>
    intro l pre x a' W hl hr hI hA hlen
    exact absurd hlen (by simp)
  case stop =>
    intro D' cd pre W hD hp hX
    exact hX.elim
  case done =>
    rintro D' xs W hD - hI hK
    have J0 := Lib.hid hI
    have K0 := Lib.hid hK
    clear hI hK
    go_wp2_with (first
      | (go_at_call 7; refine (works_a _).mono ?_; rintro e v8 ⟨rfl, hb⟩; have J8 := Lib.hid (J7.out.go hb); have K8 := Lib.hid ((hb.block D' (lt_of_block K7.out)).trans K7.out); have e6 := J8.out.r6.cell (i := 0) (by omega); have ef := J8.out.r6.frozen 0; clear hb)
      | ((with_reducible show wpList _ _ _ (⟨some 87, _, _, _, _, _⟩ :: _) _ _); refine wpList_valG (by rfl) (v := .bool true) (exec_eql 28 (.tmp 85) (.tmp 86) _ rfl _ _ rfl rfl (guardCe _ _ _ _ _) (NF.out.eq _)) ?_)
      | ((with_reducible show wpList _ _ _ (⟨some 86, _, _, _, _, _⟩ :: _) _ _); refine wpList_build0G (by rfl) 28 rfl (NF.out.bu _) ?_)
      | ((with_reducible show wpList _ _ _ (⟨some 85, _, _, _, _, _⟩ :: _) _ _); refine wpList_loadAG (by rfl) (J7.out.arr (b3, Z) (by simp)).1 28 (.tmp 12) rfl (by first | rfl | simp [Act.eval, Act.put]) Try.underlying28 rfl HZZ.out ?_)
      | (go_at_call 20; refine (num16_any _ _).mono ?_; rintro e w' ⟨rfl, rfl⟩)
      | (go_at_call 11; refine (NF.out.co _).mono ?_; rintro e v7 ⟨rfl, hb⟩; have J7 := Lib.hid (J6.out.go hb); have K7 := Lib.hid ((hb.block D' (lt_of_block K6.out)).trans K6.out); clear hb)
      | (go_at_call 13; refine (NF.out.sm q _ J5.out.nomem).mono ?_; rintro e v6 ⟨rfl, hb⟩; have J6 := Lib.hid (J5.out.go hb); have K6 := Lib.hid ((hb.block D' (lt_of_block K5.out)).trans K5.out); clear hb)
      | ((with_reducible show wpList _ _ _ (⟨some 75, _, _, _, _, _⟩ :: _) _ _); refine wpList_loadAG (by rfl) J5.out.cm 28 (.tmp 3) rfl (by first | rfl | simp [Act.eval, Act.put]) Try.underlying28 rfl HCZ.out ?_)
      | (go_at_call 11; refine (NF.out.co _).mono ?_; rintro e v5 ⟨rfl, hb⟩; have J5 := Lib.hid (J4.out.go hb); have K5 := Lib.hid ((hb.block D' (lt_of_block K4.out)).trans K4.out); clear hb)
      | (go_at_call 19; refine (NF.out.sc q _ J3.out.nomem).mono ?_; rintro e v4 ⟨rfl, hb⟩; have J4 := Lib.hid (J3.out.go hb); have K4 := Lib.hid ((hb.block D' (lt_of_block K3.out)).trans K3.out); clear hb)
      | ((with_reducible show wpList _ _ _ (⟨some 69, _, _, _, _, _⟩ :: _) _ _); refine wpList_loadAG (by rfl) J3.out.cm 28 (.tmp 3) rfl (by first | rfl | simp [Act.eval, Act.put]) Try.underlying28 rfl HCZ.out ?_)
      | (go_at_call 21; refine (NF.out.ga q _ J2.out.nomem).mono ?_; rintro e v3 ⟨rfl, hb⟩; have J3 := Lib.hid (J2.out.go hb); have K3 := Lib.hid ((hb.block D' (lt_of_block K2.out)).trans K2.out); clear hb)
      | ((with_reducible show wpList _ _ _ (⟨some 63, _, _, _, _, _⟩ :: _) _ _); refine wpList_loadAG (by rfl) J2.out.cm 28 (.tmp 3) rfl (by first | rfl | simp [Act.eval, Act.put]) Try.underlying28 rfl HCZ.out ?_)
      | (go_at_call 11; refine (NF.out.co _).mono ?_; rintro e v2 ⟨rfl, hb⟩; have J2 := Lib.hid (J1.out.go hb); have K2 := Lib.hid ((hb.block D' (lt_of_block K1.out)).trans K1.out); clear hb)
      | ((with_reducible show wpList _ _ _ (⟨some 58, _, _, _, _, _⟩ :: _) _ _); refine wpList_loadAG (by rfl) (J1.out.arr (b2, S6) (by simp)).1 38 (.tmp 11) rfl (by first | rfl | simp [Act.eval, Act.put]) Try.underlying38 rfl HSZ.out ?_)
      | (go_at_call 11; refine (NF.out.co _).mono ?_; rintro e v1 ⟨rfl, hb⟩; have J1 := Lib.hid (J0.out.go hb); have K1 := Lib.hid ((hb.block D' (lt_of_block K0.out)).trans K0.out); clear hb)
      | ((with_reducible show wpList _ _ _ (⟨some 54, _, _, _, _, _⟩ :: _) _ _); refine wpList_loadAG (by rfl) (J0.out.arr (b1, S6) (by simp)).1 38 (.tmp 9) rfl (by first | rfl | simp [Act.eval, Act.put]) Try.underlying38 rfl HSZ.out ?_))
    have HF := Lib.hid (res_end (w := w) (r := w.heap.size + 1) (D := D') J8.out.below (by omega) (by omega) (by rw [e6]; rfl) K8.out)
    obtain ⟨f1, f2, f3⟩ := HF.out
    refine ⟨by simp, .inl ⟨_, _, rfl, run_takeDeferred f1, ?_⟩⟩
    refine ⟨.bool true, ?_, rfl, f3⟩
    simp [results, Try.f5, go_sem, f2]
set_option maxRecDepth 100000 in
set_option maxHeartbeats 16000000 in
theorem noneLaw_zero (C S6 Z : Array Value) (n : Int) (w : World) (hF : NoFacts C S6 Z n) :
    Calls Try.prog 5 #[.agg C, .int .i64 n, .bool true] w fun e w' => e = .returned (.bool true) ∧ Below w.heap.size w w' := by
  have NF := Lib.hid hF
  have HCZ := Lib.hid (show (Try.prog.info? 28).map (·.size) = some C.size by rw [hF.cz]; exact sizeCm)
  have HZZ := Lib.hid (show (Try.prog.info? 28).map (·.size) = some Z.size by rw [hF.z16]; exact sizeCm)
  have HSZ := Lib.hid (show (Try.prog.info? 38).map (·.size) = some S6.size by rw [hF.s4]; exact sizeSt)
  clear hF
  refine calls_marks Try.func5 rfl ?_
  simp only [Try.ntmps5, List.size_toArray, List.length_cons, List.length_nil, Nat.reduceAdd, Nat.reduceSub, Array.replicate_succ, Array.replicate_zero, List.push_toArray, List.append_toArray, List.nil_append, List.cons_append]
  go_upto_region 4 with ((with_reducible show wpList _ _ _ (⟨some 16, _, _, _, _, _⟩ :: _) _ _); refine wpList_build0 rfl 74 rfl (build_mm0 _) ?_)
  obtain ⟨W0, hW⟩ : ∃ z, z = ((w.alloc (.cells C 28)).alloc (.cells #[.bool false] 4)).alloc (.cells (zjl ++ [Value.slice none 0 0]).toArray 74) := ⟨_, rfl⟩
  rw [← hW]
  have b0 : Below w.heap.size w W0 := by rw [hW]; exact (((Below.refl _ _).alloc (Nat.le_refl _) _).alloc (by simp) _).alloc (by simp; omega) _
  have r3 : ArrAt W0 w.heap.size C := by rw [hW]; exact ((ArrAt.fresh w C _ (by rw [NF.out.cz]; omega)).alloc _).alloc _
  have r6 : W0.rowIs (w.heap.size + 1) 4 1 (fun _ => .bool false) := by
    rw [hW]
    have h := World.rowIs_alloc (w.alloc (.cells C 28)) #[.bool false] 4 (fun _ => .bool false) (fun i hi => by simp at hi; subst hi; rfl)
    simp only [World.size_alloc, List.size_toArray, List.length_cons, List.length_nil, Nat.zero_add] at h
    exact h.alloc _
  have hq : NoMem W0 (some ⟨w.heap.size + 1 + 1, 0, none⟩) := by
    refine .inr ⟨_, 0, 0, rfl, ?_⟩
    rw [hW]
    have h := (ArrAt.fresh ((w.alloc (.cells C 28)).alloc (.cells #[.bool false] 4)) (zjl ++ [Value.slice none 0 0]).toArray 74 (by simp)).cell (i := 769) (v := .slice none 0 0) (by
      have : (zjl ++ [Value.slice none 0 0]).toArray[769]? = (zjl ++ [Value.slice none 0 0])[769]? := by simp
      rw [this, List.getElem?_append_right (by rw [zjl_length]; omega), zjl_length]; rfl)
    simpa using h
  obtain ⟨q, hqq⟩ : ∃ q : Option Addr, q = some ⟨w.heap.size + 1 + 1, 0, none⟩ := ⟨_, rfl⟩
  rw [← hqq] at hq ⊢
  clear hqq
  have I0 := Lib.hid (show TNo w C q [] W0 from ⟨b0, hq, r3, r6, fun x hx => by cases hx⟩)
  clear hW b0 r3 r6 hq
  go_upto_region 5 with (first
    | ((with_reducible show wpList _ _ _ (⟨some 20, _, _, _, _, _⟩ :: _) _ _); refine wpList_loadA rfl I0.out.cm 28 (.tmp 3) rfl (by first | rfl | simp [Act.eval, Act.put]) Try.underlying28 rfl HCZ.out ?_)
    | (go_at_call 24; refine (NF.out.sp q _ I0.out.nomem).mono ?_; rintro e w_b1 ⟨rfl, hb⟩; have I0' := Lib.hid (I0.out.go hb); have HF_b1 := Lib.hid (ArrAt.fresh w_b1 st0 38 (by decide)); clear hb)
    | ((with_reducible show wpList _ _ _ (⟨some 9, _, _, _, _, _⟩ :: _) _ _); refine wpList_alloc rfl 38 rfl zeroSt ?_; rw [show (Value.agg st0).cells = st0 from rfl])
    | ((with_reducible show wpList _ _ _ (⟨none, .store _ _ _, _, _, _, _⟩ :: _) _ _); refine wpList_storeA rfl (b := w_b1.heap.size) (A := st0) (A' := S6) HF_b1.out 38 (.tmp 9) (.tmp 24) rfl (by simp [Act.eval, Act.put]) (by simp [Act.eval, Act.put]) sizeSt (by rw [NF.out.s4]; rfl) NF.out.s1 ?_))
  obtain ⟨W_b1, hW⟩ : ∃ z, z = (w_b1.alloc (.cells st0 38)).setCells w_b1.heap.size 0 S6.toList := ⟨_, rfl⟩
  rw [← hW]
  have I1 := Lib.hid (I0'.out.var 38 (Z := st0) (X := S6) (by decide) (by rw [NF.out.s4]; rfl) hW)
  obtain ⟨b1, hblk⟩ : ∃ z, z = w_b1.heap.size := ⟨_, rfl⟩
  rw [← hblk] at I1 ⊢
  clear hW hblk I0 I0' HF_b1
  go_upto_region 6 with (first
    | ((with_reducible show wpList _ _ _ (⟨some 27, _, _, _, _, _⟩ :: _) _ _); refine wpList_loadA rfl I1.out.cm 28 (.tmp 3) rfl (by first | rfl | simp [Act.eval, Act.put]) Try.underlying28 rfl HCZ.out ?_)
    | (go_at_call 8; refine (NF.out.gm q _ I1.out.nomem).mono ?_; rintro e w_b2 ⟨rfl, hb⟩; have I1' := Lib.hid (I1.out.go hb); have HF_b2 := Lib.hid (ArrAt.fresh w_b2 st0 38 (by decide)); clear hb)
    | ((with_reducible show wpList _ _ _ (⟨some 11, _, _, _, _, _⟩ :: _) _ _); refine wpList_alloc rfl 38 rfl zeroSt ?_; rw [show (Value.agg st0).cells = st0 from rfl])
    | ((with_reducible show wpList _ _ _ (⟨none, .store _ _ _, _, _, _, _⟩ :: _) _ _); refine wpList_storeA rfl (b := w_b2.heap.size) (A := st0) (A' := S6) HF_b2.out 38 (.tmp 11) (.tmp 31) rfl (by simp [Act.eval, Act.put]) (by simp [Act.eval, Act.put]) sizeSt (by rw [NF.out.s4]; rfl) NF.out.s1 ?_))
  obtain ⟨W_b2, hW⟩ : ∃ z, z = (w_b2.alloc (.cells st0 38)).setCells w_b2.heap.size 0 S6.toList := ⟨_, rfl⟩
  rw [← hW]
  have I2 := Lib.hid (I1'.out.var 38 (Z := st0) (X := S6) (by decide) (by rw [NF.out.s4]; rfl) hW)
  obtain ⟨b2, hblk⟩ : ∃ z, z = w_b2.heap.size := ⟨_, rfl⟩
  rw [← hblk] at I2 ⊢
  clear hW hblk I1 I1' HF_b2
  go_upto_region 7 with (first
    | ((with_reducible show wpList _ _ _ (⟨some 34, _, _, _, _, _⟩ :: _) _ _); refine wpList_loadA rfl I2.out.cm 28 (.tmp 3) rfl (by first | rfl | simp [Act.eval, Act.put]) Try.underlying28 rfl HCZ.out ?_)
    | (go_at_call 17; refine (NF.out.pr q _ I2.out.nomem).mono ?_; rintro e w_b3 ⟨rfl, hb⟩; have I2' := Lib.hid (I2.out.go hb); have HF_b3 := Lib.hid (ArrAt.fresh w_b3 zCm 28 (by decide)); clear hb)
    | ((with_reducible show wpList _ _ _ (⟨some 12, _, _, _, _, _⟩ :: _) _ _); refine wpList_alloc rfl 28 rfl zeroCm ?_; rw [show (Value.agg zCm).cells = zCm from rfl])
    | ((with_reducible show wpList _ _ _ (⟨none, .store _ _ _, _, _, _, _⟩ :: _) _ _); refine wpList_storeA rfl (b := w_b3.heap.size) (A := zCm) (A' := Z) HF_b3.out 28 (.tmp 12) (.tmp 36) rfl (by simp [Act.eval, Act.put]) (by simp [Act.eval, Act.put]) sizeCm (by rw [NF.out.z16]; rfl) NF.out.z1 ?_))
  obtain ⟨W_b3, hW⟩ : ∃ z, z = (w_b3.alloc (.cells zCm 28)).setCells w_b3.heap.size 0 Z.toList := ⟨_, rfl⟩
  rw [← hW]
  have I3 := Lib.hid (I2'.out.var 28 (Z := zCm) (X := Z) (by decide) (by rw [NF.out.z16]; rfl) hW)
  obtain ⟨b3, hblk⟩ : ∃ z, z = w_b3.heap.size := ⟨_, rfl⟩
  rw [← hblk] at I3 ⊢
  clear hW hblk I2 I2' HF_b3
  go_upto_region 8 with (first
    | ((with_reducible show wpList _ _ _ (⟨some 39, _, _, _, _, _⟩ :: _) _ _); refine wpList_loadA rfl I3.out.cm 28 (.tmp 3) rfl (by first | rfl | simp [Act.eval, Act.put]) Try.underlying28 rfl HCZ.out ?_)
    | (go_at_call 25; refine (NF.out.ea q _ I3.out.nomem).mono ?_; rintro e W2 ⟨c, rfl, hc0, hb, hcell⟩; have I4 := Lib.hid (I3.out.go hb); have HCE := Lib.hid hcell; have hbs := hb.size; clear hb hcell))
  go_wp2_with fail
  have hst := Lib.hid (treach1_none 8 (by omega) c W2 HCE.out)
  have hw2 : w.heap.size ≤ W2.heap.size := I4.out.below.size
  clear I3 HCE
  refine wp_range (gf := 52) (lb := #[.pointer (some ⟨c, 0, none⟩)]) rfl (enters_of Try.func52 (by kernel_rfl) rfl) hst.out
    (fun h k g o e => (k g o e).trans (h g o e)) (fun W l o o' hl _ _ _ g o2 e => by cases e) (fun _ => rfl)
    (fun _ W => TNo w C q [(b3, Z), (b2, S6), (b1, S6)] W) (fun _ _ _ => False)
    (own_of fun s A B hs hq => hs.quiet hq (by omega))
    (fun cd => own_of fun s A B hs hq => hs)
    I4.out (fun _ _ _ => True) (fun _ _ => own_of fun s A B hs hq => trivial) ?assign ?body ?done ?stop
  case assign =>
    intro l pre x W K hI hK
    have HI := Lib.hid hI
    have HK := Lib.hid hK
    clear hI hK
    gi_wp2
    exact HK.out _ _ (KeepsFrom.of_keeps (Keeps.refl (fun _ => False) _) (fun _ h => h.elim)) (fun _ _ _ => rfl) HI.out trivial
  case body =>
    intro l pre x a' W hl hr hI hA hlen
    exact absurd hlen (by simp)
  case stop =>
    intro D' cd pre W hD hp hX
    exact hX.elim
  case done =>
    rintro D' xs W hD - hI hK
    have J0 := Lib.hid hI
    have K0 := Lib.hid hK
    clear hI hK
    go_wp2_with (first
      | (go_at_call 7; refine (works_a _).mono ?_; rintro e v8 ⟨rfl, hb⟩; have J8 := Lib.hid (J7.out.go hb); have K8 := Lib.hid ((hb.block D' (lt_of_block K7.out)).trans K7.out); have e6 := J8.out.r6.cell (i := 0) (by omega); have ef := J8.out.r6.frozen 0; clear hb)
      | ((with_reducible show wpList _ _ _ (⟨some 87, _, _, _, _, _⟩ :: _) _ _); refine wpList_valG (by rfl) (v := .bool true) (exec_eql 28 (.tmp 85) (.tmp 86) _ rfl _ _ rfl rfl (guardCe _ _ _ _ _) (NF.out.eq _)) ?_)
      | ((with_reducible show wpList _ _ _ (⟨some 86, _, _, _, _, _⟩ :: _) _ _); refine wpList_build0G (by rfl) 28 rfl (NF.out.bu _) ?_)
      | ((with_reducible show wpList _ _ _ (⟨some 85, _, _, _, _, _⟩ :: _) _ _); refine wpList_loadAG (by rfl) (J7.out.arr (b3, Z) (by simp)).1 28 (.tmp 12) rfl (by first | rfl | simp [Act.eval, Act.put]) Try.underlying28 rfl HZZ.out ?_)
      | (go_at_call 20; refine (num16_any _ _).mono ?_; rintro e w' ⟨rfl, rfl⟩)
      | (go_at_call 11; refine (NF.out.co _).mono ?_; rintro e v7 ⟨rfl, hb⟩; have J7 := Lib.hid (J6.out.go hb); have K7 := Lib.hid ((hb.block D' (lt_of_block K6.out)).trans K6.out); clear hb)
      | (go_at_call 13; refine (NF.out.sm q _ J5.out.nomem).mono ?_; rintro e v6 ⟨rfl, hb⟩; have J6 := Lib.hid (J5.out.go hb); have K6 := Lib.hid ((hb.block D' (lt_of_block K5.out)).trans K5.out); clear hb)
      | ((with_reducible show wpList _ _ _ (⟨some 75, _, _, _, _, _⟩ :: _) _ _); refine wpList_loadAG (by rfl) J5.out.cm 28 (.tmp 3) rfl (by first | rfl | simp [Act.eval, Act.put]) Try.underlying28 rfl HCZ.out ?_)
      | (go_at_call 11; refine (NF.out.co _).mono ?_; rintro e v5 ⟨rfl, hb⟩; have J5 := Lib.hid (J4.out.go hb); have K5 := Lib.hid ((hb.block D' (lt_of_block K4.out)).trans K4.out); clear hb)
      | (go_at_call 19; refine (NF.out.sc q _ J3.out.nomem).mono ?_; rintro e v4 ⟨rfl, hb⟩; have J4 := Lib.hid (J3.out.go hb); have K4 := Lib.hid ((hb.block D' (lt_of_block K3.out)).trans K3.out); clear hb)
      | ((with_reducible show wpList _ _ _ (⟨some 69, _, _, _, _, _⟩ :: _) _ _); refine wpList_loadAG (by rfl) J3.out.cm 28 (.tmp 3) rfl (by first | rfl | simp [Act.eval, Act.put]) Try.underlying28 rfl HCZ.out ?_)
      | (go_at_call 21; refine (NF.out.ga q _ J2.out.nomem).mono ?_; rintro e v3 ⟨rfl, hb⟩; have J3 := Lib.hid (J2.out.go hb); have K3 := Lib.hid ((hb.block D' (lt_of_block K2.out)).trans K2.out); clear hb)
      | ((with_reducible show wpList _ _ _ (⟨some 63, _, _, _, _, _⟩ :: _) _ _); refine wpList_loadAG (by rfl) J2.out.cm 28 (.tmp 3) rfl (by first | rfl | simp [Act.eval, Act.put]) Try.underlying28 rfl HCZ.out ?_)
      | (go_at_call 11; refine (NF.out.co _).mono ?_; rintro e v2 ⟨rfl, hb⟩; have J2 := Lib.hid (J1.out.go hb); have K2 := Lib.hid ((hb.block D' (lt_of_block K1.out)).trans K1.out); clear hb)
      | ((with_reducible show wpList _ _ _ (⟨some 58, _, _, _, _, _⟩ :: _) _ _); refine wpList_loadAG (by rfl) (J1.out.arr (b2, S6) (by simp)).1 38 (.tmp 11) rfl (by first | rfl | simp [Act.eval, Act.put]) Try.underlying38 rfl HSZ.out ?_)
      | (go_at_call 11; refine (NF.out.co _).mono ?_; rintro e v1 ⟨rfl, hb⟩; have J1 := Lib.hid (J0.out.go hb); have K1 := Lib.hid ((hb.block D' (lt_of_block K0.out)).trans K0.out); clear hb)
      | ((with_reducible show wpList _ _ _ (⟨some 54, _, _, _, _, _⟩ :: _) _ _); refine wpList_loadAG (by rfl) (J0.out.arr (b1, S6) (by simp)).1 38 (.tmp 9) rfl (by first | rfl | simp [Act.eval, Act.put]) Try.underlying38 rfl HSZ.out ?_))
    have HF := Lib.hid (res_end (w := w) (r := w.heap.size + 1) (D := D') J8.out.below (by omega) (by omega) (by rw [e6]; rfl) K8.out)
    obtain ⟨f1, f2, f3⟩ := HF.out
    refine ⟨by simp, .inl ⟨_, _, rfl, run_takeDeferred f1, ?_⟩⟩
    refine ⟨.bool true, ?_, rfl, f3⟩
    simp [results, Try.f5, go_sem, f2]
theorem noneLaw (c : Cmd) (n : Int) (zero : Bool) (w : World) (hc : c.Ok) (_ : (Lit.int .i64 n).wf = true) :
    Calls Try.prog 5 #[c.v, .int .i64 n, .bool zero] w fun e w' => e = .returned (.bool true) ∧ Below w.heap.size w w' := by
  cases zero
  · exact noneLaw_nil _ _ _ n w (noFacts c hc n)
  · exact noneLaw_zero _ _ _ n w (noFacts c hc n)
end Go.Proofs.Ytfmabknhfehdcaa
