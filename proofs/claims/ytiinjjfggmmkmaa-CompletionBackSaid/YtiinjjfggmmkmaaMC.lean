/- completion: maps.Copy. -/
import Derived.Test.YtiinjjfggmmkmaaMp
import Derived.LoopTactic
namespace Go.Proofs.Ytiinjjfggmmkmaa
set_option linter.unusedVariables false
set_option linter.unusedSimpArgs false
open Go.RowKit Go.MapKept Go.Shelf

theorem MapIt.keeps {S : Nat → Prop} {W W' : World} {b r : Nat} {es : Array MapEntry} {clock : Nat} {pre : List MapEntry} (h : MapIt W b r es clock pre) (k : Keeps S W W') (h1 : ¬ S b) (h2 : ¬ S r) : MapIt W' b r es clock pre := by
  obtain ⟨c0, e1, e2⟩ := h.it
  exact ⟨(k.block b (lt_of_block h.map) h1).trans h.map, ⟨c0, e1, (k.block r (lt_of_block e2) h2).trans e2⟩, h.sub, h.nd⟩

section
variable {P : Program} {w : World} {ops : Array Oper} {Q : Exit → Act → World → Prop} {a : Act} {rest : List Oper} {o : Oper}
theorem wpList_range_map (hg : o.guard = none) (m : Operand) (t : TypeId) (hop : o.op = Op.range t m) (k e : TypeId) (ht : P.underlying t = some (.map k e)) (b : Nat) (es : Array MapEntry) (clock : Nat) (hm : a.eval m = .map (some b)) (hb : w.heap[b]? = some (.map es clock))
    (h : ∀ w', MapIt w' b w.heap.size es clock [] → w.grownBy w' none → wpList P ops Q rest (a.put o.dst (.pointer (some ⟨w.heap.size, 0, none⟩))) w') : wpList P ops Q (o :: rest) a w := by
  refine wpList_plain hg fun K' hK' => ?_
  unfold Oper.wp
  simp [execOp, hop, hm, run_range_map w t k e b es clock ht hb, Result.andThen]
  refine hK' _ _ (h _ ⟨((MapKept.heap_alloc w _).2 b (lt_of_block hb)).trans hb, ⟨clock, Nat.le_refl _, (MapKept.heap_alloc w _).1⟩, (fun x hx => by cases hx), List.nodup_nil⟩ (World.grownBy_alloc w _ none))
theorem wpList_next_map (hg : o.guard = none) (it : Operand) (hop : o.op = Op.next it false) (b r : Nat) (es : Array MapEntry) (clock : Nat) (pre : List MapEntry) (hE : EsOk es clock) (hit : a.eval it = .pointer (some ⟨r, 0, none⟩)) (hM : MapIt w b r es clock pre)
    (hDone : pre.Perm es.toList → wpList P ops Q rest (a.put o.dst (.tuple #[.bool false])) w)
    (hMore : ∀ (e : MapEntry) (w' : World), e ∈ es.toList → pre.length < es.size → MapIt w' b r es clock (pre ++ [e]) → w'.rangeLeft b r < w.rangeLeft b r → w.grownBy w' (some r) → (Instr.entry (.pointer (some ⟨r, 0, none⟩))).run P w' = .ok (.tuple #[e.key, e.val]) w' →
      wpList P ops Q rest (a.put o.dst (.tuple #[.bool true, e.key, e.val])) w') : wpList P ops Q (o :: rest) a w := by
  refine wpList_plain hg fun K' hK' => ?_
  unfold Oper.wp
  have hne := hM.ne
  have hleft := hM.left
  obtain ⟨hmap, ⟨c0, hc0, hr⟩, hsub, hnd⟩ := hM
  rcases run_next_at (P := P) w o.type r b clock c0 _ es clock hr hmap hE.lt hc0 with ⟨h0, hrun⟩ | ⟨e, he, w1, hal, hrun⟩
  · simp [execOp, hop, hit, hrun, Result.andThen]
    exact hK' _ _ (hDone (perm_of_seen hE hsub hnd h0))
  · obtain ⟨hem, hes⟩ := mem_left he
    have hr1 : w1.heap[r]? = some (.mapIter (some b) clock (pre.map (·.born)).toArray c0) := by rcases hal with rfl | rfl <;> exact hr
    have hb1 : w1.heap[b]? = some (.map es clock) := by rcases hal with rfl | rfl <;> exact hmap
    have hset := MapKept.heap_set (o' := .mapIter (some b) clock ((pre.map (·.born)).toArray.push e.born) clock) hr1
    have hb' := (hset.2 b (fun e1 => hne e1.symm)).trans hb1
    have hpush : (pre.map (·.born)).toArray.push e.born = ((pre ++ [e]).map (·.born)).toArray := by simp
    have hnew : e.born ∉ pre.map (·.born) := by
      intro hm
      have : ((pre.map (·.born)).toArray).contains e.born = true := by simpa using hm
      rw [hes] at this
      cases this
    have hnd' : ((pre ++ [e]).map (·.born)).Nodup := by
      rw [List.map_append, List.nodup_append]
      exact ⟨hnd, by simp, fun x hx y hy => by simp at hy; subst hy; exact fun h => hnew (h ▸ hx)⟩
    have hsub' : ∀ x ∈ pre ++ [e], x ∈ es.toList := by
      intro x hx
      rcases List.mem_append.1 hx with h | h
      · exact hsub x h
      · simp at h; exact h ▸ hem
    have hM' : MapIt (ChangeMaps.setBlock w1 r (.mapIter (some b) clock ((pre.map (·.born)).toArray.push e.born) clock)) b r es clock (pre ++ [e]) :=
      ⟨hb', ⟨clock, Nat.le_refl _, by rw [← hpush]; exact hset.1⟩, hsub', hnd'⟩
    have hlen : pre.length < es.size := by
      have h1 : (pre ++ [e]).length ≤ es.toList.length := by
        have := List.Nodup.length_le_of_subset (nodup_of_born hnd') hsub'
        exact this
      simp at h1
      omega
    obtain ⟨w2, hw2⟩ : ∃ w2, w2 = ChangeMaps.setBlock w1 r (.mapIter (some b) clock ((pre.map (·.born)).toArray.push e.born) clock) := ⟨_, rfl⟩
    have hen := run_entry_at (P := P) w2 r b clock (pre.map (·.born)).toArray es clock e (by rw [hw2]; exact hset.1) (by rw [hw2]; exact hb') hem hE.nd
    have hlt : w2.rangeLeft b r < w.rangeLeft b r := by rw [hw2, hM'.left, hleft, ← hpush]; exact left_shrinks es _ e he
    have hgr : w.grownBy w2 (some r) := by
      rw [hw2]
      rcases hal with rfl | rfl <;> exact ⟨rfl, rfl, rfl, by simp [ChangeMaps.setBlock], fun i _ hi => hset.2 i (fun e1 => hi (by rw [e1]))⟩
    rw [← hw2] at hrun hM'
    clear hw2 hset hb'
    simp [execOp, hop, hit, hrun, Result.andThen]
    exact hK' _ _ (hMore e w2 hem hlen hM' hlt hgr hen)
/-- A store under a new key. -/
theorem wpList_put_mp {t kt et : TypeId} {q : IntKind} {r : Nat} {kv : List (Int × Value)} (hg : o.guard = none) (m x v : Operand) (hop : o.op = .mapUpdate t m x v) (ht : P.underlying t = some (.map kt et)) (hk : P.underlying kt = some (.int q)) (h : MapIs q w r kv) (k : Int) (u : Value) (hm : a.eval m = .map (some r)) (hx : a.eval x = .int q k) (hv : a.eval v = u)
    (hn : k ∉ kv.map (·.1)) (hK : ∀ w', MapIs q w' r (kv ++ [(k, u)]) → Keeps (One r) w w' → wpList P ops Q rest (a.put o.dst undef) w') : wpList P ops Q (o :: rest) a w := by
  refine wpList_plain hg fun K hK' => ?_
  obtain ⟨w', hrun, hM, hkp⟩ := h.put_new ht hk hn u
  unfold Oper.wp
  simp [execOp, hop, hm, hx, hv, hrun, Result.andThen]
  exact hK' _ _ (hK w' hM hkp)
end

def kvOf (l : List MapEntry) : List (Int × Value) := l.map fun x => (zKey x, x.val)
theorem kv_new {es : Array MapEntry} {clock : Nat} {pre : List MapEntry} {e : MapEntry} {kv1 kv2 : List (Int × Value)} (h1 : Stamped es clock) (h2 : ∀ x ∈ es.toList, x.key = .int .u16 (zKey x)) (hp : (kvOf es.toList).Perm kv2)
    (hd : ∀ p ∈ kv2, p.1 ∉ kv1.map (·.1)) (hs : ∀ x ∈ pre ++ [e], x ∈ es.toList) (hn : ((pre ++ [e]).map (·.born)).Nodup) : zKey e ∉ (kv1 ++ kvOf pre).map (·.1) := by
  have he : e ∈ es.toList := hs e (by simp)
  intro hm
  rw [List.map_append, List.mem_append] at hm
  rcases hm with hm | hm
  · exact hd (zKey e, e.val) (hp.mem_iff.1 (List.mem_map.2 ⟨e, he, rfl⟩)) hm
  · obtain ⟨p, hp1, hp2⟩ := List.mem_map.1 hm
    obtain ⟨x, hx, rfl⟩ := List.mem_map.1 hp1
    have hxe := hs x (by simp [hx])
    have hk : x.key = e.key := by rw [h2 x hxe, h2 e he]; exact congrArg _ hp2
    have := entry_eq_of_key (List.pairwise_map.1 h1.2.2) hxe he hk
    subst this
    rw [List.map_append, List.nodup_append] at hn
    exact hn.2.2 _ (List.mem_map_of_mem hx) _ (by simp) rfl

set_option maxRecDepth 100000 in
set_option maxHeartbeats 2000000 in
theorem copy_any (bd bs : Nat) (kv1 kv2 : List (Int × Value)) (w : World) (h1 : MapIs .u16 w bd kv1) (h2 : MapIs .u16 w bs kv2) (hne : bd ≠ bs) (hd : ∀ p ∈ kv2, p.1 ∉ kv1.map (·.1)) :
    Calls Try.prog 46 #[.map (some bd), .map (some bs)] w fun e w' => e = .returned (.tuple #[]) ∧ MapIs .u16 w' bd (kv1 ++ kv2) ∧ Keeps (One bd) w w' := by
  have hbd := h1.lt
  obtain ⟨es, clock, hb, hst, hk, hp⟩ := h2
  have hbs := lt_of_block hb
  have HB := Lib.hid hb
  have HE := Lib.hid (show EsOk es clock from ⟨hst.2.1, hst.1⟩)
  have HK := Lib.hid hk
  have H1 := Lib.hid h1
  have HNE := Lib.hid hne
  have HNEW := Lib.hid (show ∀ pre e, (∀ x ∈ pre ++ [e], x ∈ es.toList) → ((pre ++ [e]).map (·.born)).Nodup → zKey e ∉ (kv1 ++ kvOf pre).map (·.1) from fun pre e hs hn => kv_new hst hk hp hd hs hn)
  have HP := Lib.hid hp
  clear h1 hb hst hk hp hd hne
  go_enter Try.func46, Try.ntmps46
  go_wp2_with ((with_reducible show wpList _ _ _ (⟨some 7, _, _, _, _, _⟩ :: _) _ _); refine wpList_range_map rfl _ 73 rfl _ _ Try.underlying73 bs es clock rfl HB.out ?_; intro w0 hm0 hg0; have M0 := Lib.hid hm0; have G0 := Lib.hid hg0; clear hm0 hg0)
  try go_frame
  have hk0 : Keeps (One bd) w w0 := ⟨G0.out.os, G0.out.tape, G0.out.output, G0.out.size, fun k hk _ => G0.out.block k hk (fun e => by cases e)⟩
  have K0 := Lib.hid hk0
  have D0 := Lib.hid (H1.out.same (G0.out.block bd hbd (fun e => by cases e)))
  clear hk0 G0
  go_loopw [4, 5] (fun _ _ wr => ∃ pre : List MapEntry, MapIt wr bs w.heap.size es clock pre ∧ MapIs .u16 wr bd (kv1 ++ kvOf pre) ∧ Keeps (One bd) w wr) (fun _ _ wr => wr.rangeLeft bs w.heap.size)
  case atStart => exact ⟨[], M0.out, by simpa [kvOf] using D0.out, K0.out⟩
  case round =>
    obtain ⟨pre, hm, hd, hkp⟩ := hrel
    have M := Lib.hid hm
    have D := Lib.hid hd
    have K := Lib.hid hkp
    clear hm hd hkp M0 D0 K0
    go_wp2_with ((with_reducible show wpList _ _ _ (⟨some 8, _, _, _, _, _⟩ :: _) _ _); refine wpList_next_map rfl _ rfl bs w.heap.size es clock pre HE.out rfl M.out ?_ ?_)
    · intro hpe
      have HPE := Lib.hid hpe
      clear hpe
      go_wp2_with fail
      go_end0
      refine ⟨rfl, ?_, K.out⟩
      refine D.out.perm (List.Perm.append_left _ ?_)
      exact (HPE.out.map _).trans HP.out
    · intro e w' he hlen hm' hlt hg hen
      have hke := HK.out e (by simpa using he)
      have hn := HNEW.out pre e hm'.sub hm'.nd
      have hd' : MapIs .u16 w' bd (kv1 ++ kvOf pre) := D.out.same (hg.block bd D.out.lt (fun e => by cases e; omega))
      have hk' : Keeps (fun j => j = bd ∨ j = w.heap.size) w w' := (K.out.mono fun _ _ h => .inl h).trans ⟨hg.os, hg.tape, hg.output, hg.size, fun k hk hS => hg.block k hk (fun e => hS (by cases e; exact .inr rfl))⟩
      rw [hke] at hen ⊢
      obtain ⟨z, hz⟩ : ∃ z, z = zKey e := ⟨_, rfl⟩
      obtain ⟨u, hu⟩ : ∃ u, u = e.val := ⟨_, rfl⟩
      rw [← hz] at hen hn ⊢
      rw [← hu] at hen ⊢
      have HN := Lib.hid hn
      have D1 := Lib.hid hd'
      have K1 := Lib.hid hk'
      have M1 := Lib.hid hm'
      have LT := Lib.hid hlt
      have HZ := Lib.hid hz
      have HU := Lib.hid hu
      clear hn hd' hk' hm' hlt hg hke hz hu he hlen M D K
      go_wp2_with ((with_reducible show wpList _ _ _ (⟨none, .mapUpdate _ _ _ _, _, _, _, _⟩ :: _) _ _); refine wpList_put_mp rfl _ _ _ rfl Try.underlying73 Try.underlying26 D1.out z u rfl rfl rfl HN.out ?_; intro w2 hm2 hk2; have D2 := Lib.hid hm2; have K2 := Lib.hid hk2; clear hm2 hk2)
      go_roundw
      case rel =>
        have hM2 := M1.out.keeps K2.out (fun e => HNE.out (by have e : bs = bd := e; exact e.symm)) (fun e => by have e : w.heap.size = bd := e; omega)
        have r1 : MapIs .u16 w2 bd (kv1 ++ kvOf (pre ++ [e])) := by
          have h := D2.out
          rw [List.append_assoc] at h
          unfold kvOf
          rw [List.map_append, List.map_cons, List.map_nil, ← HZ.out, ← HU.out]
          exact h
        have r2 : Keeps (One bd) w w2 := (K1.out.trans (K2.out.mono fun _ _ e => .inl e)).mono (T := One bd) (fun k hk e => e.elim id (fun e => by omega))
        first
          | exact ⟨pre ++ [e], hM2, r1, r2⟩
          | ((repeat apply Exists.intro); exact ⟨⟨pre ++ [e], hM2, r1, r2⟩, rfl⟩)
      case measure =>
        have hM2 := M1.out.keeps K2.out (fun e => HNE.out (by have e : bs = bd := e; exact e.symm)) (fun e => by have e : w.heap.size = bd := e; omega)
        have := LT.out
        rw [M1.out.left, ← hM2.left] at this
        exact this
end Go.Proofs.Ytiinjjfggmmkmaa
