/- sort: the keys of a map, one after the other, in some order; collected. -/
import Derived.Test.YtiinjjfggmmkmaaMR
import Derived.Test.YtiinjjfggmmkmaaZA
import Derived.Maps.RangeRun
import Derived.Maps.Range
import Derived.Sort.MapsRangeIn
namespace Go.Proofs.Ytiinjjfggmmkmaa
set_option linter.unusedVariables false
set_option linter.unusedSimpArgs false
open Go.RowKit Go.Shelf
attribute [local go_sem] Oper.semAt_some

/-- A map's entries: each made at a time of its own, before 'clock'. -/
structure EsOk (es : Array MapEntry) (clock : Nat) : Prop where
  nd : (es.toList.map (·.born)).Nodup
  lt : ∀ x ∈ es.toList, x.born < clock

/-- Block r is an iterator over the map in block b; the entries of 'pre' have come. -/
structure MapIt (W : World) (b r : Nat) (es : Array MapEntry) (clock : Nat) (pre : List MapEntry) : Prop where
  map : W.heap[b]? = some (.map es clock)
  it : ∃ c0, clock ≤ c0 ∧ W.heap[r]? = some (.mapIter (some b) clock (pre.map (·.born)).toArray c0)
  sub : ∀ x ∈ pre, x ∈ es.toList
  nd : (pre.map (·.born)).Nodup
namespace MapIt
variable {W W' : World} {b r : Nat} {es : Array MapEntry} {clock : Nat} {pre : List MapEntry}
theorem walks (h : MapIt W b r es clock pre) (k : KeepsWalks W W') : MapIt W' b r es clock pre := by
  obtain ⟨c0, h1, h2⟩ := h.it
  exact ⟨k.same _ _ h.map rfl, ⟨c0, h1, k.same _ _ h2 rfl⟩, h.sub, h.nd⟩
theorem left (h : MapIt W b r es clock pre) : W.rangeLeft b r = (leftOf es (pre.map (·.born)).toArray).size := by
  obtain ⟨c0, h1, h2⟩ := h.it
  unfold World.rangeLeft
  rw [h.map, h2]
theorem ne (h : MapIt W b r es clock pre) : r ≠ b := fun e => by
  obtain ⟨c0, h1, h2⟩ := h.it
  rw [e, h.map] at h2
  cases h2
theorem lt (h : MapIt W b r es clock pre) : r < W.heap.size := by
  obtain ⟨c0, h1, h2⟩ := h.it
  exact lt_of_block h2
theorem walk (h : MapIt W b r es clock pre) : ∃ o : Obj, W.heap[r]? = some o ∧ o.isWalk = true := by
  obtain ⟨c0, h1, h2⟩ := h.it
  exact ⟨_, h2, rfl⟩
end MapIt

theorem nodup_of_born {l : List MapEntry} (h : (l.map (·.born)).Nodup) : l.Nodup := by
  induction l with
  | nil => exact List.nodup_nil
  | cons x l ih =>
    rw [List.map_cons, List.nodup_cons] at h
    exact List.nodup_cons.2 ⟨fun hm => h.1 (List.mem_map_of_mem hm), ih h.2⟩
theorem perm_of_seen {es : Array MapEntry} {clock : Nat} {pre : List MapEntry} (hE : EsOk es clock) (hs : ∀ x ∈ pre, x ∈ es.toList) (hn : (pre.map (·.born)).Nodup) (h0 : (leftOf es (pre.map (·.born)).toArray).size = 0) : pre.Perm es.toList := by
  refine (List.perm_ext_iff_of_nodup (nodup_of_born hn) (nodup_of_born hE.nd)).2 fun x => ⟨hs x, fun hx => ?_⟩
  have := all_seen es _ h0 x hx
  simp at this
  obtain ⟨y, hy, hb⟩ := this
  have e := born_inj hE.nd (hs y hy) hx hb
  exact e ▸ hy
section
variable {P : Program} {F : Fence} {n : Nat} {w : World} {ops : Array Oper} {Q : Exit → Act → World → Prop} {a : Act} {rest : List Oper} {o : Oper}
theorem wpListIn_range_map (hg : o.guard = none) (m : Operand) (t : TypeId) (hop : o.op = Op.range t m) (k e : TypeId) (ht : P.underlying t = some (.map k e)) (b : Nat) (es : Array MapEntry) (clock : Nat) (hm : a.eval m = .map (some b)) (hb : w.heap[b]? = some (.map es clock))
    (h : ∀ w', MapIt w' b w.heap.size es clock [] → w.grownBy w' none → wpListIn F n P ops Q rest (a.put o.dst (.pointer (some ⟨w.heap.size, 0, none⟩))) w') : wpListIn F n P ops Q (o :: rest) a w := by
  refine wpListIn_plain hg fun K' hK' => ?_
  unfold Oper.wpIn
  refine ⟨by simp [Oper.about, hop], ?_⟩
  rw [Oper.semAt_plain F _ _ (by rw [hop]; intro c hc'; cases hc')]
  simp [execOp, hop, hm, run_range_map w t k e b es clock ht hb, Result.andThen]
  refine hK' _ _ (h _ ⟨((MapKept.heap_alloc w _).2 b (lt_of_block hb)).trans hb, ⟨clock, Nat.le_refl _, (MapKept.heap_alloc w _).1⟩, (fun x hx => by cases hx), List.nodup_nil⟩ (World.grownBy_alloc w _ none))
theorem wpListIn_next_map (hg : o.guard = none) (it : Operand) (hop : o.op = Op.next it false) (b r : Nat) (es : Array MapEntry) (clock : Nat) (pre : List MapEntry) (hE : EsOk es clock) (hit : a.eval it = .pointer (some ⟨r, 0, none⟩)) (hM : MapIt w b r es clock pre)
    (hDone : pre.Perm es.toList → wpListIn F n P ops Q rest (a.put o.dst (.tuple #[.bool false])) w)
    (hMore : ∀ (e : MapEntry) (w' : World), e ∈ es.toList → pre.length < es.size → MapIt w' b r es clock (pre ++ [e]) → w'.rangeLeft b r < w.rangeLeft b r → w.grownBy w' (some r) → (Instr.entry (.pointer (some ⟨r, 0, none⟩))).run P w' = .ok (.tuple #[e.key, e.val]) w' →
      wpListIn F n P ops Q rest (a.put o.dst (.tuple #[.bool true, e.key, e.val])) w') : wpListIn F n P ops Q (o :: rest) a w := by
  refine wpListIn_plain hg fun K' hK' => ?_
  unfold Oper.wpIn
  refine ⟨by simp [Oper.about, hop], ?_⟩
  rw [Oper.semAt_plain F _ _ (by rw [hop]; intro c hc'; cases hc')]
  have hne := hM.ne
  have hleft := hM.left
  obtain ⟨hmap, ⟨c0, hc0, hr⟩, hsub, hnd⟩ := hM
  rcases run_next_at (P := P) w o.type r b clock c0 _ es clock hr hmap hE.lt hc0 with ⟨h0, hrun⟩ | ⟨e, he, w1, hal, hrun⟩
  · simp [execOp, hop, hit, hrun, Result.andThen]
    exact hK' _ _ (hDone (perm_of_seen hE hsub hnd h0))
  · obtain ⟨hem, hes⟩ := mem_left he
    have hr1 : w1.heap[r]? = some (.mapIter (some b) clock (pre.map (·.born)).toArray c0) := by rcases hal with rfl | rfl <;> exact hr
    have hb1 : w1.heap[b]? = some (.map es clock) := by rcases hal with rfl | rfl <;> exact hmap
    have hset := MapKept.heap_set (o' := .mapIter (some b) clock ((pre.map (·.born)).toArray.push e.born) clock) hr1
    have hb' := (hset.2 b (fun e1 => hne e1.symm)).trans hb1
    have hpush : (pre.map (·.born)).toArray.push e.born = ((pre ++ [e]).map (·.born)).toArray := by simp
    have hnew : e.born ∉ pre.map (·.born) := by
      intro hm
      have : ((pre.map (·.born)).toArray).contains e.born = true := by simpa using hm
      rw [hes] at this
      cases this
    have hnd' : ((pre ++ [e]).map (·.born)).Nodup := by
      rw [List.map_append, List.nodup_append]
      exact ⟨hnd, by simp, fun x hx y hy => by simp at hy; subst hy; exact fun h => hnew (h ▸ hx)⟩
    have hsub' : ∀ x ∈ pre ++ [e], x ∈ es.toList := by
      intro x hx
      rcases List.mem_append.1 hx with h | h
      · exact hsub x h
      · simp at h; exact h ▸ hem
    have hM' : MapIt (ChangeMaps.setBlock w1 r (.mapIter (some b) clock ((pre.map (·.born)).toArray.push e.born) clock)) b r es clock (pre ++ [e]) :=
      ⟨hb', ⟨clock, Nat.le_refl _, by rw [← hpush]; exact hset.1⟩, hsub', hnd'⟩
    have hlen : pre.length < es.size := by
      have h1 : (pre ++ [e]).length ≤ es.toList.length := by
        have := List.Nodup.length_le_of_subset (nodup_of_born hnd') hsub'
        exact this
      simp at h1
      omega
    obtain ⟨w2, hw2⟩ : ∃ w2, w2 = ChangeMaps.setBlock w1 r (.mapIter (some b) clock ((pre.map (·.born)).toArray.push e.born) clock) := ⟨_, rfl⟩
    have hen := run_entry_at (P := P) w2 r b clock (pre.map (·.born)).toArray es clock e (by rw [hw2]; exact hset.1) (by rw [hw2]; exact hb') hem hE.nd
    have hlt : w2.rangeLeft b r < w.rangeLeft b r := by rw [hw2, hM'.left, hleft, ← hpush]; exact left_shrinks es _ e he
    have hgr : w.grownBy w2 (some r) := by
      rw [hw2]
      rcases hal with rfl | rfl <;> exact ⟨rfl, rfl, rfl, by simp [ChangeMaps.setBlock], fun i _ hi => hset.2 i (fun e1 => hi (by rw [e1]))⟩
    rw [← hw2] at hrun hM'
    clear hw2 hset hb'
    simp [execOp, hop, hit, hrun, Result.andThen]
    exact hK' _ _ (hMore e w2 hem hlen hM' hlt hgr hen)
end

/-- A key that is an integer. -/
def zKey (e : MapEntry) : Int := match e.key with | .int _ z => z | _ => 0

set_option maxRecDepth 100000 in
set_option maxHeartbeats 2000000 in
theorem keys1_stops (n : Nat) (hn : 2 ≤ n) (c b clock : Nat) (es : Array MapEntry) (w : World) (hE : EsOk es clock) (hk : ∀ e ∈ es.toList, e.key = .int .u16 (zKey e)) (hc : w.cell? ⟨c, 0, none⟩ = some (.map (some b))) (hb : w.heap[b]? = some (.map es clock)) :
    SeqStopsK Fence.wide n Try.prog 45 #[.pointer (some ⟨c, 0, none⟩)] (fun z : Int => #[.int .u16 z]) KeepsWalks (fun zs => zs.Perm (es.toList.map zKey)) (fun _ => True) es.size w := fun lb J Jx W hW hJ hJx hY h0 => by
  have hcW : W.cell? ⟨c, 0, none⟩ = some (.map (some b)) := (hW.cell (World.block_lt_of_cell? _ _ hc)).trans hc
  have hbW : W.heap[b]? = some (.map es clock) := (hW.block b (lt_of_block hb)).trans hb
  have HJ := Lib.hid hJ
  have HK := Lib.hid hk
  have HE := Lib.hid hE
  have HB := Lib.hid hbW
  have H0 := Lib.hid h0
  have HY := Lib.hid hY
  clear hc hW hb hJ hk hE hbW h0 hY hJx
  refine callsIn_of_wp Try.func45 rfl trivial ?_ rfl
  simp only [Try.ntmps45, List.size_toArray, List.length_cons, List.length_nil, Nat.reduceAdd, Nat.reduceSub, Array.replicate_succ, Array.replicate_zero, List.push_toArray, List.append_toArray, List.nil_append, List.cons_append]
  gi_wp2_with (first
    | (gi_at_range; refine wpListIn_range_map rfl _ 73 rfl _ _ Try.underlying73 b es clock rfl HB.out ?_; intro w0 hm0 hg0; have M0 := Lib.hid hm0; have G0 := Lib.hid hg0; clear hm0 hg0)
    | gi_in)
  try go_frame
  gi_loopw [3] (fun _ wr => ∃ pre : List MapEntry, MapIt wr b W.heap.size es clock pre ∧ J (pre.map zKey) wr) (fun _ wr => wr.rangeLeft b W.heap.size)
  case atStart => exact ⟨[], M0.out, HJ.out _ _ _ none H0.out G0.out (fun r e => by cases e)⟩
  case round =>
    obtain ⟨pre, hm, hJp⟩ := hrel
    have M := Lib.hid hm
    have JP := Lib.hid hJp
    clear hm hJp M0 G0
    gi_wp2_with (first
      | (gi_at_next; refine wpListIn_next_map rfl _ rfl b W.heap.size es clock pre HE.out rfl M.out ?_ ?_)
      | gi_in)
    · intro hp
      have HP := Lib.hid hp
      clear hp
      gi_wp2
      go_end0
      exact ⟨⟨_, rfl⟩, .inl ⟨_, HP.out.map zKey, JP.out⟩⟩
    · intro e w' he hlen hm' hlt hg hen
      have hJ2 : J (pre.map zKey) w' := HJ.out _ _ _ (some W.heap.size) JP.out hg (fun r e => by cases e; exact ⟨Nat.le_refl _, M.out.walk⟩)
      have hke := HK.out e (by simpa using he)
      rw [hke] at hen ⊢
      have hY1 := HY.out (pre.map zKey) (zKey e) w' hJ2 (by rw [List.length_map]; exact hlen)
      obtain ⟨fn, tmps, assign, body, hy, hR⟩ := hY1
      have LT := Lib.hid hlt
      have M1 := Lib.hid hm'
      clear hlt hm' hg hJ2 hlen
      obtain ⟨z, hz⟩ : ∃ z, z = zKey e := ⟨_, rfl⟩
      rw [← hz] at hen hy hR ⊢
      have HZ := Lib.hid hz
      clear hz hke he
      gi_wp2
      try rw [hy]
      refine ⟨fun _ => by omega, hR.mono ?_⟩
      rintro e2 W' (⟨rfl, hJ', hk'⟩ | ⟨rfl, hJx'⟩)
      · gi_wp2
        refine ⟨⟨pre ++ [e], M1.out.walks hk', by rw [List.map_append, List.map_cons, List.map_nil, ← HZ.out]; exact hJ'⟩, ?_⟩
        rw [(M1.out.walks hk').left, ← M1.out.left]
        exact LT.out
      · gi_wp2
        refine bodyPost_ret (results_none rfl _ _ _) rfl ?_
        exact ⟨⟨_, rfl⟩, .inr ⟨_, trivial, hJx'⟩⟩
end Go.Proofs.Ytiinjjfggmmkmaa
