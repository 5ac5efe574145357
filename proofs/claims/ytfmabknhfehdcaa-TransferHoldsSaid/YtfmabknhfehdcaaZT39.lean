/- transfer: the chapter's examples: what they compute. -/
import Derived.Test.YtfmabknhfehdcaaZT37
import Derived.Test.YtfmabknhfehdcaaZT10
namespace Go.Proofs.Ytfmabknhfehdcaa
set_option linter.unusedVariables false
set_option linter.unusedSimpArgs false
open Go.RowKit

/-- a plain command; a command with a list -/
def cC (x y : Int) : Array Value := #[.int .u8 0, .int .u8 0, .bool false, .int .u16 0, .int .u32 0, .int .u32 0, .int .u32 0, .int .u64 0, .int .u64 x, .int .u64 y, .int .u32 0, .int .u32 0, .int .u32 0, .int .u32 0, .int .u32 0, .int .u32 0]
def cD (m x y : Int) : Array Value := #[.int .u8 0, .int .u8 0, .bool true, .int .u16 0, .int .u32 0, .int .u32 0, .int .u32 0, .int .u64 m, .int .u64 x, .int .u64 y, .int .u32 0, .int .u32 0, .int .u32 0, .int .u32 0, .int .u32 0, .int .u32 0]
theorem cC_cm (x y : Int) (hx : 0 ≤ x ∧ x ≤ 18446744073709551615) (hy : 0 ≤ y ∧ y ≤ 18446744073709551615) : Cm (cC x y) false 0 x y := ⟨rfl, by simp [cC, Value.oneCell'], rfl, rfl, rfl, rfl, by omega, hx, hy⟩
theorem cD_cm (m x y : Int) (hm : 0 ≤ m ∧ m ≤ 18446744073709551615) (hx : 0 ≤ x ∧ x ≤ 18446744073709551615) (hy : 0 ≤ y ∧ y ≤ 18446744073709551615) : Cm (cD m x y) true m x y := ⟨rfl, by simp [cD, Value.oneCell'], rfl, rfl, rfl, rfl, hm, hx, hy⟩
theorem build2W (x y : Int) (w : World) : (Instr.build 25 #[(0, .int .u64 x), (1, .int .u64 y)]).run Try.prog w = .ok (.agg #[.int .u64 x, .int .u64 y]) w := by kernel_rfl
theorem buildCC (x y : Int) (w : World) : (Instr.build 28 #[(8, .agg #[.int .u64 x, .int .u64 y])]).run Try.prog w = .ok (.agg (cC x y)) w := by kernel_rfl
theorem buildCD (x y : Int) (w : World) : (Instr.build 28 #[(2, .bool true), (8, .agg #[.int .u64 x, .int .u64 y])]).run Try.prog w = .ok (.agg (cD 0 x y)) w := by kernel_rfl
/-- bytes by their number -/
def gB (L : List Int) (i : Nat) : Int := L.getD i 0
def wl6 : List Int := [97, 98, 99, 100, 101, 102]
def wl5 : List Int := [104, 101, 108, 108, 111]
def wF1 : Nat → Int := scatF (gB wl6) [⟨4092, 4, false⟩, ⟨8192, 2, false⟩] 0 (fun _ => 0)
def wF2 : Nat → Int := scatF (gB wl5) [⟨100, 5, false⟩] 0 wF1
theorem bytes_gB (L : List Int) (h : ∀ x ∈ L, 0 ≤ x ∧ x ≤ 255) : Bytes (gB L) := fun i => by
  unfold gB
  by_cases hi : i < L.length
  · simp only [List.getD_eq_getElem?_getD, List.getElem?_eq_getElem hi, Option.getD_some]
    exact h _ (List.getElem_mem hi)
  · simp only [List.getD_eq_getElem?_getD, List.getElem?_eq_none (Nat.le_of_not_lt hi), Option.getD_none]
    omega
theorem bytes_wF1 : Bytes wF1 := bytes_scat (bytes_gB _ (by simp [wl6])) _ _ _ bytes0
theorem bytes_wF2 : Bytes wF2 := bytes_scat (bytes_gB _ (by simp [wl5])) _ _ _ bytes_wF1
theorem tw1 (f : Nat → Int) : dataT f 16384 false 4092 8192 6 true = .ok [⟨4092, 4, false⟩, ⟨8192, 2, false⟩] := by rfl
theorem tw2 (f : Nat → Int) : dataT f 16384 false 4092 8192 5 false = .ok [⟨4092, 4, false⟩, ⟨8192, 1, false⟩] := by rfl
theorem tw3 (f : Nat → Int) : dataT f 16384 false 4093 8192 6 true = .error 19 := by rfl
theorem tw4 (f : Nat → Int) : dataT f 16384 false 4092 8193 6 true = .error 19 := by rfl
theorem tw5 (f : Nat → Int) : dataT f 16384 true 100 5 5 true = .ok [⟨100, 5, false⟩] := by rfl
theorem tw6 (f : Nat → Int) : dataT f 16384 true 100 5 6 false = .error 15 := by rfl
theorem tw7 (f : Nat → Int) : dataT f 16384 true 100 72057594037927941 1 false = .error 17 := by rfl
theorem tw8 (f : Nat → Int) : dataT f 16384 true 100 5 3 true = .ok [⟨100, 3, false⟩] := by rfl
theorem tw9 : metaT 16384 6 1 = 2 := by rfl
theorem tw10 : metaT 16384 6 0 = 0 := by rfl
theorem tw11 : gWant wF1 (.ok [⟨4092, 4, false⟩, ⟨8192, 1, false⟩]) = ⟨#[97, 98, 99, 100, 101]⟩ := by rfl
theorem tw12 : strOf 2 (fun i => wF1 (8192 + i)) = ⟨#[101, 102]⟩ := by rfl
/-- What holds while the examples run: nothing older is touched; the memory; arrays that lie whole. -/
structure TWk (w : World) (b B : Nat) (F : Nat → Int) (n : Nat) (S : List (Nat × Array Value)) (W : World) : Prop where
  below : Below w.heap.size w W
  mem : ∃ L, L.length ≤ n ∧ MemAt W b B 16384 F L
  bl : w.heap.size ≤ b
  Bl : w.heap.size ≤ B
  arr : ∀ x ∈ S, ArrAt W x.1 x.2 ∧ x.1 ≠ b ∧ x.1 ≠ B ∧ w.heap.size ≤ x.1
namespace TWk
variable {w W W' : World} {b B n n' : Nat} {F F' : Nat → Int} {S : List (Nat × Array Value)}
theorem go (h : TWk w b B F n S W) (hb : Below W.heap.size W W') : TWk w b B F n S W' := by
  obtain ⟨L, h1, h2⟩ := h.mem
  exact ⟨h.below.trans (hb.mono h.below.size), ⟨L, h1, h2.below hb⟩, h.bl, h.Bl, fun x hx => ⟨(h.arr x hx).1.below hb, (h.arr x hx).2⟩⟩
theorem two (h : TWk w b B F n S W) {T : Nat → Prop} (k : Keeps T W W') (hT : ∀ j, T j → w.heap.size ≤ j) : Below w.heap.size w W' := h.below.trans (k.below h.below.size (fun j hj e => by have := hT j e; omega))
theorem put (h : TWk w b B F n S W) (k : Keeps (Two b B) W W') (hm : ∃ L, L.length ≤ n' ∧ MemAt W' b B 16384 F' L) : TWk w b B F' n' S W' :=
  ⟨h.two k (fun j e => by have := h.bl; have := h.Bl; rcases e with e | e <;> omega), hm, h.bl, h.Bl, fun x hx => ⟨(h.arr x hx).1.kept k (fun e => by have := (h.arr x hx).2; rcases e with e | e <;> omega), (h.arr x hx).2⟩⟩
theorem add (h : TWk w b B F n S W) {g : Nat} {A : Array Value} (ha : ArrAt W g A) (h1 : w.heap.size ≤ g) (h2 : g ≠ b) (h3 : g ≠ B) : TWk w b B F n ((g, A) :: S) W :=
  ⟨h.below, h.mem, h.bl, h.Bl, fun x hx => by
    rcases List.mem_cons.1 hx with rfl | hx
    · exact ⟨ha, h2, h3, h1⟩
    · exact h.arr x hx⟩
/-- A new array. -/
theorem var (h : TWk w b B F n S W) (T : TypeId) {Z A : Array Value} (hz : 0 < Z.size) (hA : A.size = Z.size) (hW : W' = (W.alloc (.cells Z T)).setCells W.heap.size 0 A.toList) : TWk w b B F n ((W.heap.size, A) :: S) W' := by
  obtain ⟨hb, ha⟩ := stored_at hz hA hW
  obtain ⟨L, -, hm⟩ := h.mem
  exact (h.go hb).add ha h.below.size (fun e => by have := hm.lt; omega) (fun e => by have := hm.lt'; omega)
/-- One cell of an array turned. -/
theorem cell (h : TWk w b B F n S W) {g i : Nat} {A : Array Value} (hm : (g, A) ∈ S) (v : Value) (hi : i < A.size) (hd : ∀ x ∈ S, x ≠ (g, A) → x.1 ≠ g) : TWk w b B F n ((g, A.setIfInBounds i v) :: S.filter (fun x => x.1 != g)) (W.setCell ⟨g, i, none⟩ v) := by
  obtain ⟨h1, h2, h3, h4⟩ := h.arr _ hm
  have k : Keeps (One g) W (W.setCell ⟨g, i, none⟩ v) := (Keeps.refl _ _).set1 i v
  obtain ⟨L, hl, hM⟩ := h.mem
  refine ⟨h.two k (fun j e => by have e : j = g := e; rw [e]; exact h4), ⟨L, hl, hM.kept k (fun e => h2 (Eq.symm e)) (fun e => h3 (Eq.symm e))⟩, h.bl, h.Bl, fun x hx => ?_⟩
  rcases List.mem_cons.1 hx with rfl | hx
  · exact ⟨h1.set i v hi, h2, h3, h4⟩
  · obtain ⟨hx1, hx2⟩ := List.mem_filter.1 hx
    have := h.arr x hx1
    exact ⟨this.1.kept k (fun e => by have e : x.1 = g := e; simp [e] at hx2), this.2⟩
end TWk
/-- A slice of bytes just made. -/
theorem restNew (b B : Nat) (x : World) (hb : b < x.heap.size) (hB : B < x.heap.size) (l : List Int) (n : Nat) (hn : n = l.length) (hl : l.length ≤ 100) (fr : Nat × Nat) : RestAt (Two b B) (x.alloc (.cells (byV l).toArray 5 fr)) (.slice (some ⟨x.heap.size, 0, none⟩) n n) n (gB l) :=
  .inr ⟨⟨x.heap.size, 0, none⟩, n, rfl, Nat.le_refl _, by omega, by omega, fun _ => ⟨x.heap.size, 0, rfl, fun e => by rcases e with e | e <;> omega, fun i hi => by
    subst hn
    rw [Nat.zero_add, World.cell?_alloc_mark]
    unfold byV gB
    simp [hi]⟩⟩
theorem read_okT {w : World} {b B n : Nat} {F : Nat → Int} {S : List (Nat × Array Value)} {x : World} (h : TWk w b B F n S x) (a k : Nat) (hk : a + k ≤ 16384) :
    Calls Try.prog 22 #[.pointer (some ⟨b, 0, none⟩), .int .u64 a, .int .i64 k] x fun e w' => ∃ v, e = .returned (.tuple #[v, .int .i64 0]) ∧ NewBytes x.heap.size w' v k (fun i => F (a + i)) ∧ TWk w b B F n S w' := by
  obtain ⟨L, hL, hM⟩ := h.mem
  exact (read_ok b B 16384 F L a k x hM hk).mono fun e w' ⟨v, h1, h2, h3⟩ => ⟨v, h1, h2, h.go h3⟩
theorem read_w {w : World} {b B n : Nat} {S : List (Nat × Array Value)} {x : World} (h : TWk w b B wF1 n S x) :
    Calls Try.prog 22 #[.pointer (some ⟨b, 0, none⟩), .int .u64 8192, .int .i64 2] x fun e w' => ∃ ng nc, e = .returned (.tuple #[.slice (some ⟨ng, 0, none⟩) 2 nc, .int .i64 0]) ∧ (convert 29 9 (.slice (some ⟨ng, 0, none⟩) 2 nc)).run Try.prog w' = .ok (.string ⟨#[101, 102]⟩) w' ∧ TWk w b B wF1 n S w' :=
  (read_okT h 8192 2 (by omega)).mono fun e w' ⟨v, h1, h2, h3⟩ => by
    have hs := newBytes_str h2
    obtain ⟨ng, nc, nF, hv, -⟩ := h2
    subst hv
    rw [tw12] at hs
    exact ⟨ng, nc, h1, hs, h3⟩
/-- What Scatter leaves in the examples. -/
def ScEnd (w : World) (b B : Nat) (F : Nat → Int) (n : Nat) (S : List (Nat × Array Value)) (l : List Int) (e : Ending) (w' : World) : Except Int (List Spn) → Prop
  | .error c => e = .returned (.agg (stA c)) ∧ TWk w b B F n S w'
  | .ok s => e = .returned (.agg st0) ∧ TWk w b B (scatF (gB l) s 0 F) (n + s.length) S w'
section
variable {w : World} {b B n : Nat} {F : Nat → Int} {S : List (Nat × Array Value)} {x : World} (h : TWk w b B F n S x) (hF : Bytes F)
include h hF
theorem twSc {C : Array Value} {sgl : Bool} {mt d0 d1 : Int} (hC : Cm C sgl mt d0 d1) (l : List Int) (k : Nat) (hk : k = l.length) (hl : l.length ≤ 100) (hn : n ≤ 500000) (R : Except Int (List Spn)) (hR : dataT F 16384 sgl d0 d1 (k : Nat) true = R) (fr : Nat × Nat) :
    Calls Try.prog 19 #[.pointer (some ⟨b, 0, none⟩), .agg C, .slice (some ⟨x.heap.size, 0, none⟩) k k] (x.alloc (.cells (byV l).toArray 5 fr)) fun e w' => ScEnd w b B F n S l e w' R := by
  obtain ⟨L, hL, hM⟩ := h.mem
  have ha : Below x.heap.size x (x.alloc (.cells (byV l).toArray 5 fr)) := (Below.refl _ _).alloc (Nat.le_refl _) _
  have h2 := h.go ha
  refine (trSc hC b B 16384 F L _ (hM.below ha) (by omega) hF (some ⟨x.heap.size, 0, none⟩) k k (gB l) (by omega) (restNew b B x hM.lt hM.lt' l k hk hl fr) (by omega)).mono ?_
  rw [hR]
  cases R with
  | error c =>
    rintro e w' ⟨rfl, hb⟩
    exact ⟨rfl, h2.go hb⟩
  | ok s =>
    rintro e w' ⟨rfl, hk2, L2, hl2, hm2⟩
    exact ⟨rfl, h2.put hk2 ⟨L2, by omega, hm2⟩⟩
theorem twScE {C : Array Value} {sgl : Bool} {mt d0 d1 : Int} (hC : Cm C sgl mt d0 d1) (l : List Int) (k : Nat) (hk : k = l.length) (hl : l.length ≤ 100) (hn : n ≤ 500000) (R : Except Int (List Spn)) (hR : dataT F 16384 sgl d0 d1 (k : Nat) true = R) (g : Nat) (y : World) (fr : Nat × Nat) (hg : g = x.heap.size) (hy : y = x.alloc (.cells (byV l).toArray 5 fr)) :
    Calls Try.prog 19 #[.pointer (some ⟨b, 0, none⟩), .agg C, .slice (some ⟨g, 0, none⟩) k k] y fun e w' => ScEnd w b B F n S l e w' R := by
  subst hg hy
  exact twSc h hF hC l k hk hl hn R hR fr
theorem twGa {C : Array Value} {sgl : Bool} {mt d0 d1 : Int} (hC : Cm C sgl mt d0 d1) (k : Int) (R : Except Int (List Spn)) (hR : dataT F 16384 sgl d0 d1 k false = R) (hR2 : ∀ c, R = .error c → 1 ≤ c) (s : ByteArray) (hs : gWant F R = s) (c : Int) (hc : gCode R = c) :
    Calls Try.prog 21 #[.pointer (some ⟨b, 0, none⟩), .agg C, .int .i64 k, .string s, .int .i64 c] x fun e w' => e = .returned (.bool true) ∧ TWk w b B F n S w' := by
  obtain ⟨L, hL, hM⟩ := h.mem
  subst hs hc
  refine (gath_of _ C k F R x hC.z (fun c e => ⟨hR2 c e, ?_⟩) fun W hb => ?_).mono fun e w' ⟨h1, h2⟩ => ⟨h1, h.go h2⟩
  · rw [← hR] at e
    exact (dataT_bd e).2
  · rw [← hR]
    exact trGa hC b B 16384 F L W (hM.below hb) (by omega) hF k
end


theorem arr_owned {w : World} {base g sc : Nat} {x : Spn} (h : w.ownsRow base 69 3 (.slice (some ⟨g, 0, none⟩) 1 sc) 1 (spC [x])) : ArrAt w g x.cells := by
  obtain ⟨g1, o1, e1, hr⟩ := spAt_owns (l := [x]) h 0 (by simp)
  cases e1
  refine ⟨by rw [Nat.zero_add, Nat.zero_mul] at hr; exact hr, ?_, by show 0 < 3; omega⟩
  obtain ⟨-, ⟨e, -⟩ | ⟨g', cap, cur, e, hb, hg, hc, hm, hs, hx⟩⟩ := h
  · cases e
  · cases e
    have hrow : w.rowIs g 69 (sc * 3) (fun i => cur[i]?.getD undef) := ⟨cur, hg, hs, fun i hi => by
      rw [← hs] at hi
      show cur[i]? = some (cur[i]?.getD undef)
      rw [Array.getElem?_eq_getElem hi]; rfl⟩
    exact rowIs_there hrow 0 3 (by omega)
def spA : Array Value := #[.int .u64 100, .int .i64 3, .bool false]
theorem spA_at {w : World} {g : Nat} (h : ArrAt w g spA) : SpAt w (some ⟨g, 0, none⟩) [⟨100, 3, false⟩] := fun i hi => by
  have hi : i = 0 := by simpa using hi
  subst hi
  exact ⟨g, 0, rfl, by rw [Nat.zero_add, Nat.zero_mul]; exact h.rng⟩
theorem sp_w {w : World} {b B n : Nat} {F : Nat → Int} {S : List (Nat × Array Value)} {x : World} (h : TWk w b B F n S x) (hF : Bytes F) :
    Calls Try.prog 24 #[.pointer (some ⟨b, 0, none⟩), .agg (cD 0 100 5), .int .i64 3, .bool true] x fun e w' => ∃ g sc, e = .returned (.tuple #[.slice (some ⟨g, 0, none⟩) 1 sc, .agg st0]) ∧ x.heap.size ≤ g ∧ TWk w b B F n ((g, spA) :: S) w' := by
  obtain ⟨L, hL, hM⟩ := h.mem
  refine (trSp (cD_cm 0 100 5 (by decide) (by decide) (by decide)) b B 16384 F L x hM (by omega) hF 3 true).mono ?_
  rw [tw8]
  rintro e w' ⟨hb, v, rfl, ho⟩
  obtain ⟨g, cap, rfl⟩ : ∃ g cap, v = .slice (some ⟨g, 0, none⟩) 1 cap := by
    rcases ho.2 with ⟨_, h0⟩ | ⟨g, cap, _, hv, _⟩
    · cases h0
    · exact ⟨g, cap, hv⟩
  have hg := own_ge ho g 0 rfl
  exact ⟨g, cap, rfl, hg, (h.go hb).add (arr_owned ho) (by have := h.below.size; omega) (fun e => by have := hM.lt; omega) (fun e => by have := hM.lt'; omega)⟩
theorem same_lit {w : World} {b B n : Nat} {F : Nat → Int} {S : List (Nat × Array Value)} {x : World} {p11 ps sc p13 p15 : Nat} (h : TWk w b B F n ((p15, st0) :: (p13, stA 2) :: (p11, st0) :: (ps, spA) :: S) x) :
    Calls Try.prog 27 #[.slice (some ⟨ps, 0, none⟩) 1 sc, .slice (some ⟨x.heap.size, 0, none⟩) 1 1] (x.alloc (.cells #[.int .u64 100, .int .i64 3, .bool false] 69)) fun e w' => e = .returned (.bool true) ∧ TWk w b B F n ((p15, st0) :: (p13, stA 2) :: (p11, st0) :: (ps, spA) :: S) w' := by
  have ha : Below x.heap.size x (x.alloc (.cells #[.int .u64 100, .int .i64 3, .bool false] 69)) := (Below.refl _ _).alloc (Nat.le_refl _) _
  have h2 := h.go ha
  exact (same_ok (some ⟨ps, 0, none⟩) (some ⟨x.heap.size, 0, none⟩) [⟨100, 3, false⟩] sc 1 _ (spA_at (h2.arr (ps, spA) (by simp)).1) (spAt_fresh x [⟨100, 3, false⟩] _) (by simp)).mono fun e w' ⟨h3, h4⟩ => ⟨h3, h2.go h4⟩
theorem gm_w1 {w : World} {b B n : Nat} {F : Nat → Int} {S : List (Nat × Array Value)} {x : World} (h : TWk w b B F n S x) :
    Calls Try.prog 8 #[.pointer (some ⟨b, 0, none⟩), .agg (cD 6 100 5), .int .i64 1] x fun e w' => e = .returned (.tuple #[.slice none 0 0, .agg (stA 2)]) ∧ TWk w b B F n S w' := by
  obtain ⟨L, hL, hM⟩ := h.mem
  refine (trGm (cD_cm 6 100 5 (by decide) (by decide) (by decide)) b B 16384 F L x hM (by omega) 1).mono ?_
  rw [tw9]
  rintro e w' ⟨hb, he⟩
  exact ⟨he, h.go hb⟩
theorem gm_w0 {w : World} {b B n : Nat} {F : Nat → Int} {S : List (Nat × Array Value)} {x : World} (h : TWk w b B F n S x) :
    Calls Try.prog 8 #[.pointer (some ⟨b, 0, none⟩), .agg (cD 6 100 5), .int .i64 0] x fun e w' => e = .returned (.tuple #[.slice none 0 0, .agg st0]) ∧ TWk w b B F n S w' := by
  obtain ⟨L, hL, hM⟩ := h.mem
  refine (trGm (cD_cm 6 100 5 (by decide) (by decide) (by decide)) b B 16384 F L x hM (by omega) 0).mono ?_
  rw [tw10]
  rintro e w' ⟨hb, he⟩
  exact ⟨he, h.go hb⟩

end Go.Proofs.Ytfmabknhfehdcaa
