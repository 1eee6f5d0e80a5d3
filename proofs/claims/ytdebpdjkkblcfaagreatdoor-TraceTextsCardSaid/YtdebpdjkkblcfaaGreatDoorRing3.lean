/- An event put into a ring. -/
import Derived.Test.YtdebpdjkkblcfaaGreatDoorRing2
import Derived.Laws.Rows
import Derived.RegionTactic
import Derived.Deep.RegionWith
namespace Go.Ab
open Go.RowKit
/-- At most blocks of p are changed. -/
structure Past (p : Nat → Prop) (A B : World) : Prop where
  os : B.os = A.os
  tape : B.tape = A.tape
  output : B.output = A.output
  size : A.heap.size ≤ B.heap.size
  block : ∀ k, k < A.heap.size → ¬ p k → B.heap[k]? = A.heap[k]?
theorem Past.of_up {p : Nat → Prop} {A B : World} (h : Up A B) : Past p A B := ⟨h.os, h.tape, h.output, h.size, fun k hk _ => h.block k hk⟩
theorem Past.trans {p : Nat → Prop} {A B C : World} (h : Past p A B) (k : Past p B C) : Past p A C :=
  ⟨k.os.trans h.os, k.tape.trans h.tape, k.output.trans h.output, Nat.le_trans h.size k.size, fun b hb hp => (k.block b (Nat.lt_of_lt_of_le hb h.size) hp).trans (h.block b hb hp)⟩
theorem Past.setCell {p : Nat → Prop} {A B : World} (h : Past p A B) (a : Addr) (v : Value) (ha : p a.block) : Past p A (B.setCell a v) :=
  h.trans ⟨rfl, rfl, rfl, by simp, fun k _ hk => Below.heap_setCell B a v k (fun e => hk (by rw [e]; exact ha))⟩
theorem Past.up {p : Nat → Prop} {w A B : World} (h : Past p A B) (hu : Up w A) (hp : ∀ b, p b → w.heap.size ≤ b) : Up w B :=
  ⟨h.os.trans hu.os, h.tape.trans hu.tape, h.output.trans hu.output, Nat.le_trans hu.size h.size, fun k hk => (h.block k (Nat.lt_of_lt_of_le hk hu.size) (fun e => by have := hp k e; omega)).trans (hu.block k hk)⟩
theorem Past.mono {p q : Nat → Prop} {A B : World} (h : Past p A B) (hpq : ∀ b, p b → q b) : Past q A B := ⟨h.os, h.tape, h.output, h.size, fun k hk hq => h.block k hk (fun hp => hq (hpq k hp))⟩
/-- The ring's own blocks. -/
def ringOwn (R G : Nat) (b : Nat) : Prop := b = R ∨ b = G
theorem countR_snoc (l : List Ev) (e : Ev) (r : Nat) : countR (l ++ [e]) r = countR l r + (if e.r = (r : Int) then 1 else 0) := by
  unfold countR
  rw [List.filter_append, List.length_append]
  congr 1
  by_cases h : e.r = (r : Int) <;> simp [h]
theorem ringCells_snoc (G size : Nat) (l : List Ev) (e : Ev) (r : Nat) (hr : e.r = (r : Int)) (h30 : r < 30) :
    ((ringCells G size l).toArray.setIfInBounds 1 (.int .i64 ((l.length : Int) + 1))).setIfInBounds (2 + r) (.int .i64 ((countR l r : Int) + 1)) = (ringCells G size (l ++ [e])).toArray := by
  apply Array.ext_getElem?
  intro i
  rw [Array.getElem?_setIfInBounds, Array.getElem?_setIfInBounds]
  have hz : (ringCells G size l).toArray.size = 32 := by simp [ringCells]
  simp only [List.size_toArray, Array.size_setIfInBounds] at hz ⊢
  rw [hz]
  by_cases h2 : 2 + r = i
  · subst h2
    rw [if_pos rfl, if_pos (by omega)]
    simp only [ringCells, List.getElem?_toArray]
    rw [Nat.add_comm]
    simp [h30, countR_snoc, hr]
  · rw [if_neg h2]
    by_cases h1 : 1 = i
    · subst h1
      simp [ringCells]
    · rw [if_neg h1]
      rcases i with _ | _ | i
      · simp [ringCells]
      · omega
      · simp only [ringCells, List.getElem?_toArray]
        simp only [List.getElem?_cons_succ, List.getElem?_map]
        rcases Nat.lt_or_ge i 30 with h3 | h3
        · have : ¬ e.r = (i : Int) := by omega
          simp [h3, countR_snoc, this]
        · simp [h3]
/-- Eight cells of a block set. -/
def set8 (cs : Array Value) (o : Nat) (e : Ev) : Array Value :=
  (((((((cs.setIfInBounds o (.int .i64 e.n)).setIfInBounds (o + 1) (.int .u8 e.sd)).setIfInBounds (o + 2) (.int .u8 e.r)).setIfInBounds (o + 3) (.int .u8 e.pr)).setIfInBounds (o + 4) (.int .u32 e.s)).setIfInBounds (o + 5) (.int .u32 e.d)).setIfInBounds (o + 6) (.int .u16 e.sp)).setIfInBounds (o + 7) (.int .u16 e.dp)
theorem set8_size (cs : Array Value) (o : Nat) (e : Ev) : (set8 cs o e).size = cs.size := by simp [set8]
theorem set8_in (cs : Array Value) (o : Nat) (e : Ev) (h : o + 8 ≤ cs.size) (j : Nat) (v : Value) (hj : e.cells[j]? = some v) : (set8 cs o e)[o + j]? = some v := by
  have hj8 : j < 8 := (List.getElem?_eq_some_iff.1 hj).1
  rcases (by omega : j = 0 ∨ j = 1 ∨ j = 2 ∨ j = 3 ∨ j = 4 ∨ j = 5 ∨ j = 6 ∨ j = 7) with rfl | rfl | rfl | rfl | rfl | rfl | rfl | rfl
  all_goals
    simp [Ev.cells] at hj
    subst hj
    simp only [set8, Array.getElem?_setIfInBounds, Array.size_setIfInBounds]
    simp <;> omega
theorem set8_out (cs : Array Value) (o i : Nat) (e : Ev) (h : i < o ∨ o + 8 ≤ i) : (set8 cs o e)[i]? = cs[i]? := by
  simp only [set8, Array.getElem?_setIfInBounds]
  rw [if_neg (by omega), if_neg (by omega), if_neg (by omega), if_neg (by omega), if_neg (by omega), if_neg (by omega), if_neg (by omega), if_neg (by omega)]
end Go.Ab
namespace Go.Proofs.YtdebpdjkkblcfaaGreatDoor
open Go.RowKit Go.Ab
/-- What Put writes. -/
def putW (W : World) (R G g : Nat) (r : Nat) (t c : Int) (e : Ev) : World :=
  (((((((((W.setCell ⟨G, g, none⟩ (.int .i64 e.n)).setCell ⟨G, g + 1, none⟩ (.int .u8 e.sd)).setCell ⟨G, g + 2, none⟩ (.int .u8 e.r)).setCell ⟨G, g + 3, none⟩ (.int .u8 e.pr)).setCell ⟨G, g + 4, none⟩ (.int .u32 e.s)).setCell ⟨G, g + 5, none⟩ (.int .u32 e.d)).setCell ⟨G, g + 6, none⟩ (.int .u16 e.sp)).setCell ⟨G, g + 7, none⟩ (.int .u16 e.dp)).setCell ⟨R, 1, none⟩ (.int .i64 (t + 1))).setCell ⟨R, 2 + r, none⟩ (.int .i64 (c + 1))
theorem drew_setCell (w : World) (a : Addr) (v : Value) : (w.setCell a v).drew = w.drew.setCell a v := rfl
set_option maxHeartbeats 16000000 in
set_option maxRecDepth 100000 in
theorem put_first (w : World) (R G size : Nat) (l : List Ev) (h : Ring w R G size l) (e : Ev) (r : Nat) (hr : e.r = (r : Int)) (r1 : 1 ≤ r) (r30 : r < 30) (eb : EvB e) (hri : e.right = true) (hl : l.length = 0) :
    Calls Tryz.prog 12 #[.pointer (some ⟨R, 0, none⟩), e.val] w fun en w' => en = .returned (.tuple #[.int .i64 0, .int .i64 0]) ∧ ∃ x : Ext w, w' = putW x.w R G 0 r 0 (countR l r) e := by
  have c1 := h.c1
  have c2 := h.c2 r r30
  have f1 := h.f 1
  have f2 := h.f (2 + r)
  have ll := h.len
  have hs : 0 + 8 ≤ size * 8 := by have := h.s0; omega
  have hat : ∀ w', UpI w w' → Gives Tryz.prog 35 #[.pointer (some ⟨R, 0, none⟩), .int .i64 0] w' (.pointer (some ⟨G, 0, none⟩)) := fun w' hu => (ring_at w' R G size l 0 (h.up hu.up) (by omega)).cast (by simp)
  obtain ⟨v0, k0⟩ := h.some (0 + 0) (by omega); obtain ⟨v1, k1⟩ := h.some (0 + 1) (by omega); obtain ⟨v2, k2⟩ := h.some (0 + 2) (by omega); obtain ⟨v3, k3⟩ := h.some (0 + 3) (by omega)
  obtain ⟨v4, k4⟩ := h.some (0 + 4) (by omega); obtain ⟨v5, k5⟩ := h.some (0 + 5) (by omega); obtain ⟨v6, k6⟩ := h.some (0 + 6) (by omega); obtain ⟨v7, k7⟩ := h.some (0 + 7) (by omega)
  have f00 := h.fG (0 + 0); have f01 := h.fG (0 + 1); have f02 := h.fG (0 + 2); have f03 := h.fG (0 + 3); have f04 := h.fG (0 + 4); have f05 := h.fG (0 + 5); have f06 := h.fG (0 + 6); have f07 := h.fG (0 + 7)
  simp only [Nat.add_zero] at k0 k1 k2 k3 k4 k5 k6 k7 f00 f01 f02 f03 f04 f05 f06 f07
  have hno : ∀ w', UpI w w' → Gives Tryz.prog 34 #[.pointer (some ⟨R, 0, none⟩)] w' (.bool false) := fun w' hu => ring_none w' R G size l (h.up hu.up)
  haveI : LtSize R w := ⟨h.ltR⟩
  haveI : LtSize G w := ⟨h.ltG⟩
  haveI : NeB G R := ⟨h.ne.symm⟩
  rw [hl] at c1
  have hc0 : (0 : Int) ≤ countR l r := by omega
  have hc1 : (countR l r : Int) ≤ 1000000 := by have := List.length_filter_le (fun e : Ev => e.r == (r : Int)) l; unfold countR; omega
  generalize (countR l r : Int) = c at *
  obtain ⟨n, sd, r', pr, s, d, sp, dp⟩ := e
  obtain rfl : r' = (r : Int) := hr
  have hrt : ∀ w', Gives Tryz.prog 23 #[.agg #[.int .i64 n, .int .u8 sd, .int .u8 r, .int .u8 pr, .int .u32 s, .int .u32 d, .int .u16 sp, .int .u16 dp]] w' (.bool true) := fun w' => (tright_any n sd r pr s d sp dp w' eb.sd0 eb.sd1 eb.r0 eb.r1).cast (by rw [show rightEv n sd r pr s d sp dp = true from hri])
  have q : (r : Int) < 30 := by omega
  clear hl h hri eb hs ll
  unfold Ev.val
  go_enter Tryz.func12, Tryz.ntmps12
  go_wp2_with (first
    | (go_at_call 34; refine (hno _ inferInstance).mono ?_; rintro e w' ⟨rfl, x, rfl⟩)
    | (go_at_call 23; refine (hrt _).mono ?_; rintro e w' ⟨rfl, x, rfl⟩))
  (refine wp_region_ext (by kernel_rfl) (by kernel_rfl) ?_; (repeat (go_big_quiet_step ((go_at_call 35; exact (hat _ inferInstance).ext)))); refine wpQuiet_nil ?_; rintro _ ⟨y, rfl⟩)
  go_wp2_with fail
  go_region_with (first
    | (go_at_call 35; refine (hat _ inferInstance).mono ?_; rintro e w' ⟨rfl, x, rfl⟩))
  all_goals (go_wp2_with fail)
  all_goals go_region
  all_goals (go_wp2_with fail)
  all_goals go_ret2
  all_goals
    refine ⟨rfl, ?_⟩
    obtain ⟨z, hz⟩ := (upI : Up w x.w.drew).mk
    exact ⟨z, by simp only [putW, ← hz, drew_setCell, Nat.zero_add, Int.zero_add]⟩
set_option maxHeartbeats 16000000 in
set_option maxRecDepth 100000 in
theorem put_more (w : World) (R G size : Nat) (l : List Ev) (h : Ring w R G size l) (e : Ev) (r : Nat) (hr : e.r = (r : Int)) (r1 : 1 ≤ r) (r30 : r < 30) (eb : EvB e) (hri : e.right = true) (t : Nat) (hl : l.length = t + 1) (p : Ev) (hp : l[t]? = some p) (hpe : p.n ≤ e.n) :
    Calls Tryz.prog 12 #[.pointer (some ⟨R, 0, none⟩), e.val] w fun en w' => en = .returned (.tuple #[.int .i64 ((t : Int) + 1), .int .i64 0]) ∧ ∃ x : Ext w, w' = putW x.w R G ((t + 1) % size * 8) r ((t : Int) + 1) (countR l r) e := by
  have c1 := h.c1
  have c2 := h.c2 r r30
  have f1 := h.f 1
  have f2 := h.f (2 + r)
  have ll := h.len
  have hev := h.ev t p hp (by have := h.s0; omega) 0 _ rfl
  rw [Nat.add_zero] at hev
  have hbk : decide (e.n < p.n) = false := by simp; omega
  have hat0 : ∀ w', UpI w w' → Gives Tryz.prog 35 #[.pointer (some ⟨R, 0, none⟩), .int .i64 (t : Int)] w' (.pointer (some ⟨G, t % size * 8, none⟩)) := fun w' hu => ring_at w' R G size l t (h.up hu.up) (by omega)
  have hat : ∀ w', UpI w w' → Gives Tryz.prog 35 #[.pointer (some ⟨R, 0, none⟩), .int .i64 ((t : Int) + 1)] w' (.pointer (some ⟨G, (t + 1) % size * 8, none⟩)) := fun w' hu => ring_at w' R G size l (t + 1) (h.up hu.up) (by omega)
  have hml : (t + 1) % size < size := Nat.mod_lt _ (by have := h.s0; omega)
  have hs : (t + 1) % size * 8 + 8 ≤ size * 8 := by omega
  generalize (t + 1) % size * 8 = g at *
  generalize t % size * 8 = g0 at *
  clear hml hp hpe
  generalize p.n = pn at *
  obtain ⟨v0, k0⟩ := h.some (g + 0) (by omega); obtain ⟨v1, k1⟩ := h.some (g + 1) (by omega); obtain ⟨v2, k2⟩ := h.some (g + 2) (by omega); obtain ⟨v3, k3⟩ := h.some (g + 3) (by omega)
  obtain ⟨v4, k4⟩ := h.some (g + 4) (by omega); obtain ⟨v5, k5⟩ := h.some (g + 5) (by omega); obtain ⟨v6, k6⟩ := h.some (g + 6) (by omega); obtain ⟨v7, k7⟩ := h.some (g + 7) (by omega)
  have f00 := h.fG (g + 0); have f01 := h.fG (g + 1); have f02 := h.fG (g + 2); have f03 := h.fG (g + 3); have f04 := h.fG (g + 4); have f05 := h.fG (g + 5); have f06 := h.fG (g + 6); have f07 := h.fG (g + 7)
  simp only [Nat.add_zero] at k0 k1 k2 k3 k4 k5 k6 k7 f00 f01 f02 f03 f04 f05 f06 f07
  have hno : ∀ w', UpI w w' → Gives Tryz.prog 34 #[.pointer (some ⟨R, 0, none⟩)] w' (.bool false) := fun w' hu => ring_none w' R G size l (h.up hu.up)
  haveI : LtSize R w := ⟨h.ltR⟩
  haveI : LtSize G w := ⟨h.ltG⟩
  haveI : NeB G R := ⟨h.ne.symm⟩
  rw [hl] at c1
  have hc0 : (0 : Int) ≤ countR l r := by omega
  have hc1 : (countR l r : Int) ≤ 1000000 := by have := List.length_filter_le (fun e : Ev => e.r == (r : Int)) l; unfold countR; omega
  generalize (countR l r : Int) = c at *
  rw [Int.natCast_add, Int.natCast_one] at c1
  have t0 : (0 : Int) < (t : Int) + 1 := by omega
  have t1 : (t : Int) + 1 ≤ 1000000 := by omega
  have t2 : (t : Int) + 1 - 1 = (t : Int) := by omega
  obtain ⟨n, sd, r', pr, s, d, sp, dp⟩ := e
  obtain rfl : r' = (r : Int) := hr
  have hrt : ∀ w', Gives Tryz.prog 23 #[.agg #[.int .i64 n, .int .u8 sd, .int .u8 r, .int .u8 pr, .int .u32 s, .int .u32 d, .int .u16 sp, .int .u16 dp]] w' (.bool true) := fun w' => (tright_any n sd r pr s d sp dp w' eb.sd0 eb.sd1 eb.r0 eb.r1).cast (by rw [show rightEv n sd r pr s d sp dp = true from hri])
  have q : (r : Int) < 30 := by omega
  clear hl h hri eb hs ll
  generalize (t : Int) = t' at *
  simp only at hbk
  unfold Ev.val
  go_enter Tryz.func12, Tryz.ntmps12
  go_wp2_with (first
    | (go_at_call 34; refine (hno _ inferInstance).mono ?_; rintro e w' ⟨rfl, x, rfl⟩)
    | (go_at_call 23; refine (hrt _).mono ?_; rintro e w' ⟨rfl, x, rfl⟩))
  (refine wp_region_ext (by kernel_rfl) (by kernel_rfl) ?_; (repeat (go_big_quiet_step ((go_at_call 35; exact (hat0 _ inferInstance).ext)))); refine wpQuiet_nil ?_; rintro _ ⟨y, rfl⟩)
  go_wp2_with fail
  go_region_with (first
    | (go_at_call 35; refine (hat _ inferInstance).mono ?_; rintro e w' ⟨rfl, x, rfl⟩))
  all_goals (go_wp2_with fail)
  all_goals go_region
  all_goals (go_wp2_with fail)
  all_goals go_ret2
  all_goals
    refine ⟨rfl, ?_⟩
    obtain ⟨z, hz⟩ := (upI : Up w x.w.drew).mk
    exact ⟨z, by simp only [putW, ← hz, drew_setCell]⟩
end Go.Proofs.YtdebpdjkkblcfaaGreatDoor
