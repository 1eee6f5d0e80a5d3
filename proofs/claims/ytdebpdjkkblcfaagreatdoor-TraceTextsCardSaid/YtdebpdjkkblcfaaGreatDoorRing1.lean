/- A ring of events in memory, and what its functions that only read return. -/
import Derived.Test.YtdebpdjkkblcfaaGreatDoorTr1
import Derived.Test.YtdebpdjkkblcfaaGreatDoorRange
import Derived.Test.YtdebpdjkkblcfaaGreatDoorKeyB
import Derived.OneCell
namespace Go.Ab
open Go.RowKit
structure Ev where
  n : Int
  sd : Int
  r : Int
  pr : Int
  s : Int
  d : Int
  sp : Int
  dp : Int
  deriving DecidableEq
def Ev.cells (e : Ev) : List Value := [.int .i64 e.n, .int .u8 e.sd, .int .u8 e.r, .int .u8 e.pr, .int .u32 e.s, .int .u32 e.d, .int .u16 e.sp, .int .u16 e.dp]
def Ev.val (e : Ev) : Value := .agg #[.int .i64 e.n, .int .u8 e.sd, .int .u8 e.r, .int .u8 e.pr, .int .u32 e.s, .int .u32 e.d, .int .u16 e.sp, .int .u16 e.dp]
/-- The bounds of an event's parts. -/
structure EvB (e : Ev) : Prop where
  n0 : -9223372036854775808 ≤ e.n
  n1 : e.n ≤ 9223372036854775807
  sd0 : 0 ≤ e.sd
  sd1 : e.sd < 256
  r0 : 0 ≤ e.r
  r1 : e.r < 256
  key : KeyB e.pr e.s e.d e.sp e.dp
def Ev.right (e : Ev) : Bool := rightEv e.n e.sd e.r e.pr e.s e.d e.sp e.dp
def Ev.zero : Ev := ⟨0, 0, 0, 0, 0, 0, 0, 0⟩
/-- How many events of a reason there are. -/
def countR (l : List Ev) (r : Nat) : Nat := (l.filter fun e => e.r == (r : Int)).length
def ringCells (G size : Nat) (l : List Ev) : List Value := .slice (some ⟨G, 0, none⟩) size size :: .int .i64 (l.length : Int) :: (List.range 30).map fun r => .int .i64 (countR l r : Int)
/-- A ring in block R, its events in block G. -/
structure RingIs (w : World) (te tr : TypeId) (R G size : Nat) (l : List Ev) : Prop where
  s0 : 1 ≤ size
  s1 : size ≤ 4096
  len : l.length ≤ 1000000
  ne : R ≠ G
  ring : w.heap[R]? = some (.cells (ringCells G size l).toArray tr (0, 0))
  evs : ∃ cs : Array Value, w.heap[G]? = some (.cells cs te (0, 0)) ∧ cs.size = size * 8 ∧
    ∀ (n : Nat) e, l[n]? = some e → l.length ≤ n + size → ∀ (j : Nat) v, e.cells[j]? = some v → cs[(n % size) * 8 + j]? = some v
variable {w : World} {te tr : TypeId} {R G size : Nat} {l : List Ev}
theorem RingIs.ltR (h : RingIs w te tr R G size l) : R < w.heap.size := (Array.getElem?_eq_some_iff.1 h.ring).1
theorem RingIs.ltG (h : RingIs w te tr R G size l) : G < w.heap.size := by obtain ⟨cs, hc, _⟩ := h.evs; exact (Array.getElem?_eq_some_iff.1 hc).1
theorem RingIs.up {W : World} (h : RingIs w te tr R G size l) (hu : Up w W) : RingIs W te tr R G size l :=
  ⟨h.s0, h.s1, h.len, h.ne, (hu.block R h.ltR).trans h.ring, by obtain ⟨cs, hc, r⟩ := h.evs; exact ⟨cs, (hu.block G h.ltG).trans hc, r⟩⟩
theorem cell_at {w : World} {b : Nat} {cs : Array Value} {t : TypeId} {fr : Nat × Nat} (h : w.heap[b]? = some (.cells cs t fr)) (i : Nat) : w.cell? ⟨b, i, none⟩ = cs[i]? := by
  simp [World.cell?, h]
theorem free_at {w : World} {b : Nat} {cs : Array Value} {t : TypeId} (h : w.heap[b]? = some (.cells cs t (0, 0))) (i : Nat) : w.frozen? ⟨b, i, none⟩ = false := by
  simp [World.frozen?, h]
theorem RingIs.c0 (h : RingIs w te tr R G size l) : w.cell? ⟨R, 0, none⟩ = some (.slice (some ⟨G, 0, none⟩) size size) := by rw [cell_at h.ring]; simp [ringCells]
theorem RingIs.c1 (h : RingIs w te tr R G size l) : w.cell? ⟨R, 1, none⟩ = some (.int .i64 (l.length : Int)) := by rw [cell_at h.ring]; simp [ringCells]
theorem RingIs.c2 (h : RingIs w te tr R G size l) (r : Nat) (hr : r < 30) : w.cell? ⟨R, 2 + r, none⟩ = some (.int .i64 (countR l r : Int)) := by
  rw [cell_at h.ring]
  simp only [ringCells, List.getElem?_toArray]
  rw [Nat.add_comm]
  simp [hr]
theorem RingIs.f (h : RingIs w te tr R G size l) (i : Nat) : w.frozen? ⟨R, i, none⟩ = false := free_at h.ring i
theorem RingIs.fG (h : RingIs w te tr R G size l) (i : Nat) : w.frozen? ⟨G, i, none⟩ = false := by obtain ⟨cs, hc, _⟩ := h.evs; exact free_at hc i
theorem RingIs.ev (h : RingIs w te tr R G size l) (n : Nat) (e : Ev) (hn : l[n]? = some e) (hk : l.length ≤ n + size) (j : Nat) (v : Value) (hj : e.cells[j]? = some v) : w.cell? ⟨G, n % size * 8 + j, none⟩ = some v := by
  obtain ⟨cs, hc, _, hv⟩ := h.evs
  rw [cell_at hc]; exact hv n e hn hk j v hj
/-- Every cell of the events' block is there. -/
theorem RingIs.some (h : RingIs w te tr R G size l) (i : Nat) (hi : i < size * 8) : ∃ v, w.cell? ⟨G, i, none⟩ = some v := by
  obtain ⟨cs, hc, hs, _⟩ := h.evs
  rw [cell_at hc]
  exact ⟨_, Array.getElem?_eq_getElem (by rw [hs]; exact hi)⟩
end Go.Ab
namespace Go.Proofs.YtdebpdjkkblcfaaGreatDoor
open Go.RowKit Go.Ab
abbrev Ring (w : World) (R G size : Nat) (l : List Ev) : Prop := RingIs w 27 43 R G size l
set_option maxHeartbeats 4000000 in
set_option maxRecDepth 100000 in
theorem ring_none (w : World) (R G size : Nat) (l : List Ev) (h : Ring w R G size l) : Gives Tryz.prog 34 #[.pointer (some ⟨R, 0, none⟩)] w (.bool false) := by
  have c0 := h.c0
  have s0 := h.s0
  have b0 : ((size : Int) == 0) = false := by simp; omega
  unfold Gives
  go_enter Tryz.func34, Tryz.ntmps34
  go_wp2
  go_ret
  exact ⟨rfl, mkI⟩
set_option maxHeartbeats 4000000 in
set_option maxRecDepth 100000 in
theorem ring_at (w : World) (R G size : Nat) (l : List Ev) (n : Nat) (h : Ring w R G size l) (hn : n ≤ 1000000) :
    Gives Tryz.prog 35 #[.pointer (some ⟨R, 0, none⟩), .int .i64 (n : Int)] w (.pointer (some ⟨G, n % size * 8, none⟩)) := by
  have c0 := h.c0
  have s0 := h.s0
  have s1 := h.s1
  haveI : LtSize R w := ⟨h.ltR⟩
  have hm : (n : Int).tmod (size : Int) = ((n % size : Nat) : Int) := by rw [Int.tmod_eq_emod_of_nonneg (by omega)]; rfl
  have hm2 : (n : Int) % (size : Int) = ((n % size : Nat) : Int) := rfl
  have hlt : n % size < size := Nat.mod_lt _ (by omega)
  have hlt2 : ((n % size : Nat) : Int) < (size : Int) := by omega
  have hlt0 : (0 : Int) ≤ ((n % size : Nat) : Int) := by omega
  generalize hk : n % size = k at *
  have s00 : ((size : Int) == 0) = false := by simp; omega
  clear hk
  unfold Gives
  go_enter Tryz.func35, Tryz.ntmps35
  go_wp2_with fail
  (refine wp_region_ext (by kernel_rfl) (by kernel_rfl) ?_; (repeat (go_big_quiet_step (fail))); refine wpQuiet_nil ?_; rintro _ ⟨y, rfl⟩)
  go_wp2_with fail
  go_ret
  exact ⟨rfl, mkI⟩
set_option maxHeartbeats 4000000 in
set_option maxRecDepth 100000 in
theorem ring_total (w : World) (R G size : Nat) (l : List Ev) (h : Ring w R G size l) : Gives Tryz.prog 14 #[.pointer (some ⟨R, 0, none⟩)] w (.int .i64 (l.length : Int)) := by
  have c1 := h.c1
  haveI : LtSize R w := ⟨h.ltR⟩
  unfold Gives
  go_enter Tryz.func14, Tryz.ntmps14
  go_wp2_with (go_at_call 34; refine (ring_none _ R G size l (h.up upI)).mono ?_; rintro e w' ⟨rfl, x, rfl⟩)
  go_ret
  exact ⟨rfl, mkI⟩
set_option maxHeartbeats 4000000 in
set_option maxRecDepth 100000 in
theorem ring_len (w : World) (R G size : Nat) (l : List Ev) (h : Ring w R G size l) : Gives Tryz.prog 15 #[.pointer (some ⟨R, 0, none⟩)] w (.int .i64 ((min l.length size : Nat) : Int)) := by
  have c1 := h.c1
  have c0 := h.c0
  haveI : LtSize R w := ⟨h.ltR⟩
  have hl := h.len
  have s1 := h.s1
  unfold Gives
  rcases Nat.lt_or_ge l.length size with hm | hm
  · have E := Lib.hid (show min l.length size = l.length by omega)
    go_enter Tryz.func15, Tryz.ntmps15
    go_wp2_with (go_at_call 34; refine (ring_none _ R G size l (h.up upI)).mono ?_; rintro e w' ⟨rfl, x, rfl⟩)
    (refine wp_region_ext (by kernel_rfl) (by kernel_rfl) ?_; (repeat (go_big_quiet_step (fail))); refine wpQuiet_nil ?_; rintro _ ⟨y, rfl⟩)
    go_wp2_with fail
    go_ret
    exact ⟨ret_int (by rw [E.out]; try omega), mkI⟩
  · have E := Lib.hid (show min l.length size = size by omega)
    go_enter Tryz.func15, Tryz.ntmps15
    go_wp2_with (go_at_call 34; refine (ring_none _ R G size l (h.up upI)).mono ?_; rintro e w' ⟨rfl, x, rfl⟩)
    (refine wp_region_ext (by kernel_rfl) (by kernel_rfl) ?_; (repeat (go_big_quiet_step (fail))); refine wpQuiet_nil ?_; rintro _ ⟨y, rfl⟩)
    go_wp2_with fail
    go_ret
    exact ⟨ret_int (by rw [E.out]; try omega), mkI⟩
end Go.Proofs.YtdebpdjkkblcfaaGreatDoor
