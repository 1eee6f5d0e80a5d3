/- Ranges read: what ReadRange of package addr returns. -/
import Derived.Test.YtdiiicnjbgimmaaGreatDoorAddr4
namespace Go.Ab
theorem numV16_bd (l : List UInt8) : 0 ≤ numV 65536 l ∧ numV 65536 l < 65536 := by unfold numV; omega
/-- The two ports that ReadRange guesses. -/
def fromL (l : List UInt8) : Int := numV 65536 (cutC 45 l).1
def toL (l : List UInt8) : Int := numV 65536 (if (cutC 45 l).2.2 then (cutC 45 l).2.1 else (cutC 45 l).1)
def readRangeL (l : List UInt8) : Option (Int × Int) :=
  if l = [42] then some (0, 65535) else if fromL l ≤ toL l ∧ rangeTextL (fromL l) (toL l) = l then some (fromL l, toL l) else none
def readRangeV (l : List UInt8) : Value := match readRangeL l with | some (p, q) => .tuple #[.agg #[.int .u16 p, .int .u16 q], .int .i64 0] | none => .tuple #[.agg #[.int .u16 0, .int .u16 0], .int .i64 30]
end Go.Ab
namespace Go.Proofs.YtdiiicnjbgimmaaGreatDoor
open Go.RowKit Go.Ab

set_option maxHeartbeats 2000000 in
theorem readRange_star (w : World) (g : Good w) :
    Gives Tryz.prog 31 #[.string ⟨#[42]⟩] w (Value.tuple #[.agg #[.int .u16 0, .int .u16 65535], .int .i64 0]) := by
  unfold Gives
  go_enter Tryz.func31, Tryz.ntmps31
  go_wp2_with (go_at_call 35; refine (rangeText_any 0 65535 _ (g.up (by repeat (with_reducible first | exact Up.refl _ | refine Up.ext ?_ _ | refine Up.drew ?_ | refine Up.alloc ?_ _ | refine Up.setCell ?_ (by simp) _))) (by omega) (by omega) (by omega) (by omega)).mono ?_; rintro e w' ⟨rfl, x, rfl⟩; have hx : w.heap.size < x.w.heap.size := x.lt (by simp [go_sem]); have hx1 : w.heap.size + 1 < x.w.heap.size := x.lt (by simp))
  refine bodyPost_ret (v := Value.tuple #[.agg #[.int .u16 0, .int .u16 65535], .int .i64 0]) (by simp [results, Tryz.results31, go_sem]) rfl ⟨rfl, Up.mk (by repeat (with_reducible first | exact Up.refl _ | refine Up.ext ?_ _ | refine Up.drew ?_ | refine Up.alloc ?_ _ | refine Up.setCell ?_ (by simp) _))⟩
set_option maxHeartbeats 2000000 in
theorem readRange_gt2 (l : List UInt8) (w : World) (g : Good w) (hs : l.length < 4294967281) (hstar : (l == [42]) = false) (htwo : (cutC 45 l).2.2 = true)
    (hle : (if (numV 65536 (cutC 45 l).1) ≤ (numV 65536 (cutC 45 l).2.1) then Value.tuple #[.string ⟨(rangeTextL (numV 65536 (cutC 45 l).1) (numV 65536 (cutC 45 l).2.1)).toArray⟩, .int .i64 0] else .tuple #[.string ⟨#[]⟩, .int .i64 32]) = .tuple #[.string ⟨#[]⟩, .int .i64 32]) :
    Gives Tryz.prog 31 #[.string ⟨l.toArray⟩] w (Value.tuple #[.agg #[.int .u16 0, .int .u16 0], .int .i64 30]) := by
  unfold Gives
  obtain ⟨c1, c2⟩ := cutC_len 45 l
  obtain ⟨p0, p1⟩ := numV16_bd (cutC 45 l).1
  obtain ⟨q0, q1⟩ := numV16_bd (cutC 45 l).2.1
  have Htwo := Lib.hid htwo
  have Hle := Lib.hid hle
  have tok1 : True := trivial
  clear htwo hle
  go_enter Tryz.func31, Tryz.ntmps31
  go_wp2_with (first
    | (go_at_call 53; refine ((scut1_any l 45 _ (g.up (by repeat (with_reducible first | exact Up.refl _ | refine Up.ext ?_ _ | refine Up.drew ?_ | refine Up.alloc ?_ _ | refine Up.setCell ?_ (by simp) _))) hs).cast (by rw [Htwo.out])).mono ?_; rintro e w' ⟨rfl, x, rfl⟩; have hx : w.heap.size < x.w.heap.size := x.lt (by simp [go_sem]); have hx1 : w.heap.size + 1 < x.w.heap.size := x.lt (by simp))
    | (go_at_call 56; have := tok1; refine ((number16_any (cutC 45 l).1 _ (g.up (by repeat (with_reducible first | exact Up.refl _ | refine Up.ext ?_ _ | refine Up.drew ?_ | refine Up.alloc ?_ _ | refine Up.setCell ?_ (by simp) _))) (by omega))).mono ?_; rintro e w' ⟨rfl, y, rfl⟩; clear tok1; have hy : w.heap.size < y.w.heap.size := y.lt hx; have hy1 : w.heap.size + 1 < y.w.heap.size := y.lt hx1)
    | (go_at_call 56; refine ((number16_any (cutC 45 l).2.1 _ (g.up (by repeat (with_reducible first | exact Up.refl _ | refine Up.ext ?_ _ | refine Up.drew ?_ | refine Up.alloc ?_ _ | refine Up.setCell ?_ (by simp) _))) (by omega))).mono ?_; rintro e w' ⟨rfl, z, rfl⟩; have hz : w.heap.size < z.w.heap.size := z.lt (by rw [World.size_setCell]; exact hy); have hz1 : w.heap.size + 1 < z.w.heap.size := z.lt (by rw [World.size_setCell]; exact hy1))
    | (go_at_call 35; refine ((rangeText_any _ _ _ (g.up (by repeat (with_reducible first | exact Up.refl _ | refine Up.ext ?_ _ | refine Up.drew ?_ | refine Up.alloc ?_ _ | refine Up.setCell ?_ (by simp) _))) p0 p1 q0 q1).cast (by rw [Hle.out])).mono ?_; rintro e w' ⟨rfl, t, rfl⟩; have ht : w.heap.size < t.w.heap.size := t.lt (by rw [World.size_setCell]; exact hz); have ht1 : w.heap.size + 1 < t.w.heap.size := t.lt (by rw [World.size_setCell]; exact hz1)))
  refine bodyPost_ret (v := Value.tuple #[.agg #[.int .u16 0, .int .u16 0], .int .i64 30]) (by simp [results, Tryz.results31, go_sem, hx, hy, hz]) rfl ⟨rfl, Up.mk (by repeat (with_reducible first | exact Up.refl _ | refine Up.ext ?_ _ | refine Up.drew ?_ | refine Up.alloc ?_ _ | refine Up.setCell ?_ (by simp) _))⟩
set_option maxHeartbeats 2000000 in
theorem readRange_ne2 (l : List UInt8) (w : World) (g : Good w) (hs : l.length < 4294967281) (hstar : (l == [42]) = false) (htwo : (cutC 45 l).2.2 = true)
    (hle : (if (numV 65536 (cutC 45 l).1) ≤ (numV 65536 (cutC 45 l).2.1) then Value.tuple #[.string ⟨(rangeTextL (numV 65536 (cutC 45 l).1) (numV 65536 (cutC 45 l).2.1)).toArray⟩, .int .i64 0] else .tuple #[.string ⟨#[]⟩, .int .i64 32]) = .tuple #[.string ⟨(rangeTextL (numV 65536 (cutC 45 l).1) (numV 65536 (cutC 45 l).2.1)).toArray⟩, .int .i64 0]) (heq : (rangeTextL (numV 65536 (cutC 45 l).1) (numV 65536 (cutC 45 l).2.1) == l) = false) :
    Gives Tryz.prog 31 #[.string ⟨l.toArray⟩] w (Value.tuple #[.agg #[.int .u16 0, .int .u16 0], .int .i64 30]) := by
  unfold Gives
  obtain ⟨c1, c2⟩ := cutC_len 45 l
  obtain ⟨p0, p1⟩ := numV16_bd (cutC 45 l).1
  obtain ⟨q0, q1⟩ := numV16_bd (cutC 45 l).2.1
  have Htwo := Lib.hid htwo
  have Hle := Lib.hid hle
  have tok1 : True := trivial
  clear htwo hle
  go_enter Tryz.func31, Tryz.ntmps31
  go_wp2_with (first
    | (go_at_call 53; refine ((scut1_any l 45 _ (g.up (by repeat (with_reducible first | exact Up.refl _ | refine Up.ext ?_ _ | refine Up.drew ?_ | refine Up.alloc ?_ _ | refine Up.setCell ?_ (by simp) _))) hs).cast (by rw [Htwo.out])).mono ?_; rintro e w' ⟨rfl, x, rfl⟩; have hx : w.heap.size < x.w.heap.size := x.lt (by simp [go_sem]); have hx1 : w.heap.size + 1 < x.w.heap.size := x.lt (by simp))
    | (go_at_call 56; have := tok1; refine ((number16_any (cutC 45 l).1 _ (g.up (by repeat (with_reducible first | exact Up.refl _ | refine Up.ext ?_ _ | refine Up.drew ?_ | refine Up.alloc ?_ _ | refine Up.setCell ?_ (by simp) _))) (by omega))).mono ?_; rintro e w' ⟨rfl, y, rfl⟩; clear tok1; have hy : w.heap.size < y.w.heap.size := y.lt hx; have hy1 : w.heap.size + 1 < y.w.heap.size := y.lt hx1)
    | (go_at_call 56; refine ((number16_any (cutC 45 l).2.1 _ (g.up (by repeat (with_reducible first | exact Up.refl _ | refine Up.ext ?_ _ | refine Up.drew ?_ | refine Up.alloc ?_ _ | refine Up.setCell ?_ (by simp) _))) (by omega))).mono ?_; rintro e w' ⟨rfl, z, rfl⟩; have hz : w.heap.size < z.w.heap.size := z.lt (by rw [World.size_setCell]; exact hy); have hz1 : w.heap.size + 1 < z.w.heap.size := z.lt (by rw [World.size_setCell]; exact hy1))
    | (go_at_call 35; refine ((rangeText_any _ _ _ (g.up (by repeat (with_reducible first | exact Up.refl _ | refine Up.ext ?_ _ | refine Up.drew ?_ | refine Up.alloc ?_ _ | refine Up.setCell ?_ (by simp) _))) p0 p1 q0 q1).cast (by rw [Hle.out])).mono ?_; rintro e w' ⟨rfl, t, rfl⟩; have ht : w.heap.size < t.w.heap.size := t.lt (by rw [World.size_setCell]; exact hz); have ht1 : w.heap.size + 1 < t.w.heap.size := t.lt (by rw [World.size_setCell]; exact hz1)))
  refine bodyPost_ret (v := Value.tuple #[.agg #[.int .u16 0, .int .u16 0], .int .i64 30]) (by simp [results, Tryz.results31, go_sem, hx, hy, hz]) rfl ⟨rfl, Up.mk (by repeat (with_reducible first | exact Up.refl _ | refine Up.ext ?_ _ | refine Up.drew ?_ | refine Up.alloc ?_ _ | refine Up.setCell ?_ (by simp) _))⟩
set_option maxHeartbeats 2000000 in
theorem readRange_ok2 (l : List UInt8) (w : World) (g : Good w) (hs : l.length < 4294967281) (hstar : (l == [42]) = false) (htwo : (cutC 45 l).2.2 = true)
    (hle : (if (numV 65536 (cutC 45 l).1) ≤ (numV 65536 (cutC 45 l).2.1) then Value.tuple #[.string ⟨(rangeTextL (numV 65536 (cutC 45 l).1) (numV 65536 (cutC 45 l).2.1)).toArray⟩, .int .i64 0] else .tuple #[.string ⟨#[]⟩, .int .i64 32]) = .tuple #[.string ⟨(rangeTextL (numV 65536 (cutC 45 l).1) (numV 65536 (cutC 45 l).2.1)).toArray⟩, .int .i64 0]) (heq : (rangeTextL (numV 65536 (cutC 45 l).1) (numV 65536 (cutC 45 l).2.1) == l) = true) :
    Gives Tryz.prog 31 #[.string ⟨l.toArray⟩] w (Value.tuple #[.agg #[.int .u16 (numV 65536 (cutC 45 l).1), .int .u16 (numV 65536 (cutC 45 l).2.1)], .int .i64 0]) := by
  unfold Gives
  obtain ⟨c1, c2⟩ := cutC_len 45 l
  obtain ⟨p0, p1⟩ := numV16_bd (cutC 45 l).1
  obtain ⟨q0, q1⟩ := numV16_bd (cutC 45 l).2.1
  have Htwo := Lib.hid htwo
  have Hle := Lib.hid hle
  have tok1 : True := trivial
  clear htwo hle
  go_enter Tryz.func31, Tryz.ntmps31
  go_wp2_with (first
    | (go_at_call 53; refine ((scut1_any l 45 _ (g.up (by repeat (with_reducible first | exact Up.refl _ | refine Up.ext ?_ _ | refine Up.drew ?_ | refine Up.alloc ?_ _ | refine Up.setCell ?_ (by simp) _))) hs).cast (by rw [Htwo.out])).mono ?_; rintro e w' ⟨rfl, x, rfl⟩; have hx : w.heap.size < x.w.heap.size := x.lt (by simp [go_sem]); have hx1 : w.heap.size + 1 < x.w.heap.size := x.lt (by simp))
    | (go_at_call 56; have := tok1; refine ((number16_any (cutC 45 l).1 _ (g.up (by repeat (with_reducible first | exact Up.refl _ | refine Up.ext ?_ _ | refine Up.drew ?_ | refine Up.alloc ?_ _ | refine Up.setCell ?_ (by simp) _))) (by omega))).mono ?_; rintro e w' ⟨rfl, y, rfl⟩; clear tok1; have hy : w.heap.size < y.w.heap.size := y.lt hx; have hy1 : w.heap.size + 1 < y.w.heap.size := y.lt hx1)
    | (go_at_call 56; refine ((number16_any (cutC 45 l).2.1 _ (g.up (by repeat (with_reducible first | exact Up.refl _ | refine Up.ext ?_ _ | refine Up.drew ?_ | refine Up.alloc ?_ _ | refine Up.setCell ?_ (by simp) _))) (by omega))).mono ?_; rintro e w' ⟨rfl, z, rfl⟩; have hz : w.heap.size < z.w.heap.size := z.lt (by rw [World.size_setCell]; exact hy); have hz1 : w.heap.size + 1 < z.w.heap.size := z.lt (by rw [World.size_setCell]; exact hy1))
    | (go_at_call 35; refine ((rangeText_any _ _ _ (g.up (by repeat (with_reducible first | exact Up.refl _ | refine Up.ext ?_ _ | refine Up.drew ?_ | refine Up.alloc ?_ _ | refine Up.setCell ?_ (by simp) _))) p0 p1 q0 q1).cast (by rw [Hle.out])).mono ?_; rintro e w' ⟨rfl, t, rfl⟩; have ht : w.heap.size < t.w.heap.size := t.lt (by rw [World.size_setCell]; exact hz); have ht1 : w.heap.size + 1 < t.w.heap.size := t.lt (by rw [World.size_setCell]; exact hz1)))
  refine bodyPost_ret (v := Value.tuple #[.agg #[.int .u16 (numV 65536 (cutC 45 l).1), .int .u16 (numV 65536 (cutC 45 l).2.1)], .int .i64 0]) (by simp [results, Tryz.results31, go_sem, hx, hy, hz]) rfl ⟨rfl, Up.mk (by repeat (with_reducible first | exact Up.refl _ | refine Up.ext ?_ _ | refine Up.drew ?_ | refine Up.alloc ?_ _ | refine Up.setCell ?_ (by simp) _))⟩
set_option maxHeartbeats 2000000 in
theorem readRange_gt1 (l : List UInt8) (w : World) (g : Good w) (hs : l.length < 4294967281) (hstar : (l == [42]) = false) (htwo : (cutC 45 l).2.2 = false)
    (hle : (if (numV 65536 (cutC 45 l).1) ≤ (numV 65536 (cutC 45 l).1) then Value.tuple #[.string ⟨(rangeTextL (numV 65536 (cutC 45 l).1) (numV 65536 (cutC 45 l).1)).toArray⟩, .int .i64 0] else .tuple #[.string ⟨#[]⟩, .int .i64 32]) = .tuple #[.string ⟨#[]⟩, .int .i64 32]) :
    Gives Tryz.prog 31 #[.string ⟨l.toArray⟩] w (Value.tuple #[.agg #[.int .u16 0, .int .u16 0], .int .i64 30]) := by
  unfold Gives
  obtain ⟨c1, c2⟩ := cutC_len 45 l
  obtain ⟨p0, p1⟩ := numV16_bd (cutC 45 l).1
  obtain ⟨q0, q1⟩ := numV16_bd (cutC 45 l).1
  have Htwo := Lib.hid htwo
  have Hle := Lib.hid hle
  have tok1 : True := trivial
  clear htwo hle
  go_enter Tryz.func31, Tryz.ntmps31
  go_wp2_with (first
    | (go_at_call 53; refine ((scut1_any l 45 _ (g.up (by repeat (with_reducible first | exact Up.refl _ | refine Up.ext ?_ _ | refine Up.drew ?_ | refine Up.alloc ?_ _ | refine Up.setCell ?_ (by simp) _))) hs).cast (by rw [Htwo.out])).mono ?_; rintro e w' ⟨rfl, x, rfl⟩; have hx : w.heap.size < x.w.heap.size := x.lt (by simp [go_sem]); have hx1 : w.heap.size + 1 < x.w.heap.size := x.lt (by simp))
    | (go_at_call 56; have := tok1; refine ((number16_any (cutC 45 l).1 _ (g.up (by repeat (with_reducible first | exact Up.refl _ | refine Up.ext ?_ _ | refine Up.drew ?_ | refine Up.alloc ?_ _ | refine Up.setCell ?_ (by simp) _))) (by omega))).mono ?_; rintro e w' ⟨rfl, y, rfl⟩; clear tok1; have hy : w.heap.size < y.w.heap.size := y.lt hx; have hy1 : w.heap.size + 1 < y.w.heap.size := y.lt hx1)
    | (go_at_call 56; refine ((number16_any (cutC 45 l).1 _ (g.up (by repeat (with_reducible first | exact Up.refl _ | refine Up.ext ?_ _ | refine Up.drew ?_ | refine Up.alloc ?_ _ | refine Up.setCell ?_ (by simp) _))) (by omega))).mono ?_; rintro e w' ⟨rfl, z, rfl⟩; have hz : w.heap.size < z.w.heap.size := z.lt (by rw [World.size_setCell]; exact hy); have hz1 : w.heap.size + 1 < z.w.heap.size := z.lt (by rw [World.size_setCell]; exact hy1))
    | (go_at_call 35; refine ((rangeText_any _ _ _ (g.up (by repeat (with_reducible first | exact Up.refl _ | refine Up.ext ?_ _ | refine Up.drew ?_ | refine Up.alloc ?_ _ | refine Up.setCell ?_ (by simp) _))) p0 p1 q0 q1).cast (by rw [Hle.out])).mono ?_; rintro e w' ⟨rfl, t, rfl⟩; have ht : w.heap.size < t.w.heap.size := t.lt (by rw [World.size_setCell]; exact hz); have ht1 : w.heap.size + 1 < t.w.heap.size := t.lt (by rw [World.size_setCell]; exact hz1)))
  refine bodyPost_ret (v := Value.tuple #[.agg #[.int .u16 0, .int .u16 0], .int .i64 30]) (by simp [results, Tryz.results31, go_sem, hx, hy, hz]) rfl ⟨rfl, Up.mk (by repeat (with_reducible first | exact Up.refl _ | refine Up.ext ?_ _ | refine Up.drew ?_ | refine Up.alloc ?_ _ | refine Up.setCell ?_ (by simp) _))⟩
set_option maxHeartbeats 2000000 in
theorem readRange_ne1 (l : List UInt8) (w : World) (g : Good w) (hs : l.length < 4294967281) (hstar : (l == [42]) = false) (htwo : (cutC 45 l).2.2 = false)
    (hle : (if (numV 65536 (cutC 45 l).1) ≤ (numV 65536 (cutC 45 l).1) then Value.tuple #[.string ⟨(rangeTextL (numV 65536 (cutC 45 l).1) (numV 65536 (cutC 45 l).1)).toArray⟩, .int .i64 0] else .tuple #[.string ⟨#[]⟩, .int .i64 32]) = .tuple #[.string ⟨(rangeTextL (numV 65536 (cutC 45 l).1) (numV 65536 (cutC 45 l).1)).toArray⟩, .int .i64 0]) (heq : (rangeTextL (numV 65536 (cutC 45 l).1) (numV 65536 (cutC 45 l).1) == l) = false) :
    Gives Tryz.prog 31 #[.string ⟨l.toArray⟩] w (Value.tuple #[.agg #[.int .u16 0, .int .u16 0], .int .i64 30]) := by
  unfold Gives
  obtain ⟨c1, c2⟩ := cutC_len 45 l
  obtain ⟨p0, p1⟩ := numV16_bd (cutC 45 l).1
  obtain ⟨q0, q1⟩ := numV16_bd (cutC 45 l).1
  have Htwo := Lib.hid htwo
  have Hle := Lib.hid hle
  have tok1 : True := trivial
  clear htwo hle
  go_enter Tryz.func31, Tryz.ntmps31
  go_wp2_with (first
    | (go_at_call 53; refine ((scut1_any l 45 _ (g.up (by repeat (with_reducible first | exact Up.refl _ | refine Up.ext ?_ _ | refine Up.drew ?_ | refine Up.alloc ?_ _ | refine Up.setCell ?_ (by simp) _))) hs).cast (by rw [Htwo.out])).mono ?_; rintro e w' ⟨rfl, x, rfl⟩; have hx : w.heap.size < x.w.heap.size := x.lt (by simp [go_sem]); have hx1 : w.heap.size + 1 < x.w.heap.size := x.lt (by simp))
    | (go_at_call 56; have := tok1; refine ((number16_any (cutC 45 l).1 _ (g.up (by repeat (with_reducible first | exact Up.refl _ | refine Up.ext ?_ _ | refine Up.drew ?_ | refine Up.alloc ?_ _ | refine Up.setCell ?_ (by simp) _))) (by omega))).mono ?_; rintro e w' ⟨rfl, y, rfl⟩; clear tok1; have hy : w.heap.size < y.w.heap.size := y.lt hx; have hy1 : w.heap.size + 1 < y.w.heap.size := y.lt hx1)
    | (go_at_call 56; refine ((number16_any (cutC 45 l).1 _ (g.up (by repeat (with_reducible first | exact Up.refl _ | refine Up.ext ?_ _ | refine Up.drew ?_ | refine Up.alloc ?_ _ | refine Up.setCell ?_ (by simp) _))) (by omega))).mono ?_; rintro e w' ⟨rfl, z, rfl⟩; have hz : w.heap.size < z.w.heap.size := z.lt (by rw [World.size_setCell]; exact hy); have hz1 : w.heap.size + 1 < z.w.heap.size := z.lt (by rw [World.size_setCell]; exact hy1))
    | (go_at_call 35; refine ((rangeText_any _ _ _ (g.up (by repeat (with_reducible first | exact Up.refl _ | refine Up.ext ?_ _ | refine Up.drew ?_ | refine Up.alloc ?_ _ | refine Up.setCell ?_ (by simp) _))) p0 p1 q0 q1).cast (by rw [Hle.out])).mono ?_; rintro e w' ⟨rfl, t, rfl⟩; have ht : w.heap.size < t.w.heap.size := t.lt (by rw [World.size_setCell]; exact hz); have ht1 : w.heap.size + 1 < t.w.heap.size := t.lt (by rw [World.size_setCell]; exact hz1)))
  refine bodyPost_ret (v := Value.tuple #[.agg #[.int .u16 0, .int .u16 0], .int .i64 30]) (by simp [results, Tryz.results31, go_sem, hx, hy, hz]) rfl ⟨rfl, Up.mk (by repeat (with_reducible first | exact Up.refl _ | refine Up.ext ?_ _ | refine Up.drew ?_ | refine Up.alloc ?_ _ | refine Up.setCell ?_ (by simp) _))⟩
set_option maxHeartbeats 2000000 in
theorem readRange_ok1 (l : List UInt8) (w : World) (g : Good w) (hs : l.length < 4294967281) (hstar : (l == [42]) = false) (htwo : (cutC 45 l).2.2 = false)
    (hle : (if (numV 65536 (cutC 45 l).1) ≤ (numV 65536 (cutC 45 l).1) then Value.tuple #[.string ⟨(rangeTextL (numV 65536 (cutC 45 l).1) (numV 65536 (cutC 45 l).1)).toArray⟩, .int .i64 0] else .tuple #[.string ⟨#[]⟩, .int .i64 32]) = .tuple #[.string ⟨(rangeTextL (numV 65536 (cutC 45 l).1) (numV 65536 (cutC 45 l).1)).toArray⟩, .int .i64 0]) (heq : (rangeTextL (numV 65536 (cutC 45 l).1) (numV 65536 (cutC 45 l).1) == l) = true) :
    Gives Tryz.prog 31 #[.string ⟨l.toArray⟩] w (Value.tuple #[.agg #[.int .u16 (numV 65536 (cutC 45 l).1), .int .u16 (numV 65536 (cutC 45 l).1)], .int .i64 0]) := by
  unfold Gives
  obtain ⟨c1, c2⟩ := cutC_len 45 l
  obtain ⟨p0, p1⟩ := numV16_bd (cutC 45 l).1
  obtain ⟨q0, q1⟩ := numV16_bd (cutC 45 l).1
  have Htwo := Lib.hid htwo
  have Hle := Lib.hid hle
  have tok1 : True := trivial
  clear htwo hle
  go_enter Tryz.func31, Tryz.ntmps31
  go_wp2_with (first
    | (go_at_call 53; refine ((scut1_any l 45 _ (g.up (by repeat (with_reducible first | exact Up.refl _ | refine Up.ext ?_ _ | refine Up.drew ?_ | refine Up.alloc ?_ _ | refine Up.setCell ?_ (by simp) _))) hs).cast (by rw [Htwo.out])).mono ?_; rintro e w' ⟨rfl, x, rfl⟩; have hx : w.heap.size < x.w.heap.size := x.lt (by simp [go_sem]); have hx1 : w.heap.size + 1 < x.w.heap.size := x.lt (by simp))
    | (go_at_call 56; have := tok1; refine ((number16_any (cutC 45 l).1 _ (g.up (by repeat (with_reducible first | exact Up.refl _ | refine Up.ext ?_ _ | refine Up.drew ?_ | refine Up.alloc ?_ _ | refine Up.setCell ?_ (by simp) _))) (by omega))).mono ?_; rintro e w' ⟨rfl, y, rfl⟩; clear tok1; have hy : w.heap.size < y.w.heap.size := y.lt hx; have hy1 : w.heap.size + 1 < y.w.heap.size := y.lt hx1)
    | (go_at_call 56; refine ((number16_any (cutC 45 l).1 _ (g.up (by repeat (with_reducible first | exact Up.refl _ | refine Up.ext ?_ _ | refine Up.drew ?_ | refine Up.alloc ?_ _ | refine Up.setCell ?_ (by simp) _))) (by omega))).mono ?_; rintro e w' ⟨rfl, z, rfl⟩; have hz : w.heap.size < z.w.heap.size := z.lt (by rw [World.size_setCell]; exact hy); have hz1 : w.heap.size + 1 < z.w.heap.size := z.lt (by rw [World.size_setCell]; exact hy1))
    | (go_at_call 35; refine ((rangeText_any _ _ _ (g.up (by repeat (with_reducible first | exact Up.refl _ | refine Up.ext ?_ _ | refine Up.drew ?_ | refine Up.alloc ?_ _ | refine Up.setCell ?_ (by simp) _))) p0 p1 q0 q1).cast (by rw [Hle.out])).mono ?_; rintro e w' ⟨rfl, t, rfl⟩; have ht : w.heap.size < t.w.heap.size := t.lt (by rw [World.size_setCell]; exact hz); have ht1 : w.heap.size + 1 < t.w.heap.size := t.lt (by rw [World.size_setCell]; exact hz1)))
  refine bodyPost_ret (v := Value.tuple #[.agg #[.int .u16 (numV 65536 (cutC 45 l).1), .int .u16 (numV 65536 (cutC 45 l).1)], .int .i64 0]) (by simp [results, Tryz.results31, go_sem, hx, hy, hz]) rfl ⟨rfl, Up.mk (by repeat (with_reducible first | exact Up.refl _ | refine Up.ext ?_ _ | refine Up.drew ?_ | refine Up.alloc ?_ _ | refine Up.setCell ?_ (by simp) _))⟩
theorem readRange_any (l : List UInt8) (w : World) (g : Good w) (hs : l.length < 4294967281) :
    Gives Tryz.prog 31 #[.string ⟨l.toArray⟩] w (readRangeV l) := by
  by_cases h : l = [42]
  · subst h
    exact (readRange_star w g).cast (by simp [readRangeV, readRangeL])
  · have hstar : (l == [42]) = false := by simpa using h
    have bad : ¬ (fromL l ≤ toL l ∧ rangeTextL (fromL l) (toL l) = l) → readRangeV l = Value.tuple #[.agg #[.int .u16 0, .int .u16 0], .int .i64 30] := fun hn => by
      simp only [readRangeV, readRangeL]; rw [if_neg h, if_neg hn]
    have good : (fromL l ≤ toL l ∧ rangeTextL (fromL l) (toL l) = l) → readRangeV l = Value.tuple #[.agg #[.int .u16 (fromL l), .int .u16 (toL l)], .int .i64 0] := fun hn => by
      simp only [readRangeV, readRangeL]; rw [if_neg h, if_pos hn]
    cases htwo : (cutC 45 l).2.2
    · have et : toL l = numV 65536 (cutC 45 l).1 := by unfold toL; rw [htwo]; rfl
      rw [et] at bad good
      by_cases hle : fromL l ≤ numV 65536 (cutC 45 l).1
      · by_cases heq : rangeTextL (fromL l) (numV 65536 (cutC 45 l).1) = l
        · exact (readRange_ok1 l w g hs hstar htwo (if_pos hle) (by unfold fromL at heq; simpa using heq)).cast (good ⟨hle, by assumption⟩).symm
        · exact (readRange_ne1 l w g hs hstar htwo (if_pos hle) (by unfold fromL at heq; simpa using heq)).cast (bad (fun hn => heq hn.2)).symm
      · exact (readRange_gt1 l w g hs hstar htwo (if_neg hle)).cast (bad (fun hn => hle hn.1)).symm
    · have et : toL l = numV 65536 (cutC 45 l).2.1 := by unfold toL; rw [htwo]; rfl
      rw [et] at bad good
      by_cases hle : fromL l ≤ numV 65536 (cutC 45 l).2.1
      · by_cases heq : rangeTextL (fromL l) (numV 65536 (cutC 45 l).2.1) = l
        · exact (readRange_ok2 l w g hs hstar htwo (if_pos hle) (by unfold fromL at heq; simpa using heq)).cast (good ⟨hle, by assumption⟩).symm
        · exact (readRange_ne2 l w g hs hstar htwo (if_pos hle) (by unfold fromL at heq; simpa using heq)).cast (bad (fun hn => heq hn.2)).symm
      · exact (readRange_gt2 l w g hs hstar htwo (if_neg hle)).cast (bad (fun hn => hle hn.1)).symm
end Go.Proofs.YtdiiicnjbgimmaaGreatDoor
