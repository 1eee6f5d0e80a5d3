/- Prefixes, ranges and keys read: what the reading functions of package addr return. -/
import Derived.Test.YtdiiicnjbgimmaaGreatDoorAddr4
import Derived.Test.YtdiiicnjbgimmaaGreatDoorAddr1
namespace Go.Ab
theorem readL_bd {l : List UInt8} {a : Int} (h : readL l = some a) : 0 ≤ a ∧ a < 4294967296 := by
  unfold readL at h
  split at h
  · split at h
    · rename_i p q r s _ _
      have := accL_bd (fourL p q r s) 4
      simp only [Int.reducePow] at this
      injection h with h
      rw [h] at this; exact this
    · cases h
  · cases h
/-- The prefix of a text. -/
def readPrefixL (l : List UInt8) : Option (Int × Int) :=
  match readL (cutC 47 l).1 with
  | some a => if numOk 256 (cutC 47 l).2.1 && rightB a (numV 256 (cutC 47 l).2.1) then some (a, numV 256 (cutC 47 l).2.1) else none
  | none => none
def readPrefixV (l : List UInt8) : Value := match readPrefixL l with | some (a, n) => .tuple #[.agg #[.int .u32 a, .int .u8 n], .int .i64 0] | none => .tuple #[.agg #[.int .u32 0, .int .u8 0], .int .i64 30]
end Go.Ab
namespace Go.Proofs.YtdiiicnjbgimmaaGreatDoor
open Go.RowKit Go.Ab

set_option maxHeartbeats 2000000 in
theorem readPrefix_e (l : List UInt8) (w : World) (g : Good w) (hs : l.length < 4294967281) (b : Bool) (hv : readV (cutC 47 l).1 = .tuple #[.int .u32 0, .int .i64 30]) (hn : numOk 256 (cutC 47 l).2.1 = b) :
    Gives Tryz.prog 29 #[.string ⟨l.toArray⟩] w (Value.tuple #[.agg #[.int .u32 0, .int .u8 0], .int .i64 30]) := by
  unfold Gives
  obtain ⟨c1, c2⟩ := cutC_len 47 l
  have Hv := Lib.hid hv; have Hn := Lib.hid hn
  clear hv hn
  go_enter Tryz.func29, Tryz.ntmps29
  go_wp2_with (first
    | (go_at_call 53; refine (scut1_any l 47 _ (g.up (by repeat (with_reducible first | exact Up.refl _ | refine Up.ext ?_ _ | refine Up.drew ?_ | refine Up.alloc ?_ _ | refine Up.setCell ?_ (by simp) _))) hs).mono ?_; rintro e w' ⟨rfl, x, rfl⟩; have hx : w.heap.size < x.w.heap.size := x.lt (by simp))
    | (go_at_call 27; refine ((read_any (cutC 47 l).1 _ (g.up (by repeat (with_reducible first | exact Up.refl _ | refine Up.ext ?_ _ | refine Up.drew ?_ | refine Up.alloc ?_ _ | refine Up.setCell ?_ (by simp) _))) (by omega)).cast Hv.out).mono ?_; rintro e w' ⟨rfl, y, rfl⟩; have hy : w.heap.size < y.w.heap.size := y.lt hx)
    | (go_at_call 51; refine ((number8_any (cutC 47 l).2.1 _ (g.up (by repeat (with_reducible first | exact Up.refl _ | refine Up.ext ?_ _ | refine Up.drew ?_ | refine Up.alloc ?_ _ | refine Up.setCell ?_ (by simp) _))) (by omega)).cast (by rw [Hn.out])).mono ?_; rintro e w' ⟨rfl, z, rfl⟩; have hz : w.heap.size < z.w.heap.size := z.lt hy))
  refine bodyPost_ret (v := Value.tuple #[.agg #[.int .u32 0, .int .u8 0], .int .i64 30]) (by simp [results, Tryz.results29, go_sem, hx, hy, hz]) rfl ⟨rfl, Up.mk (by repeat (with_reducible first | exact Up.refl _ | refine Up.ext ?_ _ | refine Up.drew ?_ | refine Up.alloc ?_ _ | refine Up.setCell ?_ (by simp) _))⟩
set_option maxHeartbeats 2000000 in
theorem readPrefix_n (l : List UInt8) (w : World) (g : Good w) (hs : l.length < 4294967281) (a : Int) (hv : readV (cutC 47 l).1 = .tuple #[.int .u32 a, .int .i64 0]) (hn : numOk 256 (cutC 47 l).2.1 = false) :
    Gives Tryz.prog 29 #[.string ⟨l.toArray⟩] w (Value.tuple #[.agg #[.int .u32 0, .int .u8 0], .int .i64 30]) := by
  unfold Gives
  obtain ⟨c1, c2⟩ := cutC_len 47 l
  have Hv := Lib.hid hv; have Hn := Lib.hid hn
  clear hv hn
  go_enter Tryz.func29, Tryz.ntmps29
  go_wp2_with (first
    | (go_at_call 53; refine (scut1_any l 47 _ (g.up (by repeat (with_reducible first | exact Up.refl _ | refine Up.ext ?_ _ | refine Up.drew ?_ | refine Up.alloc ?_ _ | refine Up.setCell ?_ (by simp) _))) hs).mono ?_; rintro e w' ⟨rfl, x, rfl⟩; have hx : w.heap.size < x.w.heap.size := x.lt (by simp))
    | (go_at_call 27; refine ((read_any (cutC 47 l).1 _ (g.up (by repeat (with_reducible first | exact Up.refl _ | refine Up.ext ?_ _ | refine Up.drew ?_ | refine Up.alloc ?_ _ | refine Up.setCell ?_ (by simp) _))) (by omega)).cast Hv.out).mono ?_; rintro e w' ⟨rfl, y, rfl⟩; have hy : w.heap.size < y.w.heap.size := y.lt hx)
    | (go_at_call 51; refine ((number8_any (cutC 47 l).2.1 _ (g.up (by repeat (with_reducible first | exact Up.refl _ | refine Up.ext ?_ _ | refine Up.drew ?_ | refine Up.alloc ?_ _ | refine Up.setCell ?_ (by simp) _))) (by omega)).cast (by rw [Hn.out])).mono ?_; rintro e w' ⟨rfl, z, rfl⟩; have hz : w.heap.size < z.w.heap.size := z.lt hy))
  refine bodyPost_ret (v := Value.tuple #[.agg #[.int .u32 0, .int .u8 0], .int .i64 30]) (by simp [results, Tryz.results29, go_sem, hx, hy, hz]) rfl ⟨rfl, Up.mk (by repeat (with_reducible first | exact Up.refl _ | refine Up.ext ?_ _ | refine Up.drew ?_ | refine Up.alloc ?_ _ | refine Up.setCell ?_ (by simp) _))⟩
set_option maxHeartbeats 2000000 in
theorem readPrefix_r (l : List UInt8) (w : World) (g : Good w) (hs : l.length < 4294967281) (a : Int) (a0 : 0 ≤ a) (a1 : a < 4294967296) (n0 : 0 ≤ numV 256 (cutC 47 l).2.1) (hv : readV (cutC 47 l).1 = .tuple #[.int .u32 a, .int .i64 0]) (hn : numOk 256 (cutC 47 l).2.1 = true) (hr : rightB a (numV 256 (cutC 47 l).2.1) = false) :
    Gives Tryz.prog 29 #[.string ⟨l.toArray⟩] w (Value.tuple #[.agg #[.int .u32 0, .int .u8 0], .int .i64 30]) := by
  unfold Gives
  obtain ⟨c1, c2⟩ := cutC_len 47 l
  have Hv := Lib.hid hv; have Hn := Lib.hid hn
  clear hv hn
  have Hr := Lib.hid hr
  clear hr
  go_enter Tryz.func29, Tryz.ntmps29
  go_wp2_with (first
    | (go_at_call 53; refine (scut1_any l 47 _ (g.up (by repeat (with_reducible first | exact Up.refl _ | refine Up.ext ?_ _ | refine Up.drew ?_ | refine Up.alloc ?_ _ | refine Up.setCell ?_ (by simp) _))) hs).mono ?_; rintro e w' ⟨rfl, x, rfl⟩; have hx : w.heap.size < x.w.heap.size := x.lt (by simp))
    | (go_at_call 27; refine ((read_any (cutC 47 l).1 _ (g.up (by repeat (with_reducible first | exact Up.refl _ | refine Up.ext ?_ _ | refine Up.drew ?_ | refine Up.alloc ?_ _ | refine Up.setCell ?_ (by simp) _))) (by omega)).cast Hv.out).mono ?_; rintro e w' ⟨rfl, y, rfl⟩; have hy : w.heap.size < y.w.heap.size := y.lt hx)
    | (go_at_call 51; refine ((number8_any (cutC 47 l).2.1 _ (g.up (by repeat (with_reducible first | exact Up.refl _ | refine Up.ext ?_ _ | refine Up.drew ?_ | refine Up.alloc ?_ _ | refine Up.setCell ?_ (by simp) _))) (by omega)).cast (by rw [Hn.out])).mono ?_; rintro e w' ⟨rfl, z, rfl⟩; have hz : w.heap.size < z.w.heap.size := z.lt hy)
    | (go_at_call 16; refine ((right_any _ _ _ n0 a0 a1).cast (by rw [Hr.out])).mono ?_; rintro e w' ⟨rfl, t, rfl⟩; have ht : w.heap.size < t.w.heap.size := t.lt (lt_alloc _ hz); have hz2 : w.heap.size < z.w.heap.size + 1 := Nat.lt_succ_of_lt hz))
  refine bodyPost_ret (v := Value.tuple #[.agg #[.int .u32 0, .int .u8 0], .int .i64 30]) (by simp [results, Tryz.results29, go_sem, hx, hy, hz, hz2]) rfl ⟨rfl, Up.mk (by repeat (with_reducible first | exact Up.refl _ | refine Up.ext ?_ _ | refine Up.drew ?_ | refine Up.alloc ?_ _ | refine Up.setCell ?_ (by simp) _))⟩
set_option maxHeartbeats 2000000 in
theorem readPrefix_y (l : List UInt8) (w : World) (g : Good w) (hs : l.length < 4294967281) (a : Int) (a0 : 0 ≤ a) (a1 : a < 4294967296) (n0 : 0 ≤ numV 256 (cutC 47 l).2.1) (hv : readV (cutC 47 l).1 = .tuple #[.int .u32 a, .int .i64 0]) (hn : numOk 256 (cutC 47 l).2.1 = true) (hr : rightB a (numV 256 (cutC 47 l).2.1) = true) :
    Gives Tryz.prog 29 #[.string ⟨l.toArray⟩] w (Value.tuple #[.agg #[.int .u32 a, .int .u8 (numV 256 (cutC 47 l).2.1)], .int .i64 0]) := by
  unfold Gives
  obtain ⟨c1, c2⟩ := cutC_len 47 l
  have Hv := Lib.hid hv; have Hn := Lib.hid hn
  clear hv hn
  have Hr := Lib.hid hr
  clear hr
  go_enter Tryz.func29, Tryz.ntmps29
  go_wp2_with (first
    | (go_at_call 53; refine (scut1_any l 47 _ (g.up (by repeat (with_reducible first | exact Up.refl _ | refine Up.ext ?_ _ | refine Up.drew ?_ | refine Up.alloc ?_ _ | refine Up.setCell ?_ (by simp) _))) hs).mono ?_; rintro e w' ⟨rfl, x, rfl⟩; have hx : w.heap.size < x.w.heap.size := x.lt (by simp))
    | (go_at_call 27; refine ((read_any (cutC 47 l).1 _ (g.up (by repeat (with_reducible first | exact Up.refl _ | refine Up.ext ?_ _ | refine Up.drew ?_ | refine Up.alloc ?_ _ | refine Up.setCell ?_ (by simp) _))) (by omega)).cast Hv.out).mono ?_; rintro e w' ⟨rfl, y, rfl⟩; have hy : w.heap.size < y.w.heap.size := y.lt hx)
    | (go_at_call 51; refine ((number8_any (cutC 47 l).2.1 _ (g.up (by repeat (with_reducible first | exact Up.refl _ | refine Up.ext ?_ _ | refine Up.drew ?_ | refine Up.alloc ?_ _ | refine Up.setCell ?_ (by simp) _))) (by omega)).cast (by rw [Hn.out])).mono ?_; rintro e w' ⟨rfl, z, rfl⟩; have hz : w.heap.size < z.w.heap.size := z.lt hy)
    | (go_at_call 16; refine ((right_any _ _ _ n0 a0 a1).cast (by rw [Hr.out])).mono ?_; rintro e w' ⟨rfl, t, rfl⟩; have ht : w.heap.size < t.w.heap.size := t.lt (lt_alloc _ hz); have hz2 : w.heap.size < z.w.heap.size + 1 := Nat.lt_succ_of_lt hz))
  refine bodyPost_ret (v := Value.tuple #[.agg #[.int .u32 a, .int .u8 (numV 256 (cutC 47 l).2.1)], .int .i64 0]) (by simp [results, Tryz.results29, go_sem, hx, hy, hz, hz2]) rfl ⟨rfl, Up.mk (by repeat (with_reducible first | exact Up.refl _ | refine Up.ext ?_ _ | refine Up.drew ?_ | refine Up.alloc ?_ _ | refine Up.setCell ?_ (by simp) _))⟩
theorem readPrefix_any (l : List UInt8) (w : World) (g : Good w) (hs : l.length < 4294967281) :
    Gives Tryz.prog 29 #[.string ⟨l.toArray⟩] w (readPrefixV l) := by
  rcases hv0 : readL (cutC 47 l).1 with _ | a
  · exact (readPrefix_e l w g hs _ (by unfold readV; rw [hv0]) rfl).cast (by unfold readPrefixV readPrefixL; rw [hv0])
  · have hv : readV (cutC 47 l).1 = .tuple #[.int .u32 a, .int .i64 0] := by unfold readV; rw [hv0]
    obtain ⟨a0, a1⟩ := readL_bd hv0
    have n0 := (numV_bd (cutC 47 l).2.1).1
    cases hn : numOk 256 (cutC 47 l).2.1
    · exact (readPrefix_n l w g hs a hv hn).cast (by unfold readPrefixV readPrefixL; rw [hv0]; simp [hn])
    · cases hr : rightB a (numV 256 (cutC 47 l).2.1)
      · exact (readPrefix_r l w g hs a a0 a1 n0 hv hn hr).cast (by unfold readPrefixV readPrefixL; rw [hv0]; simp [hr])
      · exact (readPrefix_y l w g hs a a0 a1 n0 hv hn hr).cast (by unfold readPrefixV readPrefixL; rw [hv0]; simp [hr, hn])
end Go.Proofs.YtdiiicnjbgimmaaGreatDoor
