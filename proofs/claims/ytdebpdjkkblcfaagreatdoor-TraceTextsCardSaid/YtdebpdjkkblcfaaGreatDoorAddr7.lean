/- Keys read: what ReadKey of package addr returns. -/
import Derived.Test.YtdebpdjkkblcfaaGreatDoorAddr6
import Derived.Test.YtdebpdjkkblcfaaGreatDoorAddr5
namespace Go.Ab
def readI (l : List UInt8) : Int := (readL l).getD 0
def readE (l : List UInt8) : Int := if (readL l).isSome then 0 else 30
theorem readV_eq (l : List UInt8) : readV l = .tuple #[.int .u32 (readI l), .int .i64 (readE l)] := by
  unfold readV readI readE
  rcases h : readL l with _ | a <;> simp
theorem readI_bd (l : List UInt8) : 0 ≤ readI l ∧ readI l < 4294967296 := by
  unfold readI
  rcases h : readL l with _ | a
  · simp
  · exact readL_bd h
/-- The parts of a key that ReadKey guesses. -/
def kRest (l : List UInt8) : List UInt8 := (cutC 32 l).2.1
def kSrc (l : List UInt8) : List UInt8 := (cutC 32 (kRest l)).1
def kDst (l : List UInt8) : List UInt8 := (cutC 32 (kRest l)).2.1
def kPr (l : List UInt8) : Int := numV 256 (cutC 32 l).1
def kS (l : List UInt8) : Int := readI (cutC 58 (kSrc l)).1
def kSp (l : List UInt8) : Int := numV 65536 (cutC 58 (kSrc l)).2.1
def kD (l : List UInt8) : Int := readI (cutC 58 (kDst l)).1
def kDp (l : List UInt8) : Int := numV 65536 (cutC 58 (kDst l)).2.1
def kText (l : List UInt8) : List UInt8 := keyTextL (kPr l) (kS l) (kD l) (kSp l) (kDp l)
def readKeyV (l : List UInt8) : Value :=
  if kText l = l then .tuple #[.agg #[.int .u8 (kPr l), .int .u32 (kS l), .int .u32 (kD l), .int .u16 (kSp l), .int .u16 (kDp l)], .int .i64 0]
  else .tuple #[.agg #[.int .u8 0, .int .u32 0, .int .u32 0, .int .u16 0, .int .u16 0], .int .i64 30]
theorem kRest_len (l : List UInt8) : (kRest l).length ≤ l.length := (cutC_len 32 l).2
theorem kSrc_len (l : List UInt8) : (kSrc l).length ≤ l.length := Nat.le_trans (cutC_len 32 (kRest l)).1 (kRest_len l)
theorem kDst_len (l : List UInt8) : (kDst l).length ≤ l.length := Nat.le_trans (cutC_len 32 (kRest l)).2 (kRest_len l)
end Go.Ab
namespace Go.Proofs.YtdebpdjkkblcfaaGreatDoor
open Go.RowKit Go.Ab

set_option maxHeartbeats 4000000 in
theorem readKey_no (l : List UInt8) (w : World) (g : Good w) (hs : l.length < 4294967281) (heq : (keyTextL (kPr l) (kS l) (kD l) (kSp l) (kDp l) == l) = false) :
    Gives Tryz.prog 45 #[.string ⟨l.toArray⟩] w (Value.tuple #[.agg #[.int .u8 0, .int .u32 0, .int .u32 0, .int .u16 0, .int .u16 0], .int .i64 30]) := by
  unfold Gives
  have b1 := cutC_len 32 l
  have b2 := kRest_len l
  have b3 := kSrc_len l
  have b4 := kDst_len l
  have b5 := cutC_len 58 (kSrc l)
  have b6 := cutC_len 58 (kDst l)
  obtain ⟨b10, b11⟩ := b1
  obtain ⟨b50, b51⟩ := b5
  obtain ⟨b60, b61⟩ := b6
  obtain ⟨r0, r1⟩ := numV_bd (cutC 32 l).1
  obtain ⟨sp0, sp1⟩ := numV16_bd (cutC 58 (kSrc l)).2.1
  obtain ⟨dp0, dp1⟩ := numV16_bd (cutC 58 (kDst l)).2.1
  go_enter Tryz.func45, Tryz.ntmps45
  go_wp2_with fail
  refine (scut1_any l 32 _ (g.up (by repeat (with_reducible first | exact Up.refl _ | refine Up.ext ?_ _ | refine Up.drew ?_ | refine Up.alloc ?_ _ | refine Up.setCell ?_ (by simp) _))) hs).mono ?_
  rintro e w' ⟨rfl, x1, rfl⟩
  have hA1 : w.heap.size < x1.w.heap.size := x1.lt (by simp [go_sem])
  have hB1 : w.heap.size + 1 < x1.w.heap.size := x1.lt (by simp)
  go_wp2_with fail
  refine (scut1_any (kRest l) 32 _ (g.up (by repeat (with_reducible first | exact Up.refl _ | refine Up.ext ?_ _ | refine Up.drew ?_ | refine Up.alloc ?_ _ | refine Up.setCell ?_ (by simp) _))) (by omega)).mono ?_
  rintro e w' ⟨rfl, x2, rfl⟩
  have hA2 : w.heap.size < x2.w.heap.size := x2.lt hA1
  have hB2 : w.heap.size + 1 < x2.w.heap.size := x2.lt hB1
  go_wp2_with fail
  refine (scut1_any (kSrc l) 58 _ (g.up (by repeat (with_reducible first | exact Up.refl _ | refine Up.ext ?_ _ | refine Up.drew ?_ | refine Up.alloc ?_ _ | refine Up.setCell ?_ (by simp) _))) (by omega)).mono ?_
  rintro e w' ⟨rfl, x3, rfl⟩
  have hA3 : w.heap.size < x3.w.heap.size := x3.lt hA2
  have hB3 : w.heap.size + 1 < x3.w.heap.size := x3.lt hB2
  go_wp2_with fail
  refine (scut1_any (kDst l) 58 _ (g.up (by repeat (with_reducible first | exact Up.refl _ | refine Up.ext ?_ _ | refine Up.drew ?_ | refine Up.alloc ?_ _ | refine Up.setCell ?_ (by simp) _))) (by omega)).mono ?_
  rintro e w' ⟨rfl, x4, rfl⟩
  have hA4 : w.heap.size < x4.w.heap.size := x4.lt hA3
  have hB4 : w.heap.size + 1 < x4.w.heap.size := x4.lt hB3
  go_wp2_with fail
  refine (number8_any (cutC 32 l).1 _ (g.up (by repeat (with_reducible first | exact Up.refl _ | refine Up.ext ?_ _ | refine Up.drew ?_ | refine Up.alloc ?_ _ | refine Up.setCell ?_ (by simp) _))) (by omega)).mono ?_
  rintro e w' ⟨rfl, x5, rfl⟩
  have hA5 : w.heap.size < x5.w.heap.size := x5.lt hA4
  have hB5 : w.heap.size + 1 < x5.w.heap.size := x5.lt hB4
  go_wp2_with fail
  refine ((read_any (cutC 58 (kSrc l)).1 _ (g.up (by repeat (with_reducible first | exact Up.refl _ | refine Up.ext ?_ _ | refine Up.drew ?_ | refine Up.alloc ?_ _ | refine Up.setCell ?_ (by simp) _))) (by omega)).cast (readV_eq _)).mono ?_
  rintro e w' ⟨rfl, x6, rfl⟩
  have hA6 : w.heap.size < x6.w.heap.size := x6.lt (by rw [World.size_setCell]; exact hA5)
  have hB6 : w.heap.size + 1 < x6.w.heap.size := x6.lt (by rw [World.size_setCell]; exact hB5)
  go_wp2_with fail
  refine (number16_any (cutC 58 (kSrc l)).2.1 _ (g.up (by repeat (with_reducible first | exact Up.refl _ | refine Up.ext ?_ _ | refine Up.drew ?_ | refine Up.alloc ?_ _ | refine Up.setCell ?_ (by simp) _))) (by omega)).mono ?_
  rintro e w' ⟨rfl, x7, rfl⟩
  have hA7 : w.heap.size < x7.w.heap.size := x7.lt (by rw [World.size_setCell]; exact hA6)
  have hB7 : w.heap.size + 1 < x7.w.heap.size := x7.lt (by rw [World.size_setCell]; exact hB6)
  go_wp2_with fail
  refine ((read_any (cutC 58 (kDst l)).1 _ (g.up (by repeat (with_reducible first | exact Up.refl _ | refine Up.ext ?_ _ | refine Up.drew ?_ | refine Up.alloc ?_ _ | refine Up.setCell ?_ (by simp) _))) (by omega)).cast (readV_eq _)).mono ?_
  rintro e w' ⟨rfl, x8, rfl⟩
  have hA8 : w.heap.size < x8.w.heap.size := x8.lt (by rw [World.size_setCell]; exact hA7)
  have hB8 : w.heap.size + 1 < x8.w.heap.size := x8.lt (by rw [World.size_setCell]; exact hB7)
  go_wp2_with fail
  refine (number16_any (cutC 58 (kDst l)).2.1 _ (g.up (by repeat (with_reducible first | exact Up.refl _ | refine Up.ext ?_ _ | refine Up.drew ?_ | refine Up.alloc ?_ _ | refine Up.setCell ?_ (by simp) _))) (by omega)).mono ?_
  rintro e w' ⟨rfl, x9, rfl⟩
  have hA9 : w.heap.size < x9.w.heap.size := x9.lt (by rw [World.size_setCell]; exact hA8)
  have hB9 : w.heap.size + 1 < x9.w.heap.size := x9.lt (by rw [World.size_setCell]; exact hB8)
  go_wp2_with fail
  refine (keyText_any (kPr l) (kS l) (kD l) (kSp l) (kDp l) _ (g.up (by repeat (with_reducible first | exact Up.refl _ | refine Up.ext ?_ _ | refine Up.drew ?_ | refine Up.alloc ?_ _ | refine Up.setCell ?_ (by simp) _))) r0 r1 sp0 sp1 dp0 dp1).mono ?_
  rintro e w' ⟨rfl, x10, rfl⟩
  have hA10 : w.heap.size < x10.w.heap.size := x10.lt (by rw [World.size_setCell]; exact hA9)
  have hB10 : w.heap.size + 1 < x10.w.heap.size := x10.lt (by rw [World.size_setCell]; exact hB9)
  go_wp2_with fail
  refine bodyPost_ret (v := Value.tuple #[.agg #[.int .u8 0, .int .u32 0, .int .u32 0, .int .u16 0, .int .u16 0], .int .i64 30]) (by simp [results, Tryz.results45, go_sem, hA1, hA2, hA3, hA4, hA5, hA6, hA7, hA8, hA9]) rfl ⟨rfl, Up.mk (by repeat (with_reducible first | exact Up.refl _ | refine Up.ext ?_ _ | refine Up.drew ?_ | refine Up.alloc ?_ _ | refine Up.setCell ?_ (by simp) _))⟩

set_option maxHeartbeats 4000000 in
theorem readKey_yes (l : List UInt8) (w : World) (g : Good w) (hs : l.length < 4294967281) (heq : (keyTextL (kPr l) (kS l) (kD l) (kSp l) (kDp l) == l) = true) :
    Gives Tryz.prog 45 #[.string ⟨l.toArray⟩] w (Value.tuple #[.agg #[.int .u8 (kPr l), .int .u32 (kS l), .int .u32 (kD l), .int .u16 (kSp l), .int .u16 (kDp l)], .int .i64 0]) := by
  unfold Gives
  have b1 := cutC_len 32 l
  have b2 := kRest_len l
  have b3 := kSrc_len l
  have b4 := kDst_len l
  have b5 := cutC_len 58 (kSrc l)
  have b6 := cutC_len 58 (kDst l)
  obtain ⟨b10, b11⟩ := b1
  obtain ⟨b50, b51⟩ := b5
  obtain ⟨b60, b61⟩ := b6
  obtain ⟨r0, r1⟩ := numV_bd (cutC 32 l).1
  obtain ⟨sp0, sp1⟩ := numV16_bd (cutC 58 (kSrc l)).2.1
  obtain ⟨dp0, dp1⟩ := numV16_bd (cutC 58 (kDst l)).2.1
  go_enter Tryz.func45, Tryz.ntmps45
  go_wp2_with fail
  refine (scut1_any l 32 _ (g.up (by repeat (with_reducible first | exact Up.refl _ | refine Up.ext ?_ _ | refine Up.drew ?_ | refine Up.alloc ?_ _ | refine Up.setCell ?_ (by simp) _))) hs).mono ?_
  rintro e w' ⟨rfl, x1, rfl⟩
  have hA1 : w.heap.size < x1.w.heap.size := x1.lt (by simp [go_sem])
  have hB1 : w.heap.size + 1 < x1.w.heap.size := x1.lt (by simp)
  go_wp2_with fail
  refine (scut1_any (kRest l) 32 _ (g.up (by repeat (with_reducible first | exact Up.refl _ | refine Up.ext ?_ _ | refine Up.drew ?_ | refine Up.alloc ?_ _ | refine Up.setCell ?_ (by simp) _))) (by omega)).mono ?_
  rintro e w' ⟨rfl, x2, rfl⟩
  have hA2 : w.heap.size < x2.w.heap.size := x2.lt hA1
  have hB2 : w.heap.size + 1 < x2.w.heap.size := x2.lt hB1
  go_wp2_with fail
  refine (scut1_any (kSrc l) 58 _ (g.up (by repeat (with_reducible first | exact Up.refl _ | refine Up.ext ?_ _ | refine Up.drew ?_ | refine Up.alloc ?_ _ | refine Up.setCell ?_ (by simp) _))) (by omega)).mono ?_
  rintro e w' ⟨rfl, x3, rfl⟩
  have hA3 : w.heap.size < x3.w.heap.size := x3.lt hA2
  have hB3 : w.heap.size + 1 < x3.w.heap.size := x3.lt hB2
  go_wp2_with fail
  refine (scut1_any (kDst l) 58 _ (g.up (by repeat (with_reducible first | exact Up.refl _ | refine Up.ext ?_ _ | refine Up.drew ?_ | refine Up.alloc ?_ _ | refine Up.setCell ?_ (by simp) _))) (by omega)).mono ?_
  rintro e w' ⟨rfl, x4, rfl⟩
  have hA4 : w.heap.size < x4.w.heap.size := x4.lt hA3
  have hB4 : w.heap.size + 1 < x4.w.heap.size := x4.lt hB3
  go_wp2_with fail
  refine (number8_any (cutC 32 l).1 _ (g.up (by repeat (with_reducible first | exact Up.refl _ | refine Up.ext ?_ _ | refine Up.drew ?_ | refine Up.alloc ?_ _ | refine Up.setCell ?_ (by simp) _))) (by omega)).mono ?_
  rintro e w' ⟨rfl, x5, rfl⟩
  have hA5 : w.heap.size < x5.w.heap.size := x5.lt hA4
  have hB5 : w.heap.size + 1 < x5.w.heap.size := x5.lt hB4
  go_wp2_with fail
  refine ((read_any (cutC 58 (kSrc l)).1 _ (g.up (by repeat (with_reducible first | exact Up.refl _ | refine Up.ext ?_ _ | refine Up.drew ?_ | refine Up.alloc ?_ _ | refine Up.setCell ?_ (by simp) _))) (by omega)).cast (readV_eq _)).mono ?_
  rintro e w' ⟨rfl, x6, rfl⟩
  have hA6 : w.heap.size < x6.w.heap.size := x6.lt (by rw [World.size_setCell]; exact hA5)
  have hB6 : w.heap.size + 1 < x6.w.heap.size := x6.lt (by rw [World.size_setCell]; exact hB5)
  go_wp2_with fail
  refine (number16_any (cutC 58 (kSrc l)).2.1 _ (g.up (by repeat (with_reducible first | exact Up.refl _ | refine Up.ext ?_ _ | refine Up.drew ?_ | refine Up.alloc ?_ _ | refine Up.setCell ?_ (by simp) _))) (by omega)).mono ?_
  rintro e w' ⟨rfl, x7, rfl⟩
  have hA7 : w.heap.size < x7.w.heap.size := x7.lt (by rw [World.size_setCell]; exact hA6)
  have hB7 : w.heap.size + 1 < x7.w.heap.size := x7.lt (by rw [World.size_setCell]; exact hB6)
  go_wp2_with fail
  refine ((read_any (cutC 58 (kDst l)).1 _ (g.up (by repeat (with_reducible first | exact Up.refl _ | refine Up.ext ?_ _ | refine Up.drew ?_ | refine Up.alloc ?_ _ | refine Up.setCell ?_ (by simp) _))) (by omega)).cast (readV_eq _)).mono ?_
  rintro e w' ⟨rfl, x8, rfl⟩
  have hA8 : w.heap.size < x8.w.heap.size := x8.lt (by rw [World.size_setCell]; exact hA7)
  have hB8 : w.heap.size + 1 < x8.w.heap.size := x8.lt (by rw [World.size_setCell]; exact hB7)
  go_wp2_with fail
  refine (number16_any (cutC 58 (kDst l)).2.1 _ (g.up (by repeat (with_reducible first | exact Up.refl _ | refine Up.ext ?_ _ | refine Up.drew ?_ | refine Up.alloc ?_ _ | refine Up.setCell ?_ (by simp) _))) (by omega)).mono ?_
  rintro e w' ⟨rfl, x9, rfl⟩
  have hA9 : w.heap.size < x9.w.heap.size := x9.lt (by rw [World.size_setCell]; exact hA8)
  have hB9 : w.heap.size + 1 < x9.w.heap.size := x9.lt (by rw [World.size_setCell]; exact hB8)
  go_wp2_with fail
  refine (keyText_any (kPr l) (kS l) (kD l) (kSp l) (kDp l) _ (g.up (by repeat (with_reducible first | exact Up.refl _ | refine Up.ext ?_ _ | refine Up.drew ?_ | refine Up.alloc ?_ _ | refine Up.setCell ?_ (by simp) _))) r0 r1 sp0 sp1 dp0 dp1).mono ?_
  rintro e w' ⟨rfl, x10, rfl⟩
  have hA10 : w.heap.size < x10.w.heap.size := x10.lt (by rw [World.size_setCell]; exact hA9)
  have hB10 : w.heap.size + 1 < x10.w.heap.size := x10.lt (by rw [World.size_setCell]; exact hB9)
  go_wp2_with fail
  refine bodyPost_ret (v := Value.tuple #[.agg #[.int .u8 (kPr l), .int .u32 (kS l), .int .u32 (kD l), .int .u16 (kSp l), .int .u16 (kDp l)], .int .i64 0]) (by simp [results, Tryz.results45, go_sem, hA1, hA2, hA3, hA4, hA5, hA6, hA7, hA8, hA9, kPr, kS, kSp, kD, kDp]) rfl ⟨rfl, Up.mk (by repeat (with_reducible first | exact Up.refl _ | refine Up.ext ?_ _ | refine Up.drew ?_ | refine Up.alloc ?_ _ | refine Up.setCell ?_ (by simp) _))⟩
theorem readKey_any (l : List UInt8) (w : World) (g : Good w) (hs : l.length < 4294967281) : Gives Tryz.prog 45 #[.string ⟨l.toArray⟩] w (readKeyV l) := by
  by_cases h : kText l = l
  · exact (readKey_yes l w g hs (by unfold kText at h; simpa using h)).cast (by unfold readKeyV; rw [if_pos h])
  · exact (readKey_no l w g hs (by unfold kText at h; simpa using h)).cast (by unfold readKeyV; rw [if_neg h])
end Go.Proofs.YtdebpdjkkblcfaaGreatDoor
