/- The package is awake: the walk of the laws' own check. -/
import Derived.Test.YtdiiicnjbgimmaaGreatDoorAwake1
namespace Go.Proofs.YtdiiicnjbgimmaaGreatDoor
open Go.RowKit Go.Ab
set_option maxHeartbeats 8000000 in
set_option maxRecDepth 20000 in
theorem awake_any (w : World) (g : Good w) : Gives Tryz.prog 6 #[] w (.bool true) := by
  unfold Gives
  go_enter Tryz.func6, Tryz.ntmps6
  go_wp2_with fail
  refine (rd1 _ (g.up (by repeat (with_reducible first | exact Up.refl _ | refine Up.ext ?_ _ | refine Up.drew ?_ | refine Up.alloc ?_ _ | refine Up.setCell ?_ (by simp) _)))).mono ?_
  rintro e w' ⟨rfl, x1, rfl⟩
  go_wp2_with fail
  refine (ct1 _).mono ?_
  rintro e w' ⟨rfl, x2, rfl⟩
  go_wp2_with fail
  refine (pt1 _ (g.up (by repeat (with_reducible first | exact Up.refl _ | refine Up.ext ?_ _ | refine Up.drew ?_ | refine Up.alloc ?_ _ | refine Up.setCell ?_ (by simp) _)))).mono ?_
  rintro e w' ⟨rfl, x3, rfl⟩
  have hA3 : x2.w.heap.size < x3.w.heap.size := x3.lt (by simp)
  go_wp2_with fail
  refine (bd1 _).mono ?_
  rintro e w' ⟨rfl, x4, rfl⟩
  have hA4 : x2.w.heap.size < x4.w.heap.size := x4.lt hA3
  go_wp2_with fail
  refine (cov_six _).mono ?_
  rintro e w' ⟨g1, cap1, rfl, ⟨d0, d1, d2, d3, d4, d5, d6, d7⟩, x5, rfl⟩
  have hA5 : x2.w.heap.size < x5.w.heap.size := x5.lt hA4
  have l5 : g1 < x5.w.heap.size := cell_lt' d0
  go_wp2_with fail
  refine (cov_all _).mono ?_
  rintro e w' ⟨g2, cap2, rfl, ⟨e0, e1⟩, x6, rfl⟩
  have hA6 : x2.w.heap.size < x6.w.heap.size := x6.lt hA5
  have l6 : g2 < x6.w.heap.size := cell_lt' e0
  have l6' : g1 < x6.w.heap.size := x6.lt l5
  have D := (⟨x6.up.cell_some' d0, x6.up.cell_some' d1, x6.up.cell_some' d2, x6.up.cell_some' d3, x6.up.cell_some' d4, x6.up.cell_some' d5, x6.up.cell_some' d6, x6.up.cell_some' d7⟩ : _ ∧ _ ∧ _ ∧ _ ∧ _ ∧ _ ∧ _ ∧ _)
  clear d0 d1 d2 d3 d4 d5 d6 d7
  have HD := Lib.hid D
  clear D
  go_wp2_with fail
  refine (tx1 _ (g.up (by repeat (with_reducible first | exact Up.refl _ | refine Up.ext ?_ _ | refine Up.drew ?_ | refine Up.alloc ?_ _ | refine Up.setCell ?_ (by simp) _)))).mono ?_
  rintro e w' ⟨rfl, x7, rfl⟩
  have hA7 : x2.w.heap.size < x7.w.heap.size := x7.lt hA6
  have l7 : g2 < x7.w.heap.size := x7.lt l6
  go_wp2_with fail
  refine (tx2 _ (g.up (by repeat (with_reducible first | exact Up.refl _ | refine Up.ext ?_ _ | refine Up.drew ?_ | refine Up.alloc ?_ _ | refine Up.setCell ?_ (by simp) _)))).mono ?_
  rintro e w' ⟨rfl, x8, rfl⟩
  have hA8 : x2.w.heap.size < x8.w.heap.size := x8.lt hA7
  have l8 : g2 < x8.w.heap.size := x8.lt l7
  go_wp2_with fail
  refine (hs1 _).mono ?_
  rintro e w' ⟨rfl, x9, rfl⟩
  have hA9 : x2.w.heap.size < x9.w.heap.size := x9.lt hA8
  have l9 : g2 < x9.w.heap.size := x9.lt l8
  go_wp2_with fail
  refine (in1 _).mono ?_
  rintro e w' ⟨rfl, x10, rfl⟩
  have hA10 : x2.w.heap.size < x10.w.heap.size := x10.lt hA9
  have l10 : g2 < x10.w.heap.size := x10.lt l9
  have E0 : x10.w.cell? ⟨g2, 0, none⟩ = some (.int .u32 0) := (((x7.up.ext x8).ext x9).ext x10).cell_some' e0
  have E1 : x10.w.cell? ⟨g2, 1, none⟩ = some (.int .u8 0) := (((x7.up.ext x8).ext x9).ext x10).cell_some' e1
  clear e0 e1
  go_wp2_with fail
  have hg1 : g1 < x10.w.heap.size := x10.lt (x9.lt (x8.lt (x7.lt l6')))
  obtain ⟨d0, d1, d2, d3, d4, d5, d6, d7⟩ := HD.out
  have hu10 : Up x6.w x10.w := ((x7.up.ext x8).ext x9).ext x10
  refine (same_four g1 x10.w.heap.size cap1 _ 167772161 32 167772162 31 167772164 31 167772166 32 _ ?_ ?_ ?_ ?_ ?_ ?_ ?_ ?_ ?_ ?_ ?_ ?_ ?_ ?_ ?_ ?_).mono ?_
  case refine_1 => exact (hu10.alloc _).cell_some' d0
  case refine_2 => exact (hu10.alloc _).cell_some' d1
  case refine_3 => exact (hu10.alloc _).cell_some' d2
  case refine_4 => exact (hu10.alloc _).cell_some' d3
  case refine_5 => exact (hu10.alloc _).cell_some' d4
  case refine_6 => exact (hu10.alloc _).cell_some' d5
  case refine_7 => exact (hu10.alloc _).cell_some' d6
  case refine_8 => exact (hu10.alloc _).cell_some' d7
  case refine_9 => simp [go_sem]
  case refine_10 => simp [go_sem]
  case refine_11 => simp [go_sem]
  case refine_12 => simp [go_sem]
  case refine_13 => simp [go_sem]
  case refine_14 => simp [go_sem]
  case refine_15 => simp [go_sem]
  case refine_16 => simp [go_sem]
  rintro e w' ⟨rfl, x11, rfl⟩
  clear d0 d1 d2 d3 d4 d5 d6 d7 HD hu10 hg1
  clear hA4 hA5 hA6 hA7 hA8 hA9 hA10 hA3 l5 l6 l6' l7 l8 l9 l10 E0 E1
  have hup : Up w x11.w := (by repeat (with_reducible first | exact Up.refl _ | refine Up.ext ?_ _ | refine Up.drew ?_ | refine Up.alloc ?_ _ | refine Up.setCell ?_ (by simp) _))
  generalize x11.w = wo at hup ⊢
  have go : Good wo := g.up hup
  clear x11
  go_wp2_with fail
  go_loopw [121] (fun i wr => ∃ (k : Nat) (i' : Int), k ≤ 10 ∧ i = .int .i64 i' ∧ Hid (i' = k) ∧ ∃ x : Ext (wo.alloc (.cells #[.string ⟨#[49, 48, 46, 48, 46, 48, 46, 48, 49]⟩, .string ⟨#[49, 48, 46, 48, 46, 48]⟩, .string ⟨#[49, 48, 46, 48, 46, 48, 46, 50, 53, 54]⟩, .string ⟨#[49, 48, 46, 48, 46, 48, 46, 49, 46]⟩, .string ⟨#[]⟩, .string ⟨#[49, 48, 46, 48, 46, 48, 46, 49, 47, 56]⟩, .string ⟨#[49, 48, 46, 48, 46, 48, 46, 48, 47, 51, 51]⟩, .string ⟨#[48, 45, 54, 53, 53, 51, 53]⟩, .string ⟨#[56, 48, 45, 56, 48]⟩, .string ⟨#[57, 45, 56]⟩] 9)), wr = x.w) (fun i _ => 10 - (intOf i).toNat)
  case atStart => exact ⟨0, 0, by omega, rfl, rfl, (Up.refl _).mk⟩
  case round =>
    obtain ⟨k, i', hk4, rfl, hi, x, rfl⟩ := hrel
    have m1 : wo.heap.size < x.w.heap.size := x.lt (by simp)
    rcases (by omega : k = 0 ∨ k = 1 ∨ k = 2 ∨ k = 3 ∨ k = 4 ∨ k = 5 ∨ k = 6 ∨ k = 7 ∨ k = 8 ∨ k = 9 ∨ k = 10) with rfl | rfl | rfl | rfl | rfl | rfl | rfl | rfl | rfl | rfl | rfl
    · obtain rfl : i' = 0 := by have := hi.out; omega
      clear hi
      go_wp2_with fail
      refine (rb0 _ (go.up (by repeat (with_reducible first | exact Up.refl _ | refine Up.ext ?_ _ | refine Up.drew ?_ | refine Up.alloc ?_ _ | refine Up.setCell ?_ (by simp) _)))).mono ?_
      rintro e w' ⟨rfl, y1, rfl⟩
      go_wp2_with fail
      refine (rp0 _ (go.up (by repeat (with_reducible first | exact Up.refl _ | refine Up.ext ?_ _ | refine Up.drew ?_ | refine Up.alloc ?_ _ | refine Up.setCell ?_ (by simp) _)))).mono ?_
      rintro e w' ⟨rfl, y2, rfl⟩
      go_wp2_with fail
      refine (rr0 _ (go.up (by repeat (with_reducible first | exact Up.refl _ | refine Up.ext ?_ _ | refine Up.drew ?_ | refine Up.alloc ?_ _ | refine Up.setCell ?_ (by simp) _)))).mono ?_
      rintro e w' ⟨rfl, y3, rfl⟩
      go_wp2_with fail
      go_roundw
      case rel => exact ⟨1, 1, by omega, rfl, rfl, ((((x.up.ext y1).ext y2).alloc _).ext y3 |>.alloc _).mk⟩
      case measure => simp [intOf]
    · obtain rfl : i' = 1 := by have := hi.out; omega
      clear hi
      go_wp2_with fail
      refine (rb1 _ (go.up (by repeat (with_reducible first | exact Up.refl _ | refine Up.ext ?_ _ | refine Up.drew ?_ | refine Up.alloc ?_ _ | refine Up.setCell ?_ (by simp) _)))).mono ?_
      rintro e w' ⟨rfl, y1, rfl⟩
      go_wp2_with fail
      refine (rp1 _ (go.up (by repeat (with_reducible first | exact Up.refl _ | refine Up.ext ?_ _ | refine Up.drew ?_ | refine Up.alloc ?_ _ | refine Up.setCell ?_ (by simp) _)))).mono ?_
      rintro e w' ⟨rfl, y2, rfl⟩
      go_wp2_with fail
      refine (rr1 _ (go.up (by repeat (with_reducible first | exact Up.refl _ | refine Up.ext ?_ _ | refine Up.drew ?_ | refine Up.alloc ?_ _ | refine Up.setCell ?_ (by simp) _)))).mono ?_
      rintro e w' ⟨rfl, y3, rfl⟩
      go_wp2_with fail
      go_roundw
      case rel => exact ⟨2, 2, by omega, rfl, rfl, ((((x.up.ext y1).ext y2).alloc _).ext y3 |>.alloc _).mk⟩
      case measure => simp [intOf]
    · obtain rfl : i' = 2 := by have := hi.out; omega
      clear hi
      go_wp2_with fail
      refine (rb2 _ (go.up (by repeat (with_reducible first | exact Up.refl _ | refine Up.ext ?_ _ | refine Up.drew ?_ | refine Up.alloc ?_ _ | refine Up.setCell ?_ (by simp) _)))).mono ?_
      rintro e w' ⟨rfl, y1, rfl⟩
      go_wp2_with fail
      refine (rp2 _ (go.up (by repeat (with_reducible first | exact Up.refl _ | refine Up.ext ?_ _ | refine Up.drew ?_ | refine Up.alloc ?_ _ | refine Up.setCell ?_ (by simp) _)))).mono ?_
      rintro e w' ⟨rfl, y2, rfl⟩
      go_wp2_with fail
      refine (rr2 _ (go.up (by repeat (with_reducible first | exact Up.refl _ | refine Up.ext ?_ _ | refine Up.drew ?_ | refine Up.alloc ?_ _ | refine Up.setCell ?_ (by simp) _)))).mono ?_
      rintro e w' ⟨rfl, y3, rfl⟩
      go_wp2_with fail
      go_roundw
      case rel => exact ⟨3, 3, by omega, rfl, rfl, ((((x.up.ext y1).ext y2).alloc _).ext y3 |>.alloc _).mk⟩
      case measure => simp [intOf]
    · obtain rfl : i' = 3 := by have := hi.out; omega
      clear hi
      go_wp2_with fail
      refine (rb3 _ (go.up (by repeat (with_reducible first | exact Up.refl _ | refine Up.ext ?_ _ | refine Up.drew ?_ | refine Up.alloc ?_ _ | refine Up.setCell ?_ (by simp) _)))).mono ?_
      rintro e w' ⟨rfl, y1, rfl⟩
      go_wp2_with fail
      refine (rp3 _ (go.up (by repeat (with_reducible first | exact Up.refl _ | refine Up.ext ?_ _ | refine Up.drew ?_ | refine Up.alloc ?_ _ | refine Up.setCell ?_ (by simp) _)))).mono ?_
      rintro e w' ⟨rfl, y2, rfl⟩
      go_wp2_with fail
      refine (rr3 _ (go.up (by repeat (with_reducible first | exact Up.refl _ | refine Up.ext ?_ _ | refine Up.drew ?_ | refine Up.alloc ?_ _ | refine Up.setCell ?_ (by simp) _)))).mono ?_
      rintro e w' ⟨rfl, y3, rfl⟩
      go_wp2_with fail
      go_roundw
      case rel => exact ⟨4, 4, by omega, rfl, rfl, ((((x.up.ext y1).ext y2).alloc _).ext y3 |>.alloc _).mk⟩
      case measure => simp [intOf]
    · obtain rfl : i' = 4 := by have := hi.out; omega
      clear hi
      go_wp2_with fail
      refine (rb4 _ (go.up (by repeat (with_reducible first | exact Up.refl _ | refine Up.ext ?_ _ | refine Up.drew ?_ | refine Up.alloc ?_ _ | refine Up.setCell ?_ (by simp) _)))).mono ?_
      rintro e w' ⟨rfl, y1, rfl⟩
      go_wp2_with fail
      refine (rp4 _ (go.up (by repeat (with_reducible first | exact Up.refl _ | refine Up.ext ?_ _ | refine Up.drew ?_ | refine Up.alloc ?_ _ | refine Up.setCell ?_ (by simp) _)))).mono ?_
      rintro e w' ⟨rfl, y2, rfl⟩
      go_wp2_with fail
      refine (rr4 _ (go.up (by repeat (with_reducible first | exact Up.refl _ | refine Up.ext ?_ _ | refine Up.drew ?_ | refine Up.alloc ?_ _ | refine Up.setCell ?_ (by simp) _)))).mono ?_
      rintro e w' ⟨rfl, y3, rfl⟩
      go_wp2_with fail
      go_roundw
      case rel => exact ⟨5, 5, by omega, rfl, rfl, ((((x.up.ext y1).ext y2).alloc _).ext y3 |>.alloc _).mk⟩
      case measure => simp [intOf]
    · obtain rfl : i' = 5 := by have := hi.out; omega
      clear hi
      go_wp2_with fail
      refine (rb5 _ (go.up (by repeat (with_reducible first | exact Up.refl _ | refine Up.ext ?_ _ | refine Up.drew ?_ | refine Up.alloc ?_ _ | refine Up.setCell ?_ (by simp) _)))).mono ?_
      rintro e w' ⟨rfl, y1, rfl⟩
      go_wp2_with fail
      refine (rp5 _ (go.up (by repeat (with_reducible first | exact Up.refl _ | refine Up.ext ?_ _ | refine Up.drew ?_ | refine Up.alloc ?_ _ | refine Up.setCell ?_ (by simp) _)))).mono ?_
      rintro e w' ⟨rfl, y2, rfl⟩
      go_wp2_with fail
      refine (rr5 _ (go.up (by repeat (with_reducible first | exact Up.refl _ | refine Up.ext ?_ _ | refine Up.drew ?_ | refine Up.alloc ?_ _ | refine Up.setCell ?_ (by simp) _)))).mono ?_
      rintro e w' ⟨rfl, y3, rfl⟩
      go_wp2_with fail
      go_roundw
      case rel => exact ⟨6, 6, by omega, rfl, rfl, ((((x.up.ext y1).ext y2).alloc _).ext y3 |>.alloc _).mk⟩
      case measure => simp [intOf]
    · obtain rfl : i' = 6 := by have := hi.out; omega
      clear hi
      go_wp2_with fail
      refine (rb6 _ (go.up (by repeat (with_reducible first | exact Up.refl _ | refine Up.ext ?_ _ | refine Up.drew ?_ | refine Up.alloc ?_ _ | refine Up.setCell ?_ (by simp) _)))).mono ?_
      rintro e w' ⟨rfl, y1, rfl⟩
      go_wp2_with fail
      refine (rp6 _ (go.up (by repeat (with_reducible first | exact Up.refl _ | refine Up.ext ?_ _ | refine Up.drew ?_ | refine Up.alloc ?_ _ | refine Up.setCell ?_ (by simp) _)))).mono ?_
      rintro e w' ⟨rfl, y2, rfl⟩
      go_wp2_with fail
      refine (rr6 _ (go.up (by repeat (with_reducible first | exact Up.refl _ | refine Up.ext ?_ _ | refine Up.drew ?_ | refine Up.alloc ?_ _ | refine Up.setCell ?_ (by simp) _)))).mono ?_
      rintro e w' ⟨rfl, y3, rfl⟩
      go_wp2_with fail
      go_roundw
      case rel => exact ⟨7, 7, by omega, rfl, rfl, ((((x.up.ext y1).ext y2).alloc _).ext y3 |>.alloc _).mk⟩
      case measure => simp [intOf]
    · obtain rfl : i' = 7 := by have := hi.out; omega
      clear hi
      go_wp2_with fail
      refine (rb7 _ (go.up (by repeat (with_reducible first | exact Up.refl _ | refine Up.ext ?_ _ | refine Up.drew ?_ | refine Up.alloc ?_ _ | refine Up.setCell ?_ (by simp) _)))).mono ?_
      rintro e w' ⟨rfl, y1, rfl⟩
      go_wp2_with fail
      refine (rp7 _ (go.up (by repeat (with_reducible first | exact Up.refl _ | refine Up.ext ?_ _ | refine Up.drew ?_ | refine Up.alloc ?_ _ | refine Up.setCell ?_ (by simp) _)))).mono ?_
      rintro e w' ⟨rfl, y2, rfl⟩
      go_wp2_with fail
      refine (rr7 _ (go.up (by repeat (with_reducible first | exact Up.refl _ | refine Up.ext ?_ _ | refine Up.drew ?_ | refine Up.alloc ?_ _ | refine Up.setCell ?_ (by simp) _)))).mono ?_
      rintro e w' ⟨rfl, y3, rfl⟩
      go_wp2_with fail
      go_roundw
      case rel => exact ⟨8, 8, by omega, rfl, rfl, ((((x.up.ext y1).ext y2).alloc _).ext y3 |>.alloc _).mk⟩
      case measure => simp [intOf]
    · obtain rfl : i' = 8 := by have := hi.out; omega
      clear hi
      go_wp2_with fail
      refine (rb8 _ (go.up (by repeat (with_reducible first | exact Up.refl _ | refine Up.ext ?_ _ | refine Up.drew ?_ | refine Up.alloc ?_ _ | refine Up.setCell ?_ (by simp) _)))).mono ?_
      rintro e w' ⟨rfl, y1, rfl⟩
      go_wp2_with fail
      refine (rp8 _ (go.up (by repeat (with_reducible first | exact Up.refl _ | refine Up.ext ?_ _ | refine Up.drew ?_ | refine Up.alloc ?_ _ | refine Up.setCell ?_ (by simp) _)))).mono ?_
      rintro e w' ⟨rfl, y2, rfl⟩
      go_wp2_with fail
      refine (rr8 _ (go.up (by repeat (with_reducible first | exact Up.refl _ | refine Up.ext ?_ _ | refine Up.drew ?_ | refine Up.alloc ?_ _ | refine Up.setCell ?_ (by simp) _)))).mono ?_
      rintro e w' ⟨rfl, y3, rfl⟩
      go_wp2_with fail
      go_roundw
      case rel => exact ⟨9, 9, by omega, rfl, rfl, ((((x.up.ext y1).ext y2).alloc _).ext y3 |>.alloc _).mk⟩
      case measure => simp [intOf]
    · obtain rfl : i' = 9 := by have := hi.out; omega
      clear hi
      go_wp2_with fail
      refine (rb9 _ (go.up (by repeat (with_reducible first | exact Up.refl _ | refine Up.ext ?_ _ | refine Up.drew ?_ | refine Up.alloc ?_ _ | refine Up.setCell ?_ (by simp) _)))).mono ?_
      rintro e w' ⟨rfl, y1, rfl⟩
      go_wp2_with fail
      refine (rp9 _ (go.up (by repeat (with_reducible first | exact Up.refl _ | refine Up.ext ?_ _ | refine Up.drew ?_ | refine Up.alloc ?_ _ | refine Up.setCell ?_ (by simp) _)))).mono ?_
      rintro e w' ⟨rfl, y2, rfl⟩
      go_wp2_with fail
      refine (rr9 _ (go.up (by repeat (with_reducible first | exact Up.refl _ | refine Up.ext ?_ _ | refine Up.drew ?_ | refine Up.alloc ?_ _ | refine Up.setCell ?_ (by simp) _)))).mono ?_
      rintro e w' ⟨rfl, y3, rfl⟩
      go_wp2_with fail
      go_roundw
      case rel => exact ⟨10, 10, by omega, rfl, rfl, ((((x.up.ext y1).ext y2).alloc _).ext y3 |>.alloc _).mk⟩
      case measure => simp [intOf]
    · obtain rfl : i' = 10 := by have := hi.out; omega
      clear hi
      go_wp2_with fail
      refine (kt1 _ (go.up (by repeat (with_reducible first | exact Up.refl _ | refine Up.ext ?_ _ | refine Up.drew ?_ | refine Up.alloc ?_ _ | refine Up.setCell ?_ (by simp) _)))).mono ?_
      rintro e w' ⟨rfl, z1, rfl⟩
      have hA1 : x.w.heap.size < z1.w.heap.size := z1.lt (by simp)
      go_wp2_with fail
      refine (turn_any 6 167772161 167772162 80 90 _).mono ?_
      rintro e w' ⟨rfl, z2, rfl⟩
      go_wp2_with fail
      refine (kt2 _ (go.up (by repeat (with_reducible first | exact Up.refl _ | refine Up.ext ?_ _ | refine Up.drew ?_ | refine Up.alloc ?_ _ | refine Up.setCell ?_ (by simp) _)))).mono ?_
      rintro e w' ⟨rfl, z3, rfl⟩
      go_wp2_with fail
      go_ret
      exact ⟨rfl, (hup.trans (by repeat (with_reducible first | exact Up.refl _ | refine Up.ext ?_ _ | refine Up.drew ?_ | refine Up.alloc ?_ _ | refine Up.setCell ?_ (by simp) _))).mk⟩
end Go.Proofs.YtdiiicnjbgimmaaGreatDoor
