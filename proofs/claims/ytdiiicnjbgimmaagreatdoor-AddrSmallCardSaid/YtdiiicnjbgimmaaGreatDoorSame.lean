/- Two slices of the same four prefixes: what SamePrefixes of package bafflekit says. -/
import Derived.Test.YtdiiicnjbgimmaaGreatDoorBase
import Derived.Test.YtdiiicnjbgimmaaGreatDoorCover
namespace Go.Proofs.YtdiiicnjbgimmaaGreatDoor
open Go.RowKit Go.Ab
set_option maxHeartbeats 4000000 in
theorem same_four (g1 g2 c1 c2 : Nat) (a0 n0 a1 n1 a2 n2 a3 n3 : Int) (w : World)
    (h0 : w.cell? ⟨g1, 0, none⟩ = some (.int .u32 a0)) (h1 : w.cell? ⟨g1, 1, none⟩ = some (.int .u8 n0))
    (h2 : w.cell? ⟨g1, 2, none⟩ = some (.int .u32 a1)) (h3 : w.cell? ⟨g1, 3, none⟩ = some (.int .u8 n1))
    (h4 : w.cell? ⟨g1, 4, none⟩ = some (.int .u32 a2)) (h5 : w.cell? ⟨g1, 5, none⟩ = some (.int .u8 n2))
    (h6 : w.cell? ⟨g1, 6, none⟩ = some (.int .u32 a3)) (h7 : w.cell? ⟨g1, 7, none⟩ = some (.int .u8 n3))
    (k0 : w.cell? ⟨g2, 0, none⟩ = some (.int .u32 a0)) (k1 : w.cell? ⟨g2, 1, none⟩ = some (.int .u8 n0))
    (k2 : w.cell? ⟨g2, 2, none⟩ = some (.int .u32 a1)) (k3 : w.cell? ⟨g2, 3, none⟩ = some (.int .u8 n1))
    (k4 : w.cell? ⟨g2, 4, none⟩ = some (.int .u32 a2)) (k5 : w.cell? ⟨g2, 5, none⟩ = some (.int .u8 n2))
    (k6 : w.cell? ⟨g2, 6, none⟩ = some (.int .u32 a3)) (k7 : w.cell? ⟨g2, 7, none⟩ = some (.int .u8 n3)) :
    Gives Tryz.prog 18 #[.slice (some ⟨g1, 0, none⟩) 4 c1, .slice (some ⟨g2, 0, none⟩) 4 c2] w (.bool true) := by
  unfold Gives
  have lg1 : g1 < w.heap.size := cell_lt' h0
  have lg2 : g2 < w.heap.size := cell_lt' k0
  go_enter Tryz.func18, Tryz.ntmps18
  go_wp2_with fail
  go_loopw [5] (fun i wr => ∃ (k : Nat) (i' : Int), k ≤ 4 ∧ i = .int .i64 i' ∧ Hid (i' = k) ∧ ∃ x : Ext w, wr = x.w) (fun i _ => 4 - (intOf i).toNat)
  case atStart => exact ⟨0, 0, by omega, rfl, rfl, (Up.refl _).mk⟩
  case round =>
    obtain ⟨k, i', hk4, rfl, hi, x, rfl⟩ := hrel
    have m1 := x.lt lg1
    have m2 := x.lt lg2
    rcases (by omega : k = 0 ∨ k = 1 ∨ k = 2 ∨ k = 3 ∨ k = 4) with rfl | rfl | rfl | rfl | rfl
    · obtain rfl : i' = 0 := by have := hi.out; omega
      clear hi
      go_wp2_with fail
      (refine wp_region_ext (by kernel_rfl) (by kernel_rfl) ?_; (repeat (go_big_quiet_step (fail))); refine wpQuiet_nil ?_; rintro _ ⟨y, rfl⟩)
      go_wp2_with fail
      go_roundw
      case rel => exact ⟨1, 1, by omega, rfl, rfl, (x.up.ext y).mk⟩
      case measure => simp [intOf]
    · obtain rfl : i' = 1 := by have := hi.out; omega
      clear hi
      go_wp2_with fail
      (refine wp_region_ext (by kernel_rfl) (by kernel_rfl) ?_; (repeat (go_big_quiet_step (fail))); refine wpQuiet_nil ?_; rintro _ ⟨y, rfl⟩)
      go_wp2_with fail
      go_roundw
      case rel => exact ⟨2, 2, by omega, rfl, rfl, (x.up.ext y).mk⟩
      case measure => simp [intOf]
    · obtain rfl : i' = 2 := by have := hi.out; omega
      clear hi
      go_wp2_with fail
      (refine wp_region_ext (by kernel_rfl) (by kernel_rfl) ?_; (repeat (go_big_quiet_step (fail))); refine wpQuiet_nil ?_; rintro _ ⟨y, rfl⟩)
      go_wp2_with fail
      go_roundw
      case rel => exact ⟨3, 3, by omega, rfl, rfl, (x.up.ext y).mk⟩
      case measure => simp [intOf]
    · obtain rfl : i' = 3 := by have := hi.out; omega
      clear hi
      go_wp2_with fail
      (refine wp_region_ext (by kernel_rfl) (by kernel_rfl) ?_; (repeat (go_big_quiet_step (fail))); refine wpQuiet_nil ?_; rintro _ ⟨y, rfl⟩)
      go_wp2_with fail
      go_roundw
      case rel => exact ⟨4, 4, by omega, rfl, rfl, (x.up.ext y).mk⟩
      case measure => simp [intOf]
    · obtain rfl : i' = 4 := by have := hi.out; omega
      clear hi
      go_wp2_with fail
      go_ret
      exact ⟨rfl, Up.mk (by repeat (with_reducible first | exact Up.refl _ | refine Up.ext ?_ _ | refine Up.drew ?_ | refine Up.alloc ?_ _ | refine Up.setCell ?_ (by simp) _))⟩
end Go.Proofs.YtdiiicnjbgimmaaGreatDoor
