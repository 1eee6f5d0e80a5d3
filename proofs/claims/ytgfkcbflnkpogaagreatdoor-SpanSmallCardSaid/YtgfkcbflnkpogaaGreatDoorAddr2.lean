/- Masks, prefixes, bounds: what the functions of package addr that take a prefix return. Texts of prefixes, ranges and keys; keys turned and compared: what the functions of package addr return. -/
import Derived.Test.YtgfkcbflnkpogaaGreatDoorProg
import Derived.Test.YtgfkcbflnkpogaaGreatDoorBase
import Derived.Test.YtgfkcbflnkpogaaGreatDoorAddrPlain
import Derived.Test.YtgfkcbflnkpogaaGreatDoorText
namespace Go.Proofs.YtgfkcbflnkpogaaGreatDoor
open Go.RowKit Go.Ab

set_option maxHeartbeats 400000 in
theorem mask_any (n : Int) (w : World) (h0 : 0 ≤ n) : Gives Tryz.prog 66 #[.int .u8 n] w (.int .u32 (maskI n)) := by
  refine Gives.of_same ?_
  by_cases h : 32 ≤ n
  · go_enter Tryz.func66, Tryz.ntmps66
    go_wp2
    go_ret
    exact ⟨ret_int (by unfold maskI; rw [sz_big n h]; rfl), rfl⟩
  · have h' : n < 32 := by omega
    go_enter Tryz.func66, Tryz.ntmps66
    go_wp2
    go_ret
    exact ⟨ret_int (xor_shr n h0 (by omega)), rfl⟩

set_option maxHeartbeats 400000 in
theorem right_any (a n : Int) (w : World) (h0 : 0 ≤ n) (a0 : 0 ≤ a) (a1 : a < 4294967296) :
    Gives Tryz.prog 65 #[.agg #[.int .u32 a, .int .u8 n]] w (.bool (rightB a n)) := by
  unfold Gives
  by_cases h : n ≤ 32
  · go_enter Tryz.func65, Tryz.ntmps65
    go_wp2
    refine wp_region_ext (by kernel_rfl) (by kernel_rfl) ?_
    repeat (go_big_quiet_step ((go_at_call 66; exact (mask_any _ _ h0).ext)))
    refine wpQuiet_nil ?_
    rintro _ ⟨x, rfl⟩
    go_wp2
    go_ret
    exact ⟨ret_bool (by rw [andNot_mask a n a0 a1 h0]; simp [rightB, h]), (((Up.refl _).alloc _).ext x).mk⟩
  · have hd : decide (n ≤ 32) = false := by simpa using h
    go_enter Tryz.func65, Tryz.ntmps65
    go_wp2
    refine wp_region_ext (by kernel_rfl) (by kernel_rfl) ?_
    repeat (go_big_quiet_step ((go_at_call 66; exact (mask_any _ _ h0).ext)))
    refine wpQuiet_nil ?_
    rintro _ ⟨x, rfl⟩
    go_wp2
    go_ret
    exact ⟨ret_bool (by simp [rightB, hd]), (((Up.refl _).alloc _).ext x).mk⟩

set_option maxHeartbeats 400000 in
theorem bounds_any (a n : Int) (w : World) (h0 : 0 ≤ n) (a0 : 0 ≤ a) (a1 : a < 4294967296) :
    Gives Tryz.prog 30 #[.agg #[.int .u32 a, .int .u8 n]] w
      (if rightB a n then .tuple #[.int .u32 a, .int .u32 (a + (sz n - 1)), .int .i64 0] else .tuple #[.int .u32 0, .int .u32 0, .int .i64 31]) := by
  unfold Gives
  cases hr : rightB a n
  · have Hr := Lib.hid hr
    clear hr
    go_enter Tryz.func30, Tryz.ntmps30
    go_wp2_with (go_at_call 65; refine ((right_any _ _ _ h0 a0 a1).cast (by rw [Hr.out])).mono ?_; rintro e w' ⟨rfl, x, rfl⟩)
    go_ret3
    exact ⟨rfl, Up.mk (by repeat (with_reducible first | exact Up.refl _ | refine Up.ext ?_ _ | refine Up.drew ?_ | refine Up.alloc ?_ _ | refine Up.setCell ?_ (by simp) _))⟩
  · have Hr := Lib.hid hr
    have hd : a % sz n = 0 := by have := Hr.out; simp [rightB] at this; exact this.2
    have Hx : RowKit.Hid (bits .or .u32 a (bits .xor .u32 IntKind.u32.max (maskI n)) = a + (sz n - 1)) := by rw [xor_mask n h0]; exact or_low a n a0 a1 h0 hd
    clear hr hd
    go_enter Tryz.func30, Tryz.ntmps30
    go_wp2_with (go_at_call 65; refine ((right_any _ _ _ h0 a0 a1).cast (by rw [Hr.out])).mono ?_; rintro e w' ⟨rfl, x, rfl⟩)
    refine wp_region_ext (by kernel_rfl) (by kernel_rfl) ?_
    repeat (go_big_quiet_step ((go_at_call 66; exact (mask_any _ _ h0).ext)))
    refine wpQuiet_nil ?_
    rintro _ ⟨y, rfl⟩
    go_wp2
    go_ret3
    exact ⟨by rw [← Hx.out]; rfl, Up.mk (by repeat (with_reducible first | exact Up.refl _ | refine Up.ext ?_ _ | refine Up.drew ?_ | refine Up.alloc ?_ _ | refine Up.setCell ?_ (by simp) _))⟩

end Go.Proofs.YtgfkcbflnkpogaaGreatDoor
namespace Go.Ab
def prefixTextL (a n : Int) : List UInt8 := textL a ++ [47] ++ dec n
def rangeTextL (p q : Int) : List UInt8 := if p = 0 ∧ q = 65535 then [42] else if p = q then dec p else dec p ++ [45] ++ dec q
def keyTextL (pr s d sp dp : Int) : List UInt8 := dec pr ++ [32] ++ textL s ++ [58] ++ dec sp ++ [32] ++ textL d ++ [58] ++ dec dp
end Go.Ab
namespace Go.Proofs.YtgfkcbflnkpogaaGreatDoor
open Go.RowKit Go.Ab

theorem rangeTextL_two (p q : Int) (h1 : ¬ (p = 0 ∧ q = 65535)) (h2 : p ≠ q) : rangeTextL p q = dec p ++ [45] ++ dec q := by unfold rangeTextL; rw [if_neg h1, if_neg h2]
theorem rangeTextL_one (p : Int) (h1 : ¬ (p = 0 ∧ p = 65535)) : rangeTextL p p = dec p := by unfold rangeTextL; rw [if_neg h1, if_pos rfl]
end Go.Proofs.YtgfkcbflnkpogaaGreatDoor
