/- Masks, prefixes, bounds: what the functions of package addr that take a prefix return. -/
import Derived.Test.YtdiiicnjbgimmaaGreatDoorProg
import Derived.Test.YtdiiicnjbgimmaaGreatDoorBase
import Derived.Test.YtdiiicnjbgimmaaGreatDoorAddrPlain
namespace Go.Proofs.YtdiiicnjbgimmaaGreatDoor
open Go.RowKit Go.Ab

set_option maxHeartbeats 400000 in
theorem mask_any (n : Int) (w : World) (h0 : 0 ≤ n) : Gives Tryz.prog 25 #[.int .u8 n] w (.int .u32 (maskI n)) := by
  refine Gives.of_same ?_
  by_cases h : 32 ≤ n
  · go_enter Tryz.func25, Tryz.ntmps25
    go_wp2
    go_ret
    exact ⟨ret_int (by unfold maskI; rw [sz_big n h]; rfl), rfl⟩
  · have h' : n < 32 := by omega
    go_enter Tryz.func25, Tryz.ntmps25
    go_wp2
    go_ret
    exact ⟨ret_int (xor_shr n h0 (by omega)), rfl⟩

set_option maxHeartbeats 400000 in
theorem right_any (a n : Int) (w : World) (h0 : 0 ≤ n) (a0 : 0 ≤ a) (a1 : a < 4294967296) :
    Gives Tryz.prog 16 #[.agg #[.int .u32 a, .int .u8 n]] w (.bool (rightB a n)) := by
  unfold Gives
  by_cases h : n ≤ 32
  · go_enter Tryz.func16, Tryz.ntmps16
    go_wp2
    refine wp_region_ext (by kernel_rfl) (by kernel_rfl) ?_
    repeat (go_big_quiet_step ((go_at_call 25; exact (mask_any _ _ h0).ext)))
    refine wpQuiet_nil ?_
    rintro _ ⟨x, rfl⟩
    go_wp2
    go_ret
    exact ⟨ret_bool (by rw [andNot_mask a n a0 a1 h0]; simp [rightB, h]), (((Up.refl _).alloc _).ext x).mk⟩
  · have hd : decide (n ≤ 32) = false := by simpa using h
    go_enter Tryz.func16, Tryz.ntmps16
    go_wp2
    refine wp_region_ext (by kernel_rfl) (by kernel_rfl) ?_
    repeat (go_big_quiet_step ((go_at_call 25; exact (mask_any _ _ h0).ext)))
    refine wpQuiet_nil ?_
    rintro _ ⟨x, rfl⟩
    go_wp2
    go_ret
    exact ⟨ret_bool (by simp [rightB, hd]), (((Up.refl _).alloc _).ext x).mk⟩

set_option maxHeartbeats 400000 in
theorem has_any (a n x : Int) (w : World) (h0 : 0 ≤ n) (a0 : 0 ≤ a) (a1 : a < 4294967296) (x0 : 0 ≤ x) (x1 : x < 4294967296) :
    Gives Tryz.prog 19 #[.agg #[.int .u32 a, .int .u8 n], .int .u32 x] w (.bool (hasB a n x)) := by
  unfold Gives
  cases hr : rightB a n
  all_goals
    have e : hasB a n x = (rightB a n && (bits .and .u32 x (maskI n) == a)) := by rw [and_mask x n x0 x1 h0]; rfl
    rw [hr] at e
    have He := Lib.hid e
    have Hr := Lib.hid hr
    clear e hr
    go_enter Tryz.func19, Tryz.ntmps19
    go_wp2
    refine wp_region_ext (by kernel_rfl) (by kernel_rfl) ?_
    repeat (go_big_quiet_step (first | (go_at_call 25; exact (mask_any _ _ h0).ext) | (go_at_call 16; exact ((right_any _ _ _ h0 a0 a1).cast (by rw [Hr.out])).ext)))
    refine wpQuiet_nil ?_
    rintro _ ⟨y, rfl⟩
    go_wp2
    go_ret
    exact ⟨ret_bool (by rw [He.out]; rfl), (((Up.refl _).alloc _).ext y).mk⟩

set_option maxHeartbeats 400000 in
theorem cut_any (a n : Int) (w : World) (h0 : 0 ≤ n) (h1 : n ≤ 32) (a0 : 0 ≤ a) (a1 : a < 4294967296) :
    Gives Tryz.prog 7 #[.int .u32 a, .int .u8 n] w (.tuple #[.agg #[.int .u32 (a - a % sz n), .int .u8 n], .int .i64 0]) := by
  unfold Gives
  go_enter Tryz.func7, Tryz.ntmps7
  go_wp2_with (go_at_call 25; refine (mask_any _ _ h0).mono ?_; rintro e w' ⟨rfl, x, rfl⟩)
  refine bodyPost_ret (v := .tuple #[.agg #[.int .u32 (a - a % sz n), .int .u8 n], .int .i64 0]) ?_ rfl ⟨rfl, ?_⟩
  · rw [and_mask a n a0 a1 h0]
    simp [results, Tryz.results7, go_sem]
  · exact Up.mk (by repeat (with_reducible first | exact Up.refl _ | refine Up.ext ?_ _ | refine Up.drew ?_ | refine Up.alloc ?_ _ | refine Up.setCell ?_ (by simp) _))
set_option maxHeartbeats 400000 in
theorem cut_wrong (a n : Int) (w : World) (h1 : 32 < n) :
    Gives Tryz.prog 7 #[.int .u32 a, .int .u8 n] w (.tuple #[.agg #[.int .u32 0, .int .u8 0], .int .i64 2]) := by
  unfold Gives
  go_enter Tryz.func7, Tryz.ntmps7
  go_wp2
  refine bodyPost_ret (v := .tuple #[.agg #[.int .u32 0, .int .u8 0], .int .i64 2]) (by simp [results, Tryz.results7, go_sem]) rfl ⟨rfl, Up.mk (by repeat (with_reducible first | exact Up.refl _ | refine Up.ext ?_ _ | refine Up.drew ?_ | refine Up.alloc ?_ _ | refine Up.setCell ?_ (by simp) _))⟩

set_option maxHeartbeats 400000 in
theorem bounds_any (a n : Int) (w : World) (h0 : 0 ≤ n) (a0 : 0 ≤ a) (a1 : a < 4294967296) :
    Gives Tryz.prog 9 #[.agg #[.int .u32 a, .int .u8 n]] w
      (if rightB a n then .tuple #[.int .u32 a, .int .u32 (a + (sz n - 1)), .int .i64 0] else .tuple #[.int .u32 0, .int .u32 0, .int .i64 31]) := by
  unfold Gives
  cases hr : rightB a n
  · have Hr := Lib.hid hr
    clear hr
    go_enter Tryz.func9, Tryz.ntmps9
    go_wp2_with (go_at_call 16; refine ((right_any _ _ _ h0 a0 a1).cast (by rw [Hr.out])).mono ?_; rintro e w' ⟨rfl, x, rfl⟩)
    go_ret3
    exact ⟨rfl, Up.mk (by repeat (with_reducible first | exact Up.refl _ | refine Up.ext ?_ _ | refine Up.drew ?_ | refine Up.alloc ?_ _ | refine Up.setCell ?_ (by simp) _))⟩
  · have Hr := Lib.hid hr
    have hd : a % sz n = 0 := by have := Hr.out; simp [rightB] at this; exact this.2
    have Hx : RowKit.Hid (bits .or .u32 a (bits .xor .u32 IntKind.u32.max (maskI n)) = a + (sz n - 1)) := by rw [xor_mask n h0]; exact or_low a n a0 a1 h0 hd
    clear hr hd
    go_enter Tryz.func9, Tryz.ntmps9
    go_wp2_with (go_at_call 16; refine ((right_any _ _ _ h0 a0 a1).cast (by rw [Hr.out])).mono ?_; rintro e w' ⟨rfl, x, rfl⟩)
    refine wp_region_ext (by kernel_rfl) (by kernel_rfl) ?_
    repeat (go_big_quiet_step ((go_at_call 25; exact (mask_any _ _ h0).ext)))
    refine wpQuiet_nil ?_
    rintro _ ⟨y, rfl⟩
    go_wp2
    go_ret3
    exact ⟨by rw [← Hx.out]; rfl, Up.mk (by repeat (with_reducible first | exact Up.refl _ | refine Up.ext ?_ _ | refine Up.drew ?_ | refine Up.alloc ?_ _ | refine Up.setCell ?_ (by simp) _))⟩

set_option maxHeartbeats 400000 in
theorem inside_any (a n b m : Int) (w : World) (n0 : 0 ≤ n) (a0 : 0 ≤ a) (a1 : a < 4294967296) (m0 : 0 ≤ m) (b0 : 0 ≤ b) (b1 : b < 4294967296) :
    Gives Tryz.prog 21 #[.agg #[.int .u32 a, .int .u8 n], .agg #[.int .u32 b, .int .u8 m]] w (.bool (insideB a n b m)) := by
  unfold Gives
  cases hr : rightB a n
  · have e : insideB a n b m = false := by simp [insideB, hr]
    have He := Lib.hid e
    have Hr := Lib.hid hr
    clear hr e
    go_enter Tryz.func21, Tryz.ntmps21
    go_wp2_with (go_at_call 16; refine ((right_any _ _ _ n0 a0 a1).cast (by rw [Hr.out])).mono ?_; rintro e w' ⟨rfl, x, rfl⟩)
    go_ret
    exact ⟨ret_bool He.out.symm, Up.mk (by repeat (with_reducible first | exact Up.refl _ | refine Up.ext ?_ _ | refine Up.drew ?_ | refine Up.alloc ?_ _ | refine Up.setCell ?_ (by simp) _))⟩
  · by_cases hm : m ≤ n
    · have e : insideB a n b m = hasB b m a := by simp [insideB, hr, hm]
      have He := Lib.hid e
      have Hr := Lib.hid hr
      clear hr e
      go_enter Tryz.func21, Tryz.ntmps21
      go_wp2_with (first | (go_at_call 16; refine ((right_any _ _ _ n0 a0 a1).cast (by rw [Hr.out])).mono ?_; rintro e w' ⟨rfl, x, rfl⟩) | (go_at_call 19; refine (has_any _ _ _ _ m0 b0 b1 a0 a1).mono ?_; rintro e w' ⟨rfl, y, rfl⟩))
      go_ret
      exact ⟨ret_bool He.out.symm, Up.mk (by repeat (with_reducible first | exact Up.refl _ | refine Up.ext ?_ _ | refine Up.drew ?_ | refine Up.alloc ?_ _ | refine Up.setCell ?_ (by simp) _))⟩
    · have e : insideB a n b m = false := by simp [insideB, hm]
      have He := Lib.hid e
      have Hr := Lib.hid hr
      have hm' : n < m := by omega
      clear hr e hm
      go_enter Tryz.func21, Tryz.ntmps21
      go_wp2_with (go_at_call 16; refine ((right_any _ _ _ n0 a0 a1).cast (by rw [Hr.out])).mono ?_; rintro e w' ⟨rfl, x, rfl⟩)
      go_ret
      exact ⟨ret_bool He.out.symm, Up.mk (by repeat (with_reducible first | exact Up.refl _ | refine Up.ext ?_ _ | refine Up.drew ?_ | refine Up.alloc ?_ _ | refine Up.setCell ?_ (by simp) _))⟩

set_option maxHeartbeats 400000 in
theorem meet_any (a n b m : Int) (w : World) (n0 : 0 ≤ n) (a0 : 0 ≤ a) (a1 : a < 4294967296) (m0 : 0 ≤ m) (b0 : 0 ≤ b) (b1 : b < 4294967296) :
    Gives Tryz.prog 23 #[.agg #[.int .u32 a, .int .u8 n], .agg #[.int .u32 b, .int .u8 m]] w (.bool (meetB a n b m)) := by
  unfold Gives
  cases hr : insideB a n b m
  · have e : meetB a n b m = insideB b m a n := by simp [meetB, hr]
    have He := Lib.hid e
    have Hr := Lib.hid hr
    clear hr e
    go_enter Tryz.func23, Tryz.ntmps23
    go_wp2_with fail
    refine ((inside_any a n b m _ n0 a0 a1 m0 b0 b1).cast (by rw [Hr.out])).mono ?_
    rintro e w' ⟨rfl, x, rfl⟩
    go_wp2_with fail
    refine (inside_any b m a n _ m0 b0 b1 n0 a0 a1).mono ?_
    rintro e w' ⟨rfl, y, rfl⟩
    go_wp2_with fail
    go_ret
    exact ⟨ret_bool He.out.symm, Up.mk (by repeat (with_reducible first | exact Up.refl _ | refine Up.ext ?_ _ | refine Up.drew ?_ | refine Up.alloc ?_ _ | refine Up.setCell ?_ (by simp) _))⟩
  · have e : meetB a n b m = true := by simp [meetB, hr]
    have He := Lib.hid e
    have Hr := Lib.hid hr
    clear hr e
    go_enter Tryz.func23, Tryz.ntmps23
    go_wp2_with fail
    refine ((inside_any a n b m _ n0 a0 a1 m0 b0 b1).cast (by rw [Hr.out])).mono ?_
    rintro e w' ⟨rfl, x, rfl⟩
    go_wp2_with fail
    go_ret
    exact ⟨ret_bool He.out.symm, Up.mk (by repeat (with_reducible first | exact Up.refl _ | refine Up.ext ?_ _ | refine Up.drew ?_ | refine Up.alloc ?_ _ | refine Up.setCell ?_ (by simp) _))⟩
end Go.Proofs.YtdiiicnjbgimmaaGreatDoor
