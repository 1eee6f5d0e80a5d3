/- Texts of prefixes, ranges and keys; keys turned and compared: what the functions of package addr return. -/
import Derived.Test.YtdiiicnjbgimmaaGreatDoorText
import Derived.Test.YtdiiicnjbgimmaaGreatDoorAddr1
namespace Go.Ab
def prefixTextL (a n : Int) : List UInt8 := textL a ++ [47] ++ dec n
def rangeTextL (p q : Int) : List UInt8 := if p = 0 ∧ q = 65535 then [42] else if p = q then dec p else dec p ++ [45] ++ dec q
def keyTextL (pr s d sp dp : Int) : List UInt8 := dec pr ++ [32] ++ textL s ++ [58] ++ dec sp ++ [32] ++ textL d ++ [58] ++ dec dp
end Go.Ab
namespace Go.Proofs.YtdiiicnjbgimmaaGreatDoor
open Go.RowKit Go.Ab

set_option maxHeartbeats 400000 in
theorem prefixText_any (a n : Int) (w : World) (g : Good w) (h0 : 0 ≤ n) (hn : n < 256) (a0 : 0 ≤ a) (a1 : a < 4294967296) :
    Gives Tryz.prog 8 #[.agg #[.int .u32 a, .int .u8 n]] w
      (if rightB a n then .tuple #[.string ⟨(prefixTextL a n).toArray⟩, .int .i64 0] else .tuple #[.string ⟨#[]⟩, .int .i64 31]) := by
  unfold Gives
  cases hr : rightB a n
  · have Hr := Lib.hid hr
    clear hr
    go_enter Tryz.func8, Tryz.ntmps8
    go_wp2_with (go_at_call 16; refine ((right_any _ _ _ h0 a0 a1).cast (by rw [Hr.out])).mono ?_; rintro e w' ⟨rfl, x, rfl⟩)
    go_ret2
    exact ⟨rfl, Up.mk (by repeat (with_reducible first | exact Up.refl _ | refine Up.ext ?_ _ | refine Up.drew ?_ | refine Up.alloc ?_ _ | refine Up.setCell ?_ (by simp) _))⟩
  · have Hr := Lib.hid hr
    clear hr
    have l1 := textL_length a
    have l2 := dec_length n (by omega) (by omega)
    go_enter Tryz.func8, Tryz.ntmps8
    go_wp2_with (go_at_call 16; refine ((right_any _ _ _ h0 a0 a1).cast (by rw [Hr.out])).mono ?_; rintro e w' ⟨rfl, x, rfl⟩)
    refine wp_region_ext (by kernel_rfl) (by kernel_rfl) ?_
    repeat (go_big_quiet_step (first | (go_at_call 14; exact (text_any a _ (g.up (by repeat (with_reducible first | exact Up.refl _ | refine Up.ext ?_ _ | refine Up.drew ?_ | refine Up.alloc ?_ _)))).ext) | (go_at_call 45; exact (decimal8_any n _ (g.up (by repeat (with_reducible first | exact Up.refl _ | refine Up.ext ?_ _ | refine Up.drew ?_ | refine Up.alloc ?_ _))) h0 hn).ext)))
    refine wpQuiet_nil ?_
    rintro _ ⟨y, rfl⟩
    go_wp2
    go_ret2
    exact ⟨rfl, Up.mk (by repeat (with_reducible first | exact Up.refl _ | refine Up.ext ?_ _ | refine Up.drew ?_ | refine Up.alloc ?_ _ | refine Up.setCell ?_ (by simp) _))⟩

set_option maxHeartbeats 400000 in
theorem rightRange_any (p q : Int) (w : World) : Gives Tryz.prog 37 #[.agg #[.int .u16 p, .int .u16 q]] w (.bool (decide (p ≤ q))) := by
  unfold Gives
  go_enter Tryz.func37, Tryz.ntmps37
  go_wp2
  go_ret
  exact ⟨rfl, Up.mk (by repeat (with_reducible first | exact Up.refl _ | refine Up.ext ?_ _ | refine Up.drew ?_ | refine Up.alloc ?_ _ | refine Up.setCell ?_ (by simp) _))⟩
set_option maxHeartbeats 400000 in
theorem in_any (p q x : Int) (w : World) : Gives Tryz.prog 38 #[.agg #[.int .u16 p, .int .u16 q], .int .u16 x] w (.bool (decide (p ≤ x) && decide (x ≤ q))) := by
  unfold Gives
  by_cases h : p ≤ x
  · have hd : decide (p ≤ x) = true := by simpa using h
    have Hd := Lib.hid hd
    go_enter Tryz.func38, Tryz.ntmps38
    go_wp2
    go_ret
    exact ⟨ret_bool (by first | (simp; done) | simp [Hd.out]), Up.mk (by repeat (with_reducible first | exact Up.refl _ | refine Up.ext ?_ _ | refine Up.drew ?_ | refine Up.alloc ?_ _ | refine Up.setCell ?_ (by simp) _))⟩
  · have hd : decide (p ≤ x) = false := by simpa using h
    have Hd := Lib.hid hd
    go_enter Tryz.func38, Tryz.ntmps38
    go_wp2
    go_ret
    exact ⟨ret_bool (by first | (simp; done) | simp [Hd.out]), Up.mk (by repeat (with_reducible first | exact Up.refl _ | refine Up.ext ?_ _ | refine Up.drew ?_ | refine Up.alloc ?_ _ | refine Up.setCell ?_ (by simp) _))⟩

theorem rangeTextL_two (p q : Int) (h1 : ¬ (p = 0 ∧ q = 65535)) (h2 : p ≠ q) : rangeTextL p q = dec p ++ [45] ++ dec q := by unfold rangeTextL; rw [if_neg h1, if_neg h2]
theorem rangeTextL_one (p : Int) (h1 : ¬ (p = 0 ∧ p = 65535)) : rangeTextL p p = dec p := by unfold rangeTextL; rw [if_neg h1, if_pos rfl]
set_option maxHeartbeats 400000 in
theorem rangeText_one (p : Int) (w : World) (g : Good w) (p0 : 0 ≤ p) (p1 : p < 65536) (hp : (p == 0) = false) :
    Gives Tryz.prog 35 #[.agg #[.int .u16 p, .int .u16 p]] w (.tuple #[.string ⟨(rangeTextL p p).toArray⟩, .int .i64 0]) := by
  unfold Gives
  have He := Lib.hid (rangeTextL_one p (by rintro ⟨h, _⟩; simp [h] at hp))
  go_enter Tryz.func35, Tryz.ntmps35
  go_wp2_with (first | (go_at_call 37; refine (rightRange_any _ _ _).mono ?_; rintro e w' ⟨rfl, x, rfl⟩) | (go_at_call 57; refine (decimal16_any _ _ (g.up (by repeat (with_reducible first | exact Up.refl _ | refine Up.ext ?_ _ | refine Up.drew ?_ | refine Up.alloc ?_ _ | refine Up.setCell ?_ (by simp) _))) p0 p1).mono ?_; rintro e w' ⟨rfl, y, rfl⟩))
  go_ret2
  exact ⟨by rw [He.out]; rfl, Up.mk (by repeat (with_reducible first | exact Up.refl _ | refine Up.ext ?_ _ | refine Up.drew ?_ | refine Up.alloc ?_ _ | refine Up.setCell ?_ (by simp) _))⟩

set_option maxHeartbeats 400000 in
theorem rangeText_zero (w : World) (g : Good w) :
    Gives Tryz.prog 35 #[.agg #[.int .u16 0, .int .u16 0]] w (.tuple #[.string ⟨(rangeTextL 0 0).toArray⟩, .int .i64 0]) := by
  unfold Gives
  have p0 : (0 : Int) ≤ 0 := by omega
  have p1 : (0 : Int) < 65536 := by omega
  have He := Lib.hid (rangeTextL_one 0 (by omega))
  go_enter Tryz.func35, Tryz.ntmps35
  go_wp2_with (first | (go_at_call 37; refine (rightRange_any _ _ _).mono ?_; rintro e w' ⟨rfl, x, rfl⟩) | (go_at_call 57; refine (decimal16_any _ _ (g.up (by repeat (with_reducible first | exact Up.refl _ | refine Up.ext ?_ _ | refine Up.drew ?_ | refine Up.alloc ?_ _ | refine Up.setCell ?_ (by simp) _))) p0 p1).mono ?_; rintro e w' ⟨rfl, y, rfl⟩))
  go_ret2
  exact ⟨by rw [He.out]; rfl, Up.mk (by repeat (with_reducible first | exact Up.refl _ | refine Up.ext ?_ _ | refine Up.drew ?_ | refine Up.alloc ?_ _ | refine Up.setCell ?_ (by simp) _))⟩

set_option maxHeartbeats 400000 in
theorem rangeText_two (p q : Int) (w : World) (g : Good w) (p0 : 0 ≤ p) (p1 : p < 65536) (q0 : 0 ≤ q) (q1 : q < 65536) (h : p ≤ q) (hp : (p == 0) = false) (hc : (p == q) = false) :
    Gives Tryz.prog 35 #[.agg #[.int .u16 p, .int .u16 q]] w (.tuple #[.string ⟨(rangeTextL p q).toArray⟩, .int .i64 0]) := by
  unfold Gives
  have He := Lib.hid (rangeTextL_two p q (by rintro ⟨h, _⟩; simp [h] at hp) (by simpa using hc))
  have hd : decide (p ≤ q) = true := by simpa using h
  have l1 := dec_length p (by omega) (by omega)
  have l2 := dec_length q (by omega) (by omega)
  go_enter Tryz.func35, Tryz.ntmps35
  go_wp2_with (go_at_call 37; refine (rightRange_any _ _ _).mono ?_; rintro e w' ⟨rfl, x, rfl⟩)
  refine wp_region_ext (by kernel_rfl) (by kernel_rfl) ?_
  repeat (go_big_quiet_step (first | (go_at_call_of 57 (Value.int .u16 p); exact (decimal16_any _ _ (g.up (by repeat (with_reducible first | exact Up.refl _ | refine Up.ext ?_ _ | refine Up.drew ?_ | refine Up.alloc ?_ _ | refine Up.setCell ?_ (by simp) _))) p0 p1).ext) | (go_at_call 57; exact (decimal16_any q _ (g.up (by repeat (with_reducible first | exact Up.refl _ | refine Up.ext ?_ _ | refine Up.drew ?_ | refine Up.alloc ?_ _ | refine Up.setCell ?_ (by simp) _))) q0 q1).ext)))
  refine wpQuiet_nil ?_
  rintro _ ⟨y, rfl⟩
  go_wp2
  go_ret2
  exact ⟨by rw [He.out]; rfl, Up.mk (by repeat (with_reducible first | exact Up.refl _ | refine Up.ext ?_ _ | refine Up.drew ?_ | refine Up.alloc ?_ _ | refine Up.setCell ?_ (by simp) _))⟩

set_option maxHeartbeats 400000 in
theorem rangeText_two0 (q : Int) (w : World) (g : Good w) (q0 : 0 ≤ q) (q1 : q < 65536) (hq : (q == 65535) = false) (hc : ((0 : Int) == q) = false) :
    Gives Tryz.prog 35 #[.agg #[.int .u16 0, .int .u16 q]] w (.tuple #[.string ⟨(rangeTextL 0 q).toArray⟩, .int .i64 0]) := by
  unfold Gives
  have p0 : (0 : Int) ≤ 0 := by omega
  have p1 : (0 : Int) < 65536 := by omega
  have He := Lib.hid (rangeTextL_two 0 q (by rintro ⟨_, h⟩; simp [h] at hq) (by simpa using hc))
  have hd : decide (0 ≤ q) = true := by simpa using q0
  have l1 := dec_length 0 (by omega) (by omega)
  have l2 := dec_length q (by omega) (by omega)
  go_enter Tryz.func35, Tryz.ntmps35
  go_wp2_with (go_at_call 37; refine (rightRange_any _ _ _).mono ?_; rintro e w' ⟨rfl, x, rfl⟩)
  refine wp_region_ext (by kernel_rfl) (by kernel_rfl) ?_
  repeat (go_big_quiet_step (first | (go_at_call_of 57 (Value.int .u16 0); exact (decimal16_any _ _ (g.up (by repeat (with_reducible first | exact Up.refl _ | refine Up.ext ?_ _ | refine Up.drew ?_ | refine Up.alloc ?_ _ | refine Up.setCell ?_ (by simp) _))) p0 p1).ext) | (go_at_call 57; exact (decimal16_any q _ (g.up (by repeat (with_reducible first | exact Up.refl _ | refine Up.ext ?_ _ | refine Up.drew ?_ | refine Up.alloc ?_ _ | refine Up.setCell ?_ (by simp) _))) q0 q1).ext)))
  refine wpQuiet_nil ?_
  rintro _ ⟨y, rfl⟩
  go_wp2
  go_ret2
  exact ⟨by rw [He.out]; rfl, Up.mk (by repeat (with_reducible first | exact Up.refl _ | refine Up.ext ?_ _ | refine Up.drew ?_ | refine Up.alloc ?_ _ | refine Up.setCell ?_ (by simp) _))⟩

set_option maxHeartbeats 400000 in
theorem rangeText_any (p q : Int) (w : World) (g : Good w) (p0 : 0 ≤ p) (p1 : p < 65536) (q0 : 0 ≤ q) (q1 : q < 65536) :
    Gives Tryz.prog 35 #[.agg #[.int .u16 p, .int .u16 q]] w
      (if p ≤ q then .tuple #[.string ⟨(rangeTextL p q).toArray⟩, .int .i64 0] else .tuple #[.string ⟨#[]⟩, .int .i64 32]) := by
  by_cases h : p ≤ q
  · rw [if_pos h]
    by_cases h1 : p = 0
    · subst h1
      by_cases h2 : q = 65535
      · subst h2
        unfold Gives
        go_enter Tryz.func35, Tryz.ntmps35
        go_wp2_with (go_at_call 37; refine (rightRange_any _ _ _).mono ?_; rintro e w' ⟨rfl, x, rfl⟩)
        go_ret2
        exact ⟨rfl, Up.mk (by repeat (with_reducible first | exact Up.refl _ | refine Up.ext ?_ _ | refine Up.drew ?_ | refine Up.alloc ?_ _ | refine Up.setCell ?_ (by simp) _))⟩
      · by_cases h3 : (0 : Int) = q
        · subst h3
          exact rangeText_zero w g
        · exact rangeText_two0 q w g q0 q1 (by simpa using h2) (by simpa using h3)
    · by_cases h3 : p = q
      · subst h3
        exact rangeText_one p w g p0 p1 (by simpa using h1)
      · exact rangeText_two p q w g p0 p1 q0 q1 h (by simpa using h1) (by simpa using h3)
  · rw [if_neg h]
    unfold Gives
    have hd : decide (p ≤ q) = false := by simpa using h
    go_enter Tryz.func35, Tryz.ntmps35
    go_wp2_with (go_at_call 37; refine (rightRange_any _ _ _).mono ?_; rintro e w' ⟨rfl, x, rfl⟩)
    go_ret2
    exact ⟨rfl, Up.mk (by repeat (with_reducible first | exact Up.refl _ | refine Up.ext ?_ _ | refine Up.drew ?_ | refine Up.alloc ?_ _ | refine Up.setCell ?_ (by simp) _))⟩

set_option maxHeartbeats 400000 in
theorem keyText_any (pr s d sp dp : Int) (w : World) (g : Good w) (r0 : 0 ≤ pr) (r1 : pr < 256) (sp0 : 0 ≤ sp) (sp1 : sp < 65536) (dp0 : 0 ≤ dp) (dp1 : dp < 65536) :
    Gives Tryz.prog 43 #[.agg #[.int .u8 pr, .int .u32 s, .int .u32 d, .int .u16 sp, .int .u16 dp]] w (.string ⟨(keyTextL pr s d sp dp).toArray⟩) := by
  unfold Gives
  have l1 := textL_length s
  have l2 := textL_length d
  have l3 := dec_length pr (by omega) (by omega)
  have l4 := dec_length sp (by omega) (by omega)
  have l5 := dec_length dp (by omega) (by omega)
  go_enter Tryz.func43, Tryz.ntmps43
  go_wp2
  refine wp_region_ext (by kernel_rfl) (by kernel_rfl) ?_
  repeat (go_big_quiet_step (first
    | (go_at_call 45; exact (decimal8_any pr _ (g.up (by repeat (with_reducible first | exact Up.refl _ | refine Up.ext ?_ _ | refine Up.drew ?_ | refine Up.alloc ?_ _ | refine Up.setCell ?_ (by simp) _))) r0 r1).ext)
    | (go_at_call 14; exact (text_any _ _ (g.up (by repeat (with_reducible first | exact Up.refl _ | refine Up.ext ?_ _ | refine Up.drew ?_ | refine Up.alloc ?_ _ | refine Up.setCell ?_ (by simp) _)))).ext)
    | (go_at_call_of 57 (Value.int .u16 sp); exact (decimal16_any sp _ (g.up (by repeat (with_reducible first | exact Up.refl _ | refine Up.ext ?_ _ | refine Up.drew ?_ | refine Up.alloc ?_ _ | refine Up.setCell ?_ (by simp) _))) sp0 sp1).ext)
    | (go_at_call 57; exact (decimal16_any dp _ (g.up (by repeat (with_reducible first | exact Up.refl _ | refine Up.ext ?_ _ | refine Up.drew ?_ | refine Up.alloc ?_ _ | refine Up.setCell ?_ (by simp) _))) dp0 dp1).ext)))
  refine wpQuiet_nil ?_
  rintro _ ⟨y, rfl⟩
  go_wp2
  go_ret
  exact ⟨rfl, Up.mk (by repeat (with_reducible first | exact Up.refl _ | refine Up.ext ?_ _ | refine Up.drew ?_ | refine Up.alloc ?_ _ | refine Up.setCell ?_ (by simp) _))⟩

set_option maxHeartbeats 400000 in
theorem turn_any (pr s d sp dp : Int) (w : World) :
    Gives Tryz.prog 39 #[.agg #[.int .u8 pr, .int .u32 s, .int .u32 d, .int .u16 sp, .int .u16 dp]] w (.agg #[.int .u8 pr, .int .u32 d, .int .u32 s, .int .u16 dp, .int .u16 sp]) := by
  unfold Gives
  go_enter Tryz.func39, Tryz.ntmps39
  go_wp2
  refine bodyPost_ret (v := .agg #[.int .u8 pr, .int .u32 d, .int .u32 s, .int .u16 dp, .int .u16 sp]) (by simp [results, Tryz.results39, go_sem]) rfl ⟨rfl, Up.mk (by repeat (with_reducible first | exact Up.refl _ | refine Up.ext ?_ _ | refine Up.drew ?_ | refine Up.alloc ?_ _ | refine Up.setCell ?_ (by simp) _))⟩
end Go.Proofs.YtdiiicnjbgimmaaGreatDoor
