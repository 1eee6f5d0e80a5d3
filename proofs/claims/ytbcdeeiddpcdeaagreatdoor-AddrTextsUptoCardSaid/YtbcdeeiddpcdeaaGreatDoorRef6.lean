/- What the reference's functions of ranges and keys return: just what the program's return. -/
import Derived.Test.YtbcdeeiddpcdeaaGreatDoorRef5
import Derived.Test.YtbcdeeiddpcdeaaGreatDoorKeysPlain
namespace Go.Proofs.YtbcdeeiddpcdeaaGreatDoor
open Go.RowKit Go.Ab
attribute [local go_sem high] eq_prefix eq_key eq_range
set_option maxHeartbeats 4000000 in
set_option maxRecDepth 100000 in
theorem refTurn_any (pr s d sp dp : Int) (w : World) : Gives Tryz.prog 21 #[.agg #[.int .u8 pr, .int .u32 s, .int .u32 d, .int .u16 sp, .int .u16 dp]] w (.agg #[.int .u8 pr, .int .u32 d, .int .u32 s, .int .u16 dp, .int .u16 sp]) := by
  unfold Gives
  go_enter Tryz.func21, Tryz.ntmps21
  go_wp2
  refine bodyPost_ret (v := Value.agg #[.int .u8 pr, .int .u32 d, .int .u32 s, .int .u16 dp, .int .u16 sp]) (by simp [results, Tryz.results21, go_sem]) rfl ⟨rfl, mkI⟩
set_option maxHeartbeats 4000000 in
set_option maxRecDepth 100000 in
theorem refKeyText_any (pr s d sp dp : Int) (w : World) (k : KeyB pr s d sp dp) : Gives Tryz.prog 25 #[.agg #[.int .u8 pr, .int .u32 s, .int .u32 d, .int .u16 sp, .int .u16 dp]] w (.string ⟨(keyTextL pr s d sp dp).toArray⟩) := by
  obtain ⟨r0, r1, s0, s1, d0, d1, sp0, sp1, dp0, dp1⟩ := k
  unfold Gives
  have l1 := textL_length s
  have l2 := textL_length d
  have l3 := dec_length pr (by omega) (by omega)
  have l4 := dec_length sp (by omega) (by omega)
  have l5 := dec_length dp (by omega) (by omega)
  go_enter Tryz.func25, Tryz.ntmps25
  go_wp2_with fail
  (refine wp_region_ext (by kernel_rfl) (by kernel_rfl) ?_; (repeat (go_big_quiet_step ((first
    | (go_at_call 37; exact (refText_any _ _ (by omega) (by omega)).ext)
    | (go_at_call 54; exact (refDecimal_any _ _ (by omega) (by omega)).ext))))); refine wpQuiet_nil ?_; rintro _ ⟨y, rfl⟩)
  go_wp2
  go_ret
  exact ⟨rfl, mkI⟩
set_option maxHeartbeats 4000000 in
set_option maxRecDepth 100000 in
theorem refRangeText_any (p q : Int) (w : World) (p0 : 0 ≤ p) (p1 : p < 65536) (q0 : 0 ≤ q) (q1 : q < 65536) :
    Gives Tryz.prog 17 #[.agg #[.int .u16 p, .int .u16 q]] w (if p ≤ q then .tuple #[.string ⟨(rangeTextL p q).toArray⟩, .int .i64 0] else .tuple #[.string ⟨#[]⟩, .int .i64 32]) := by
  unfold Gives
  have l4 := dec_length p (by omega) (by omega)
  have l5 := dec_length q (by omega) (by omega)
  by_cases h : p ≤ q
  · rw [if_pos h]
    by_cases hst : p = 0 ∧ q = 65535
    · obtain ⟨rfl, rfl⟩ := hst
      go_enter Tryz.func17, Tryz.ntmps17
      go_wp2
      go_ret2
      exact ⟨rfl, mkI⟩
    · by_cases hpq : p = q
      · subst hpq
        have E := Lib.hid (rangeTextL_one p hst)
        have b1 : ((p == 0) && (p == 65535)) = false := by simp; omega
        by_cases b0 : p = 0
        · subst b0
          go_enter Tryz.func17, Tryz.ntmps17
          go_wp2_with (go_at_call 54; refine (refDecimal_any _ _ (by omega) (by omega)).mono ?_; rintro e w' ⟨rfl, x, rfl⟩)
          go_ret2
          exact ⟨by rw [E.out]; rfl, mkI⟩
        · have b2 : (p == 0) = false := by simpa using b0
          clear b0 hst b1
          go_enter Tryz.func17, Tryz.ntmps17
          go_wp2_with (go_at_call 54; refine (refDecimal_any _ _ (by omega) (by omega)).mono ?_; rintro e w' ⟨rfl, x, rfl⟩)
          go_ret2
          exact ⟨by rw [E.out]; rfl, mkI⟩
      · have E := Lib.hid (rangeTextL_two p q hst hpq)
        have b3 : (p == q) = false := by simpa using hpq
        by_cases b0 : p = 0
        · subst b0
          have b4 : (q == 65535) = false := by simp; omega
          clear hst hpq
          go_enter Tryz.func17, Tryz.ntmps17
          go_wp2_with fail
          (refine wp_region_ext (by kernel_rfl) (by kernel_rfl) ?_; (repeat (go_big_quiet_step ((go_at_call 54; exact (refDecimal_any _ _ (by omega) (by omega)).ext)))); refine wpQuiet_nil ?_; rintro _ ⟨y, rfl⟩)
          go_wp2
          go_ret2
          exact ⟨by rw [E.out]; rfl, mkI⟩
        · have b2 : (p == 0) = false := by simpa using b0
          clear b0 hst hpq
          go_enter Tryz.func17, Tryz.ntmps17
          go_wp2_with fail
          (refine wp_region_ext (by kernel_rfl) (by kernel_rfl) ?_; (repeat (go_big_quiet_step ((go_at_call 54; exact (refDecimal_any _ _ (by omega) (by omega)).ext)))); refine wpQuiet_nil ?_; rintro _ ⟨y, rfl⟩)
          go_wp2
          go_ret2
          exact ⟨by rw [E.out]; rfl, mkI⟩
  · rw [if_neg h]
    have hd : q < p := by omega
    clear h
    go_enter Tryz.func17, Tryz.ntmps17
    go_wp2
    go_ret2
    exact ⟨rfl, mkI⟩
end Go.Proofs.YtbcdeeiddpcdeaaGreatDoor
