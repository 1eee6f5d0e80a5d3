/- What the reference's functions of prefixes, ranges and keys return: just what the program's return. -/
import Derived.Test.YtdiiicnjbgimmaaGreatDoorRefT
import Derived.Test.YtdiiicnjbgimmaaGreatDoorKeysPlain
namespace Go.Proofs.YtdiiicnjbgimmaaGreatDoor
open Go.RowKit Go.Ab
attribute [local go_sem high] eq_prefix eq_key eq_range
theorem szN (n : Int) (h0 : 0 ≤ n) : 1 ≤ sz n ∧ sz n ≤ 4294967296 := ⟨sz_pos n, sz_le n h0⟩
set_option maxHeartbeats 4000000 in
set_option maxRecDepth 100000 in
theorem refSize_any (n : Int) (w : World) (h0 : 0 ≤ n) (h1 : n < 256) : Gives Tryz.prog 26 #[.int .u8 n] w (.int .i64 (sz n)) := by
  unfold Gives
  go_enter Tryz.func26, Tryz.ntmps26
  go_wp2_with fail
  go_loopw [3, 4] (fun o i wr => ∃ (o' i' : Int), o = .int .i64 o' ∧ i = .int .u8 i' ∧ 0 ≤ i' ∧ i' < 256 ∧ 1 ≤ o' ∧ o' ≤ 4294967296 ∧ Hid (o' * sz i' = sz n) ∧ wr = w) (fun _ i _ => 256 - (intOf i).toNat)
  case atStart => exact ⟨1, n, rfl, rfl, h0, h1, by omega, by omega, Lib.hid (by omega), rfl⟩
  case round =>
    obtain ⟨o', i', rfl, rfl, i0, i1, o0, o1, Ho, rfl⟩ := hrel
    by_cases hi : i' < 32
    · have hh := sz_half (i' + 1) (by omega) (by omega)
      rw [Int.add_sub_cancel] at hh
      have hp := sz_pos (i' + 1)
      have hn := sz_le n h0
      have hm : o' * 2 ≤ 4294967296 := by
        have h2 := Ho.out
        rw [hh, ← Int.mul_assoc] at h2
        have := Int.mul_le_mul_of_nonneg_left hp (show 0 ≤ o' * 2 by omega)
        omega
      have Hn : Hid (o' * 2 * sz (i' + 1) = sz n) := Lib.hid (by rw [Int.mul_assoc, ← hh]; exact Ho.out)
      clear hh hp hn
      go_wp2
      go_roundw
      case rel => exact ⟨o' * 2, i' + 1, by go_num, by go_num, by omega, by omega, by omega, by omega, Hn, trivial⟩
      case measure => simp [intOf]; omega
    · have hs := sz_big i' (by omega)
      have e : o' = sz n := by have := Ho.out; rw [hs] at this; omega
      subst e
      clear hs
      go_wp2
      go_ret
      exact ⟨rfl, mkI⟩
set_option maxHeartbeats 4000000 in
set_option maxRecDepth 100000 in
theorem refRight_any (a n : Int) (w : World) (h0 : 0 ≤ n) (h1 : n < 256) (a0 : 0 ≤ a) (a1 : a < 4294967296) : Gives Tryz.prog 17 #[.agg #[.int .u32 a, .int .u8 n]] w (.bool (rightB a n)) := by
  unfold Gives
  obtain ⟨s0, s1⟩ := szN n h0
  by_cases h : n ≤ 32
  · have e : rightB a n = (a % sz n == 0) := by simp [rightB, h]
    have E := Lib.hid e
    have em : a.tmod (sz n) = a % sz n := Int.tmod_eq_emod_of_nonneg a0
    clear e
    go_enter Tryz.func17, Tryz.ntmps17
    go_wp2_with fail
    (refine wp_region_ext (by kernel_rfl) (by kernel_rfl) ?_; (repeat (go_big_quiet_step ((go_at_call 26; exact (refSize_any _ _ h0 h1).ext)))); refine wpQuiet_nil ?_; rintro _ ⟨y, rfl⟩)
    go_wp2
    go_ret
    exact ⟨ret_bool E.out.symm, mkI⟩
  · have hd : decide (n ≤ 32) = false := by simpa using h
    have E : Hid (rightB a n = false) := Lib.hid (by simp [rightB, hd])
    go_enter Tryz.func17, Tryz.ntmps17
    go_wp2_with fail
    (refine wp_region_ext (by kernel_rfl) (by kernel_rfl) ?_; (repeat (go_big_quiet_step ((go_at_call 26; exact (refSize_any _ _ h0 h1).ext)))); refine wpQuiet_nil ?_; rintro _ ⟨y, rfl⟩)
    go_wp2
    go_ret
    exact ⟨ret_bool E.out.symm, mkI⟩
set_option maxHeartbeats 4000000 in
set_option maxRecDepth 100000 in
theorem refPrefixText_any (a n : Int) (w : World) (h0 : 0 ≤ n) (h1 : n < 256) (a0 : 0 ≤ a) (a1 : a < 4294967296) : Gives Tryz.prog 11 #[.agg #[.int .u32 a, .int .u8 n]] w
    (if rightB a n then .tuple #[.string ⟨(prefixTextL a n).toArray⟩, .int .i64 0] else .tuple #[.string ⟨#[]⟩, .int .i64 31]) := by
  unfold Gives
  have l1 := textL_length a
  have l2 := dec_length n (by omega) (by omega)
  have hr := fun w => refRight_any a n w h0 h1 a0 a1
  cases hrb : rightB a n <;> rw [hrb] at hr <;> clear hrb
  · go_enter Tryz.func11, Tryz.ntmps11
    go_wp2_with (go_at_call 17; refine (hr _).mono ?_; rintro e w' ⟨rfl, x, rfl⟩)
    go_ret2
    exact ⟨rfl, mkI⟩
  · go_enter Tryz.func11, Tryz.ntmps11
    go_wp2_with (go_at_call 17; refine (hr _).mono ?_; rintro e w' ⟨rfl, x, rfl⟩)
    (refine wp_region_ext (by kernel_rfl) (by kernel_rfl) ?_; (repeat (go_big_quiet_step ((first | (go_at_call 15; exact (refText_any _ _ a0 a1).ext) | (go_at_call 47; exact (refDecimal_any n _ h0 (by omega)).ext))))); refine wpQuiet_nil ?_; rintro _ ⟨y, rfl⟩)
    go_wp2
    go_ret2
    exact ⟨rfl, mkI⟩
set_option maxHeartbeats 4000000 in
set_option maxRecDepth 100000 in
theorem refBounds_any (a n : Int) (w : World) (h0 : 0 ≤ n) (h1 : n < 256) (a0 : 0 ≤ a) (a1 : a < 4294967296) : Gives Tryz.prog 12 #[.agg #[.int .u32 a, .int .u8 n]] w
    (if rightB a n then .tuple #[.int .u32 a, .int .u32 (a + (sz n - 1)), .int .i64 0] else .tuple #[.int .u32 0, .int .u32 0, .int .i64 31]) := by
  unfold Gives
  obtain ⟨s0, s1⟩ := szN n h0
  have hr := fun w => refRight_any a n w h0 h1 a0 a1
  cases hrb : rightB a n
  · rw [hrb] at hr
    clear hrb
    go_enter Tryz.func12, Tryz.ntmps12
    go_wp2_with (go_at_call 17; refine (hr _).mono ?_; rintro e w' ⟨rfl, x, rfl⟩)
    go_ret3
    exact ⟨rfl, mkI⟩
  · rw [hrb] at hr
    have hb : a + sz n ≤ 4294967296 := by
      obtain ⟨hn, hd⟩ := right_parts hrb
      have e : (4294967296 : Int) % sz n = 0 := by
        have := sz_mul n h0 hn
        exact Int.emod_eq_zero_of_dvd ⟨_, this.symm⟩
      exact dvd_le_mult (by omega) hd e a1
    have e1 : IntKind.i64.wrap (a + sz n) = a + sz n := IntWalk.i64_in _ (by omega)
    have e2 : IntKind.i64.wrap (a + sz n - 1) = a + (sz n - 1) := by rw [IntWalk.i64_in _ (by omega)]; omega
    have e3 : IntKind.u32.wrap (a + (sz n - 1)) = a + (sz n - 1) := by rw [IntKind.wrap_u32]; omega
    clear hrb
    go_enter Tryz.func12, Tryz.ntmps12
    go_wp2_with (go_at_call 17; refine (hr _).mono ?_; rintro e w' ⟨rfl, x, rfl⟩)
    (refine wp_region_ext (by kernel_rfl) (by kernel_rfl) ?_; (repeat (go_big_quiet_step ((go_at_call 26; exact (refSize_any _ _ h0 h1).ext)))); refine wpQuiet_nil ?_; rintro _ ⟨y, rfl⟩)
    go_wp2
    go_ret3
    exact ⟨rfl, mkI⟩
set_option maxHeartbeats 4000000 in
set_option maxRecDepth 100000 in
theorem refHas_any (a n x : Int) (w : World) (h0 : 0 ≤ n) (h1 : n < 256) (a0 : 0 ≤ a) (a1 : a < 4294967296) (_ : 0 ≤ x) (_ : x < 4294967296) : Gives Tryz.prog 20 #[.agg #[.int .u32 a, .int .u8 n], .int .u32 x] w (.bool (hasB a n x)) := by
  unfold Gives
  have hr := fun w => refBounds_any a n w h0 h1 a0 a1
  cases hrb : rightB a n <;> rw [hrb] at hr
  · rw [if_neg (by simp)] at hr
    have E : Hid (hasB a n x = false) := Lib.hid (by simp [hasB, hrb])
    clear hrb
    go_enter Tryz.func20, Tryz.ntmps20
    go_wp2_with (go_at_call 12; refine (hr _).mono ?_; rintro e w' ⟨rfl, x, rfl⟩)
    go_ret
    exact ⟨ret_bool E.out.symm, mkI⟩
  · rw [if_pos rfl] at hr
    have E : Hid (hasB a n x = (decide (a ≤ x) && decide (x ≤ a + (sz n - 1)))) := Lib.hid (by rw [hasB_iff hrb]; simp)
    generalize a + (sz n - 1) = hi at *
    clear hrb
    by_cases c1 : a ≤ x <;> by_cases c2 : x ≤ hi
    all_goals
      have d1 : decide (a ≤ x) = decide (a ≤ x) := rfl
      go_enter Tryz.func20, Tryz.ntmps20
      go_wp2_with (go_at_call 12; refine (hr _).mono ?_; rintro e w' ⟨rfl, x, rfl⟩)
      go_ret
      exact ⟨ret_bool (by rw [E.out]; simp [c1, c2]), mkI⟩
set_option maxHeartbeats 4000000 in
set_option maxRecDepth 100000 in
theorem refInside_any (a n b m : Int) (w : World) (h0 : 0 ≤ n) (h1 : n < 256) (a0 : 0 ≤ a) (a1 : a < 4294967296) (m0 : 0 ≤ m) (m1 : m < 256) (b0 : 0 ≤ b) (b1 : b < 4294967296) :
    Gives Tryz.prog 22 #[.agg #[.int .u32 a, .int .u8 n], .agg #[.int .u32 b, .int .u8 m]] w (.bool (insideB a n b m)) := by
  unfold Gives
  have hr := fun w => refBounds_any a n w h0 h1 a0 a1
  cases hrb : rightB a n <;> rw [hrb] at hr
  · rw [if_neg (by simp)] at hr
    have E : Hid (insideB a n b m = false) := Lib.hid (by simp [insideB, hrb])
    clear hrb
    go_enter Tryz.func22, Tryz.ntmps22
    go_wp2_with (go_at_call 12; refine (hr _).mono ?_; rintro e w' ⟨rfl, x, rfl⟩)
    go_ret
    exact ⟨ret_bool E.out.symm, mkI⟩
  · rw [if_pos rfl] at hr
    have hi1 : a + (sz n - 1) < 4294967296 := by
      obtain ⟨hn, hd⟩ := right_parts hrb
      have := dvd_le_mult (b := 4294967296) (by have := sz_pos n; omega) hd (Int.emod_eq_zero_of_dvd ⟨_, (sz_mul n h0 hn).symm⟩) a1
      omega
    have hi0 : 0 ≤ a + (sz n - 1) := by have := sz_pos n; omega
    have E : Hid ((hasB b m a && hasB b m (a + (sz n - 1))) = insideB a n b m) := Lib.hid (ref_inside h0 m0 hrb)
    generalize a + (sz n - 1) = hi at *
    have g1 := fun w => refHas_any b m a w m0 m1 b0 b1 a0 a1
    have g2 := fun w => refHas_any b m hi w m0 m1 b0 b1 hi0 hi1
    generalize hasB b m a = c1 at *
    generalize hasB b m hi = c2 at *
    clear hrb
    cases c1
    all_goals
      go_enter Tryz.func22, Tryz.ntmps22
      go_wp2_with (first
        | (go_at_call 12; refine (hr _).mono ?_; rintro e w' ⟨rfl, x, rfl⟩)
        | (go_at_call 20; ((first | with_reducible refine (g1 _).mono ?_ | with_reducible refine (g2 _).mono ?_)); rintro e w' ⟨rfl, x, rfl⟩))
      go_ret
      exact ⟨ret_bool (by rw [← E.out]; rfl), mkI⟩
set_option maxHeartbeats 4000000 in
set_option maxRecDepth 100000 in
theorem refMeet_any (a n b m : Int) (w : World) (h0 : 0 ≤ n) (h1 : n < 256) (a0 : 0 ≤ a) (a1 : a < 4294967296) (m0 : 0 ≤ m) (m1 : m < 256) (b0 : 0 ≤ b) (b1 : b < 4294967296) :
    Gives Tryz.prog 24 #[.agg #[.int .u32 a, .int .u8 n], .agg #[.int .u32 b, .int .u8 m]] w (.bool (meetB a n b m)) := by
  unfold Gives
  have hr := fun w => refBounds_any a n w h0 h1 a0 a1
  have hq := fun w => refBounds_any b m w m0 m1 b0 b1
  have E : Hid (meetB a n b m = (rightB a n && (rightB b m && (decide (a ≤ b + (sz m - 1)) && decide (b ≤ a + (sz n - 1)))))) := Lib.hid (by
    cases hra : rightB a n
    · have : ∀ x, hasB a n x = false := fun x => by unfold hasB; rw [hra]; rfl
      simp [meetB, insideB, hra, this]
    · cases hrb : rightB b m
      · have : ∀ x, hasB b m x = false := fun x => by unfold hasB; rw [hrb]; rfl
        simp [meetB, insideB, hrb, this]
      · rw [ref_meet h0 m0 hra hrb]; rfl)
  generalize rightB a n = ra at *
  generalize rightB b m = rb at *
  generalize a + (sz n - 1) = hi at *
  generalize b + (sz m - 1) = hj at *
  generalize meetB a n b m = r at *
  cases ra <;> cases rb
  case true.true =>
    rw [if_pos rfl] at hr hq
    by_cases c1 : a ≤ hj <;> by_cases c2 : b ≤ hi
    all_goals
      go_enter Tryz.func24, Tryz.ntmps24
      go_wp2_with (go_at_call 12; ((first | with_reducible refine (hr _).mono ?_ | with_reducible refine (hq _).mono ?_)); rintro e w' ⟨rfl, x, rfl⟩)
      go_ret
      exact ⟨ret_bool (by rw [E.out]; simp [c1, c2]), mkI⟩
  all_goals
    first | rw [if_pos rfl] at hr | rw [if_neg (by simp)] at hr
    first | rw [if_pos rfl] at hq | rw [if_neg (by simp)] at hq
    go_enter Tryz.func24, Tryz.ntmps24
    go_wp2_with (go_at_call 12; ((first | with_reducible refine (hr _).mono ?_ | with_reducible refine (hq _).mono ?_)); rintro e w' ⟨rfl, x, rfl⟩)
    go_ret
    exact ⟨ret_bool (by rw [E.out]; rfl), mkI⟩
end Go.Proofs.YtdiiicnjbgimmaaGreatDoor
namespace Go.Proofs.YtdiiicnjbgimmaaGreatDoor
open Go.RowKit Go.Ab
attribute [local go_sem high] eq_prefix eq_key eq_range
set_option maxHeartbeats 4000000 in
set_option maxRecDepth 100000 in
theorem refTurn_any (pr s d sp dp : Int) (w : World) : Gives Tryz.prog 40 #[.agg #[.int .u8 pr, .int .u32 s, .int .u32 d, .int .u16 sp, .int .u16 dp]] w (.agg #[.int .u8 pr, .int .u32 d, .int .u32 s, .int .u16 dp, .int .u16 sp]) := by
  unfold Gives
  go_enter Tryz.func40, Tryz.ntmps40
  go_wp2
  refine bodyPost_ret (v := Value.agg #[.int .u8 pr, .int .u32 d, .int .u32 s, .int .u16 dp, .int .u16 sp]) (by simp [results, Tryz.results40, go_sem]) rfl ⟨rfl, mkI⟩
set_option maxHeartbeats 4000000 in
set_option maxRecDepth 100000 in
theorem refKeyText_any (pr s d sp dp : Int) (w : World) (k : KeyB pr s d sp dp) : Gives Tryz.prog 44 #[.agg #[.int .u8 pr, .int .u32 s, .int .u32 d, .int .u16 sp, .int .u16 dp]] w (.string ⟨(keyTextL pr s d sp dp).toArray⟩) := by
  obtain ⟨r0, r1, s0, s1, d0, d1, sp0, sp1, dp0, dp1⟩ := k
  unfold Gives
  have l1 := textL_length s
  have l2 := textL_length d
  have l3 := dec_length pr (by omega) (by omega)
  have l4 := dec_length sp (by omega) (by omega)
  have l5 := dec_length dp (by omega) (by omega)
  go_enter Tryz.func44, Tryz.ntmps44
  go_wp2_with fail
  (refine wp_region_ext (by kernel_rfl) (by kernel_rfl) ?_; (repeat (go_big_quiet_step ((first
    | (go_at_call 15; exact (refText_any _ _ (by omega) (by omega)).ext)
    | (go_at_call 47; exact (refDecimal_any _ _ (by omega) (by omega)).ext))))); refine wpQuiet_nil ?_; rintro _ ⟨y, rfl⟩)
  go_wp2
  go_ret
  exact ⟨rfl, mkI⟩
set_option maxHeartbeats 4000000 in
set_option maxRecDepth 100000 in
theorem refRangeText_any (p q : Int) (w : World) (p0 : 0 ≤ p) (p1 : p < 65536) (q0 : 0 ≤ q) (q1 : q < 65536) :
    Gives Tryz.prog 36 #[.agg #[.int .u16 p, .int .u16 q]] w (if p ≤ q then .tuple #[.string ⟨(rangeTextL p q).toArray⟩, .int .i64 0] else .tuple #[.string ⟨#[]⟩, .int .i64 32]) := by
  unfold Gives
  have l4 := dec_length p (by omega) (by omega)
  have l5 := dec_length q (by omega) (by omega)
  by_cases h : p ≤ q
  · rw [if_pos h]
    by_cases hst : p = 0 ∧ q = 65535
    · obtain ⟨rfl, rfl⟩ := hst
      go_enter Tryz.func36, Tryz.ntmps36
      go_wp2
      go_ret2
      exact ⟨rfl, mkI⟩
    · by_cases hpq : p = q
      · subst hpq
        have E := Lib.hid (rangeTextL_one p hst)
        have b1 : ((p == 0) && (p == 65535)) = false := by simp; omega
        by_cases b0 : p = 0
        · subst b0
          go_enter Tryz.func36, Tryz.ntmps36
          go_wp2_with (go_at_call 47; refine (refDecimal_any _ _ (by omega) (by omega)).mono ?_; rintro e w' ⟨rfl, x, rfl⟩)
          go_ret2
          exact ⟨by rw [E.out]; rfl, mkI⟩
        · have b2 : (p == 0) = false := by simpa using b0
          clear b0 hst b1
          go_enter Tryz.func36, Tryz.ntmps36
          go_wp2_with (go_at_call 47; refine (refDecimal_any _ _ (by omega) (by omega)).mono ?_; rintro e w' ⟨rfl, x, rfl⟩)
          go_ret2
          exact ⟨by rw [E.out]; rfl, mkI⟩
      · have E := Lib.hid (rangeTextL_two p q hst hpq)
        have b3 : (p == q) = false := by simpa using hpq
        by_cases b0 : p = 0
        · subst b0
          have b4 : (q == 65535) = false := by simp; omega
          clear hst hpq
          go_enter Tryz.func36, Tryz.ntmps36
          go_wp2_with fail
          (refine wp_region_ext (by kernel_rfl) (by kernel_rfl) ?_; (repeat (go_big_quiet_step ((go_at_call 47; exact (refDecimal_any _ _ (by omega) (by omega)).ext)))); refine wpQuiet_nil ?_; rintro _ ⟨y, rfl⟩)
          go_wp2
          go_ret2
          exact ⟨by rw [E.out]; rfl, mkI⟩
        · have b2 : (p == 0) = false := by simpa using b0
          clear b0 hst hpq
          go_enter Tryz.func36, Tryz.ntmps36
          go_wp2_with fail
          (refine wp_region_ext (by kernel_rfl) (by kernel_rfl) ?_; (repeat (go_big_quiet_step ((go_at_call 47; exact (refDecimal_any _ _ (by omega) (by omega)).ext)))); refine wpQuiet_nil ?_; rintro _ ⟨y, rfl⟩)
          go_wp2
          go_ret2
          exact ⟨by rw [E.out]; rfl, mkI⟩
  · rw [if_neg h]
    have hd : q < p := by omega
    clear h
    go_enter Tryz.func36, Tryz.ntmps36
    go_wp2
    go_ret2
    exact ⟨rfl, mkI⟩
end Go.Proofs.YtdiiicnjbgimmaaGreatDoor
