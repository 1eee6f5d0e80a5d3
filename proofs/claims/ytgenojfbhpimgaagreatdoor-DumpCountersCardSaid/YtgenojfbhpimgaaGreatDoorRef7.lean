/- What the reference's Compare, ReadRange and ReadKey return: just what the program's return. -/
import Derived.Test.YtgenojfbhpimgaaGreatDoorRef6
import Derived.Test.YtgenojfbhpimgaaGreatDoorRefA
import Derived.Test.YtgenojfbhpimgaaGreatDoorAddr3
namespace Go.Proofs.YtgenojfbhpimgaaGreatDoor
open Go.RowKit Go.Ab
attribute [local go_sem high] eq_key
set_option maxHeartbeats 16000000 in
set_option maxRecDepth 100000 in
theorem refCompare_any (pr s d sp dp pr' s' d' sp' dp' : Int) (w : World) (k1 : KeyB pr s d sp dp) (k2 : KeyB pr' s' d' sp' dp') :
    Gives Tryz.prog 80 #[.agg #[.int .u8 pr, .int .u32 s, .int .u32 d, .int .u16 sp, .int .u16 dp], .agg #[.int .u8 pr', .int .u32 s', .int .u32 d', .int .u16 sp', .int .u16 dp']] w
      (.int .i64 (keyCmp pr s d sp dp pr' s' d' sp' dp')) := by
  obtain ⟨r0, r1, s0, s1, d0, d1, sp0, sp1, dp0, dp1⟩ := k1
  obtain ⟨r0', r1', s0', s1', d0', d1', sp0', sp1', dp0', dp1'⟩ := k2
  unfold Gives
  go_enter Tryz.func80, Tryz.ntmps80
  go_wp2_with fail
  go_loopw [7] (fun i wr => ∃ k : Nat, k ≤ 5 ∧ i = .int .i64 k ∧ Hid (∀ j, j < k → partI pr s d sp dp j = partI pr' s' d' sp' dp' j) ∧
      ∃ x : Ext ((((w.alloc (.cells #[.int .u8 pr, .int .u32 s, .int .u32 d, .int .u16 sp, .int .u16 dp] 25)).alloc (.cells #[.int .u8 pr', .int .u32 s', .int .u32 d', .int .u16 sp', .int .u16 dp'] 25)).alloc (.cells #[.int .i64 pr, .int .i64 s, .int .i64 sp, .int .i64 d, .int .i64 dp] 3)).alloc (.cells #[.int .i64 pr', .int .i64 s', .int .i64 sp', .int .i64 d', .int .i64 dp'] 3)), wr = x.w) (fun i _ => 5 - (intOf i).toNat)
  case atStart => exact ⟨0, by omega, rfl, (fun j hj => by omega), (Up.refl _).mk⟩
  case round =>
    obtain ⟨k, hk, rfl, heq, x, rfl⟩ := hrel
    rcases (by omega : k = 0 ∨ k = 1 ∨ k = 2 ∨ k = 3 ∨ k = 4 ∨ k = 5) with rfl | rfl | rfl | rfl | rfl | rfl
    · rcases Int.lt_trichotomy pr pr' with hlt | he | hgt
      · have Hn : Hid (keyCmp pr s d sp dp pr' s' d' sp' dp' = -1) := Lib.hid ((keyCmp_at _ _ 0 (by omega) heq.out (show pr ≠ pr' by omega)).trans (by show cmpI pr pr' = -1; unfold cmpI; rw [if_pos hlt]))
        go_wp2_with fail
        (refine wp_region_ext (by kernel_rfl) (by kernel_rfl) ?_; (repeat (go_big_quiet_step (fail))); refine wpQuiet_nil ?_; rintro _ ⟨y, rfl⟩)
        go_wp2_with fail
        go_ret
        exact ⟨ret_int Hn.out.symm, mkI⟩
      · have He : Hid (pr = pr') := Lib.hid he
        have c1 : decide (pr < pr') = false := by simp; omega
        have c2 : decide (pr' < pr) = false := by simp; omega
        clear he
        go_wp2_with fail
        (refine wp_region_ext (by kernel_rfl) (by kernel_rfl) ?_; (repeat (go_big_quiet_step (fail))); refine wpQuiet_nil ?_; rintro _ ⟨y, rfl⟩)
        go_wp2_with fail
        (refine wp_region_ext (by kernel_rfl) (by kernel_rfl) ?_; (repeat (go_big_quiet_step (fail))); refine wpQuiet_nil ?_; rintro _ ⟨z, rfl⟩)
        go_wp2_with fail
        go_roundw
        case rel => exact ⟨1, by omega, rfl, Lib.hid (lt_succ_all heq.out He.out), mkI⟩
        case measure => simp [intOf]
      · have Hn : Hid (keyCmp pr s d sp dp pr' s' d' sp' dp' = 1) := Lib.hid ((keyCmp_at _ _ 0 (by omega) heq.out (show pr ≠ pr' by omega)).trans (by show cmpI pr pr' = 1; unfold cmpI; rw [if_neg (by omega), if_pos hgt]))
        have c1 : decide (pr < pr') = false := by simp; omega
        go_wp2_with fail
        (refine wp_region_ext (by kernel_rfl) (by kernel_rfl) ?_; (repeat (go_big_quiet_step (fail))); refine wpQuiet_nil ?_; rintro _ ⟨y, rfl⟩)
        go_wp2_with fail
        (refine wp_region_ext (by kernel_rfl) (by kernel_rfl) ?_; (repeat (go_big_quiet_step (fail))); refine wpQuiet_nil ?_; rintro _ ⟨z, rfl⟩)
        go_wp2_with fail
        go_ret
        exact ⟨ret_int Hn.out.symm, mkI⟩
    · rcases Int.lt_trichotomy s s' with hlt | he | hgt
      · have Hn : Hid (keyCmp pr s d sp dp pr' s' d' sp' dp' = -1) := Lib.hid ((keyCmp_at _ _ 1 (by omega) heq.out (show s ≠ s' by omega)).trans (by show cmpI s s' = -1; unfold cmpI; rw [if_pos hlt]))
        go_wp2_with fail
        (refine wp_region_ext (by kernel_rfl) (by kernel_rfl) ?_; (repeat (go_big_quiet_step (fail))); refine wpQuiet_nil ?_; rintro _ ⟨y, rfl⟩)
        go_wp2_with fail
        go_ret
        exact ⟨ret_int Hn.out.symm, mkI⟩
      · have He : Hid (s = s') := Lib.hid he
        have c1 : decide (s < s') = false := by simp; omega
        have c2 : decide (s' < s) = false := by simp; omega
        clear he
        go_wp2_with fail
        (refine wp_region_ext (by kernel_rfl) (by kernel_rfl) ?_; (repeat (go_big_quiet_step (fail))); refine wpQuiet_nil ?_; rintro _ ⟨y, rfl⟩)
        go_wp2_with fail
        (refine wp_region_ext (by kernel_rfl) (by kernel_rfl) ?_; (repeat (go_big_quiet_step (fail))); refine wpQuiet_nil ?_; rintro _ ⟨z, rfl⟩)
        go_wp2_with fail
        go_roundw
        case rel => exact ⟨2, by omega, rfl, Lib.hid (lt_succ_all heq.out He.out), mkI⟩
        case measure => simp [intOf]
      · have Hn : Hid (keyCmp pr s d sp dp pr' s' d' sp' dp' = 1) := Lib.hid ((keyCmp_at _ _ 1 (by omega) heq.out (show s ≠ s' by omega)).trans (by show cmpI s s' = 1; unfold cmpI; rw [if_neg (by omega), if_pos hgt]))
        have c1 : decide (s < s') = false := by simp; omega
        go_wp2_with fail
        (refine wp_region_ext (by kernel_rfl) (by kernel_rfl) ?_; (repeat (go_big_quiet_step (fail))); refine wpQuiet_nil ?_; rintro _ ⟨y, rfl⟩)
        go_wp2_with fail
        (refine wp_region_ext (by kernel_rfl) (by kernel_rfl) ?_; (repeat (go_big_quiet_step (fail))); refine wpQuiet_nil ?_; rintro _ ⟨z, rfl⟩)
        go_wp2_with fail
        go_ret
        exact ⟨ret_int Hn.out.symm, mkI⟩
    · rcases Int.lt_trichotomy sp sp' with hlt | he | hgt
      · have Hn : Hid (keyCmp pr s d sp dp pr' s' d' sp' dp' = -1) := Lib.hid ((keyCmp_at _ _ 2 (by omega) heq.out (show sp ≠ sp' by omega)).trans (by show cmpI sp sp' = -1; unfold cmpI; rw [if_pos hlt]))
        go_wp2_with fail
        (refine wp_region_ext (by kernel_rfl) (by kernel_rfl) ?_; (repeat (go_big_quiet_step (fail))); refine wpQuiet_nil ?_; rintro _ ⟨y, rfl⟩)
        go_wp2_with fail
        go_ret
        exact ⟨ret_int Hn.out.symm, mkI⟩
      · have He : Hid (sp = sp') := Lib.hid he
        have c1 : decide (sp < sp') = false := by simp; omega
        have c2 : decide (sp' < sp) = false := by simp; omega
        clear he
        go_wp2_with fail
        (refine wp_region_ext (by kernel_rfl) (by kernel_rfl) ?_; (repeat (go_big_quiet_step (fail))); refine wpQuiet_nil ?_; rintro _ ⟨y, rfl⟩)
        go_wp2_with fail
        (refine wp_region_ext (by kernel_rfl) (by kernel_rfl) ?_; (repeat (go_big_quiet_step (fail))); refine wpQuiet_nil ?_; rintro _ ⟨z, rfl⟩)
        go_wp2_with fail
        go_roundw
        case rel => exact ⟨3, by omega, rfl, Lib.hid (lt_succ_all heq.out He.out), mkI⟩
        case measure => simp [intOf]
      · have Hn : Hid (keyCmp pr s d sp dp pr' s' d' sp' dp' = 1) := Lib.hid ((keyCmp_at _ _ 2 (by omega) heq.out (show sp ≠ sp' by omega)).trans (by show cmpI sp sp' = 1; unfold cmpI; rw [if_neg (by omega), if_pos hgt]))
        have c1 : decide (sp < sp') = false := by simp; omega
        go_wp2_with fail
        (refine wp_region_ext (by kernel_rfl) (by kernel_rfl) ?_; (repeat (go_big_quiet_step (fail))); refine wpQuiet_nil ?_; rintro _ ⟨y, rfl⟩)
        go_wp2_with fail
        (refine wp_region_ext (by kernel_rfl) (by kernel_rfl) ?_; (repeat (go_big_quiet_step (fail))); refine wpQuiet_nil ?_; rintro _ ⟨z, rfl⟩)
        go_wp2_with fail
        go_ret
        exact ⟨ret_int Hn.out.symm, mkI⟩
    · rcases Int.lt_trichotomy d d' with hlt | he | hgt
      · have Hn : Hid (keyCmp pr s d sp dp pr' s' d' sp' dp' = -1) := Lib.hid ((keyCmp_at _ _ 3 (by omega) heq.out (show d ≠ d' by omega)).trans (by show cmpI d d' = -1; unfold cmpI; rw [if_pos hlt]))
        go_wp2_with fail
        (refine wp_region_ext (by kernel_rfl) (by kernel_rfl) ?_; (repeat (go_big_quiet_step (fail))); refine wpQuiet_nil ?_; rintro _ ⟨y, rfl⟩)
        go_wp2_with fail
        go_ret
        exact ⟨ret_int Hn.out.symm, mkI⟩
      · have He : Hid (d = d') := Lib.hid he
        have c1 : decide (d < d') = false := by simp; omega
        have c2 : decide (d' < d) = false := by simp; omega
        clear he
        go_wp2_with fail
        (refine wp_region_ext (by kernel_rfl) (by kernel_rfl) ?_; (repeat (go_big_quiet_step (fail))); refine wpQuiet_nil ?_; rintro _ ⟨y, rfl⟩)
        go_wp2_with fail
        (refine wp_region_ext (by kernel_rfl) (by kernel_rfl) ?_; (repeat (go_big_quiet_step (fail))); refine wpQuiet_nil ?_; rintro _ ⟨z, rfl⟩)
        go_wp2_with fail
        go_roundw
        case rel => exact ⟨4, by omega, rfl, Lib.hid (lt_succ_all heq.out He.out), mkI⟩
        case measure => simp [intOf]
      · have Hn : Hid (keyCmp pr s d sp dp pr' s' d' sp' dp' = 1) := Lib.hid ((keyCmp_at _ _ 3 (by omega) heq.out (show d ≠ d' by omega)).trans (by show cmpI d d' = 1; unfold cmpI; rw [if_neg (by omega), if_pos hgt]))
        have c1 : decide (d < d') = false := by simp; omega
        go_wp2_with fail
        (refine wp_region_ext (by kernel_rfl) (by kernel_rfl) ?_; (repeat (go_big_quiet_step (fail))); refine wpQuiet_nil ?_; rintro _ ⟨y, rfl⟩)
        go_wp2_with fail
        (refine wp_region_ext (by kernel_rfl) (by kernel_rfl) ?_; (repeat (go_big_quiet_step (fail))); refine wpQuiet_nil ?_; rintro _ ⟨z, rfl⟩)
        go_wp2_with fail
        go_ret
        exact ⟨ret_int Hn.out.symm, mkI⟩
    · rcases Int.lt_trichotomy dp dp' with hlt | he | hgt
      · have Hn : Hid (keyCmp pr s d sp dp pr' s' d' sp' dp' = -1) := Lib.hid ((keyCmp_at _ _ 4 (by omega) heq.out (show dp ≠ dp' by omega)).trans (by show cmpI dp dp' = -1; unfold cmpI; rw [if_pos hlt]))
        go_wp2_with fail
        (refine wp_region_ext (by kernel_rfl) (by kernel_rfl) ?_; (repeat (go_big_quiet_step (fail))); refine wpQuiet_nil ?_; rintro _ ⟨y, rfl⟩)
        go_wp2_with fail
        go_ret
        exact ⟨ret_int Hn.out.symm, mkI⟩
      · have He : Hid (dp = dp') := Lib.hid he
        have c1 : decide (dp < dp') = false := by simp; omega
        have c2 : decide (dp' < dp) = false := by simp; omega
        clear he
        go_wp2_with fail
        (refine wp_region_ext (by kernel_rfl) (by kernel_rfl) ?_; (repeat (go_big_quiet_step (fail))); refine wpQuiet_nil ?_; rintro _ ⟨y, rfl⟩)
        go_wp2_with fail
        (refine wp_region_ext (by kernel_rfl) (by kernel_rfl) ?_; (repeat (go_big_quiet_step (fail))); refine wpQuiet_nil ?_; rintro _ ⟨z, rfl⟩)
        go_wp2_with fail
        go_roundw
        case rel => exact ⟨5, by omega, rfl, Lib.hid (lt_succ_all heq.out He.out), mkI⟩
        case measure => simp [intOf]
      · have Hn : Hid (keyCmp pr s d sp dp pr' s' d' sp' dp' = 1) := Lib.hid ((keyCmp_at _ _ 4 (by omega) heq.out (show dp ≠ dp' by omega)).trans (by show cmpI dp dp' = 1; unfold cmpI; rw [if_neg (by omega), if_pos hgt]))
        have c1 : decide (dp < dp') = false := by simp; omega
        go_wp2_with fail
        (refine wp_region_ext (by kernel_rfl) (by kernel_rfl) ?_; (repeat (go_big_quiet_step (fail))); refine wpQuiet_nil ?_; rintro _ ⟨y, rfl⟩)
        go_wp2_with fail
        (refine wp_region_ext (by kernel_rfl) (by kernel_rfl) ?_; (repeat (go_big_quiet_step (fail))); refine wpQuiet_nil ?_; rintro _ ⟨z, rfl⟩)
        go_wp2_with fail
        go_ret
        exact ⟨ret_int Hn.out.symm, mkI⟩
    · have Hn : Hid (keyCmp pr s d sp dp pr' s' d' sp' dp' = 0) := Lib.hid (keyCmp_eq _ _ heq.out)
      go_wp2_with fail
      go_ret
      exact ⟨ret_int Hn.out.symm, mkI⟩

set_option maxHeartbeats 8000000 in
set_option maxRecDepth 100000 in
theorem refReadKey_any (l : List UInt8) (w : World) (hl : l.length < 4294967281) : Gives Tryz.prog 73 #[.string ⟨l.toArray⟩] w (readKeyV l) := by
  have E0 : Hid ((0 : Int) = atOf l (some l)) := Lib.hid (by simp [atOf])
  have c1 : ∀ w, Gives Tryz.prog 107 #[.string ⟨l.toArray⟩, .int .i64 0, .int .i64 255] w (.tuple #[.int .i64 (rk1 l).1, .int .i64 (atOf l (rk1 l).2)]) := fun w => by
    rw [E0.out]; exact number_any l (some l) 255 w hl (suf_self l) (by omega) (by omega)
  have u1 : Suf l (rk1 l).2 := suf_num _ (suf_self l)
  have q1 : ∀ w, Gives Tryz.prog 108 #[.string ⟨l.toArray⟩, .int .i64 (atOf l (rk1 l).2), .int .u8 32] w (.int .i64 (atOf l (signP 32 (rk1 l).2))) := fun w => sign_any l (rk1 l).2 32 w hl u1
  have c2 : ∀ w, Gives Tryz.prog 109 #[.string ⟨l.toArray⟩, .int .i64 (atOf l (signP 32 (rk1 l).2))] w (.tuple #[.int .i64 (rk2 l).1, .int .i64 (atOf l (rk2 l).2)]) := fun w => address_any l _ w hl (suf_sign 32 u1)
  have u2 : Suf l (rk2 l).2 := suf_addr (suf_sign 32 u1)
  have q2 : ∀ w, Gives Tryz.prog 108 #[.string ⟨l.toArray⟩, .int .i64 (atOf l (rk2 l).2), .int .u8 58] w (.int .i64 (atOf l (signP 58 (rk2 l).2))) := fun w => sign_any l (rk2 l).2 58 w hl u2
  have c3 : ∀ w, Gives Tryz.prog 107 #[.string ⟨l.toArray⟩, .int .i64 (atOf l (signP 58 (rk2 l).2)), .int .i64 65535] w (.tuple #[.int .i64 (rk3 l).1, .int .i64 (atOf l (rk3 l).2)]) := fun w => number_any l _ 65535 w hl (suf_sign 58 u2) (by omega) (by omega)
  have u3 : Suf l (rk3 l).2 := suf_num _ (suf_sign 58 u2)
  have q3 : ∀ w, Gives Tryz.prog 108 #[.string ⟨l.toArray⟩, .int .i64 (atOf l (rk3 l).2), .int .u8 32] w (.int .i64 (atOf l (signP 32 (rk3 l).2))) := fun w => sign_any l (rk3 l).2 32 w hl u3
  have c4 : ∀ w, Gives Tryz.prog 109 #[.string ⟨l.toArray⟩, .int .i64 (atOf l (signP 32 (rk3 l).2))] w (.tuple #[.int .i64 (rk4 l).1, .int .i64 (atOf l (rk4 l).2)]) := fun w => address_any l _ w hl (suf_sign 32 u3)
  have u4 : Suf l (rk4 l).2 := suf_addr (suf_sign 32 u3)
  have q4 : ∀ w, Gives Tryz.prog 108 #[.string ⟨l.toArray⟩, .int .i64 (atOf l (rk4 l).2), .int .u8 58] w (.int .i64 (atOf l (signP 58 (rk4 l).2))) := fun w => sign_any l (rk4 l).2 58 w hl u4
  have c5 : ∀ w, Gives Tryz.prog 107 #[.string ⟨l.toArray⟩, .int .i64 (atOf l (signP 58 (rk4 l).2)), .int .i64 65535] w (.tuple #[.int .i64 (rk5 l).1, .int .i64 (atOf l (rk5 l).2)]) := fun w => number_any l _ 65535 w hl (suf_sign 58 u4) (by omega) (by omega)
  have b1 : 0 ≤ (rk1 l).1 ∧ (rk1 l).1 ≤ 255 := numP_bd 255 (by omega) _
  have b2 : 0 ≤ (rk2 l).1 ∧ (rk2 l).1 < 4294967296 := addrP_bd _
  have b3 : 0 ≤ (rk3 l).1 ∧ (rk3 l).1 ≤ 65535 := numP_bd 65535 (by omega) _
  have b4 : 0 ≤ (rk4 l).1 ∧ (rk4 l).1 < 4294967296 := addrP_bd _
  have b5 : 0 ≤ (rk5 l).1 ∧ (rk5 l).1 ≤ 65535 := numP_bd 65535 (by omega) _
  rw [ref_readKey l]
  obtain ⟨b1, b1'⟩ := b1; obtain ⟨b2, b2'⟩ := b2; obtain ⟨b3, b3'⟩ := b3; obtain ⟨b4, b4'⟩ := b4; obtain ⟨b5, b5'⟩ := b5
  clear E0 u1 u2 u3 u4
  generalize (rk1 l).1 = x1 at *; generalize (rk2 l).1 = x2 at *; generalize (rk3 l).1 = x3 at *; generalize (rk4 l).1 = x4 at *; generalize (rk5 l).1 = x5 at *
  generalize hy1 : (rk1 l).2 = y1 at *; generalize hy2 : (rk2 l).2 = y2 at *; generalize hy3 : (rk3 l).2 = y3 at *; generalize hy4 : (rk4 l).2 = y4 at *; generalize hy5 : (rk5 l).2 = y5 at *
  clear hy1 hy2 hy3 hy4 hy5
  generalize hz1 : signP 32 y1 = z1 at *; generalize hz2 : signP 58 y2 = z2 at *; generalize hz3 : signP 32 y3 = z3 at *; generalize hz4 : signP 58 y4 = z4 at *
  clear hz1 hz2 hz3 hz4
  unfold Gives
  by_cases h : y5 = some []
  · have t := at_eq (l := l) h
    rw [if_pos h]
    clear h
    go_enter Tryz.func73, Tryz.ntmps73
    go_wp2_with (first
      | (go_at_call 107; ((first | with_reducible refine (c1 _).mono ?_ | with_reducible refine (c3 _).mono ?_ | with_reducible refine (c5 _).mono ?_)); rintro e w' ⟨rfl, x, rfl⟩)
      | (go_at_call 109; ((first | with_reducible refine (c2 _).mono ?_ | with_reducible refine (c4 _).mono ?_)); rintro e w' ⟨rfl, x, rfl⟩)
      | (go_at_call 108; ((first | with_reducible refine (q1 _).mono ?_ | with_reducible refine (q2 _).mono ?_ | with_reducible refine (q3 _).mono ?_ | with_reducible refine (q4 _).mono ?_)); rintro e w' ⟨rfl, x, rfl⟩))
    refine bodyPost_ret (v := Value.tuple #[.agg #[.int .u8 x1, .int .u32 x2, .int .u32 x4, .int .u16 x3, .int .u16 x5], .int .i64 0]) (by simp [results, Tryz.results73, go_sem]) rfl ⟨rfl, mkI⟩
  · have t := at_ne (l := l) h
    rw [if_neg h]
    clear h
    go_enter Tryz.func73, Tryz.ntmps73
    go_wp2_with (first
      | (go_at_call 107; ((first | with_reducible refine (c1 _).mono ?_ | with_reducible refine (c3 _).mono ?_ | with_reducible refine (c5 _).mono ?_)); rintro e w' ⟨rfl, x, rfl⟩)
      | (go_at_call 109; ((first | with_reducible refine (c2 _).mono ?_ | with_reducible refine (c4 _).mono ?_)); rintro e w' ⟨rfl, x, rfl⟩)
      | (go_at_call 108; ((first | with_reducible refine (q1 _).mono ?_ | with_reducible refine (q2 _).mono ?_ | with_reducible refine (q3 _).mono ?_ | with_reducible refine (q4 _).mono ?_)); rintro e w' ⟨rfl, x, rfl⟩))
    refine bodyPost_ret (v := Value.tuple #[.agg #[.int .u8 0, .int .u32 0, .int .u32 0, .int .u16 0, .int .u16 0], .int .i64 30]) (by simp [results, Tryz.results73, go_sem]) rfl ⟨rfl, mkI⟩
end Go.Proofs.YtgenojfbhpimgaaGreatDoor
