/- The law of the keys: arms of the walk of AddrKeys. -/
import Derived.Test.YtbcdeeiddpcdeaaDoorKeysPlain
namespace Go.Proofs.YtbcdeeiddpcdeaaDoor
open Go.RowKit Go.Ab
set_option maxHeartbeats 8000000 in
theorem keys_AE (pr s d sp dp pr'' s'' d'' sp'' dp'' C3 : Int) (w : World) (g : Good w) (k : KeyB pr s d sp dp) (k'' : KeyB pr'' s'' d'' sp'' dp'')
    (h1 : Hid (keyCmp pr s d sp dp pr s d sp dp = 0)) (h3 : Hid (keyCmp pr s d sp dp pr'' s'' d'' sp'' dp'' = C3)) 
    (hs : (s == d) = false) (hs' : (d == s) = false) :
    Gives Tryd.prog 9 #[.agg #[.int .u8 pr, .int .u32 s, .int .u32 d, .int .u16 sp, .int .u16 dp], .agg #[.int .u8 pr, .int .u32 s, .int .u32 d, .int .u16 sp, .int .u16 dp], .agg #[.int .u8 pr'', .int .u32 s'', .int .u32 d'', .int .u16 sp'', .int .u16 dp'']] w (.bool true) := by
  unfold Gives
  go_enter Tryd.func9, Tryd.ntmps9
  go_wp2_with fail
  refine (awake_any _ (g.up (by repeat (with_reducible first | exact Up.refl _ | refine Up.ext ?_ _ | refine Up.drew ?_ | refine Up.alloc ?_ _ | refine Up.setCell ?_ (by simp) _)))).mono ?_
  rintro e w' ⟨rfl, x1, rfl⟩
  have m0 : w.heap.size < x1.w.heap.size := x1.lt (by simp [go_sem])
  have m1 : w.heap.size + 1 < x1.w.heap.size := x1.lt (by simp [go_sem])
  have m2 : w.heap.size + 1 + 1 < x1.w.heap.size := x1.lt (by simp [go_sem])
  go_wp2_with fail
  refine (turn_any pr s d sp dp _).mono ?_
  rintro e w' ⟨rfl, x2, rfl⟩
  have n0 := x2.lt m0
  have n1 := x2.lt m1
  have n2 := x2.lt m2
  go_wp2_with fail
  (refine wp_region_ext (by kernel_rfl) (by kernel_rfl) ?_; (repeat (go_big_quiet_step ((go_at_call 29; exact (turn_any pr d s dp sp _).ext)))); refine wpQuiet_nil ?_; rintro _ ⟨y, rfl⟩)
  have p0 := y.lt (lt_alloc (.cells #[.int .u8 pr, .int .u32 d, .int .u32 s, .int .u16 dp, .int .u16 sp] 52) n0)
  have p1 := y.lt (lt_alloc (.cells #[.int .u8 pr, .int .u32 d, .int .u32 s, .int .u16 dp, .int .u16 sp] 52) n1)
  have p2 := y.lt (lt_alloc (.cells #[.int .u8 pr, .int .u32 d, .int .u32 s, .int .u16 dp, .int .u16 sp] 52) n2)
  go_wp2_with fail
  have o0 := Nat.lt_succ_of_lt n0
  have o1 := Nat.lt_succ_of_lt n1
  have o2 := Nat.lt_succ_of_lt n2
  simp only [Nat.succ_eq_add_one] at o0 o1 o2
  (refine wp_region_ext (by kernel_rfl) (by kernel_rfl) ?_; (repeat (go_big_quiet_step ((go_at_call 30; first
    | with_reducible exact (cmpK pr s d sp dp pr s d sp dp 0 _ k k h1).ext
    | with_reducible exact (cmpK pr s d sp dp pr'' s'' d'' sp'' dp'' C3 _ k k'' h3).ext)))); refine wpQuiet_nil ?_; rintro _ ⟨z, rfl⟩)
  have q0 := z.lt p0
  have q1 := z.lt p1
  have q2 := z.lt p2
  go_wp2_with fail
  all_goals first
    | (refine bodyPost_ret (v := .bool true) (by simp [results, Tryd.results9, go_sem] <;> omega) rfl ⟨rfl, Up.mk (by repeat (with_reducible first | exact Up.refl _ | refine Up.ext ?_ _ | refine Up.drew ?_ | refine Up.alloc ?_ _ | refine Up.setCell ?_ (by simp) _))⟩)
    | (exfalso; omega)
    | skip
set_option maxHeartbeats 8000000 in
theorem keys_AP (pr s d sp dp pr' s' d' sp' dp' pr'' s'' d'' sp'' dp'' C3 C4 : Int) (w : World) (g : Good w) (k : KeyB pr s d sp dp) (k' : KeyB pr' s' d' sp' dp') (k'' : KeyB pr'' s'' d'' sp'' dp'')
    (h1 : Hid (keyCmp pr s d sp dp pr' s' d' sp' dp' = 1)) (h2 : Hid (keyCmp pr' s' d' sp' dp' pr s d sp dp = (-1))) (h3 : Hid (keyCmp pr' s' d' sp' dp' pr'' s'' d'' sp'' dp'' = C3)) (h4 : Hid (keyCmp pr s d sp dp pr'' s'' d'' sp'' dp'' = C4))
    (hs : (s == d) = false) (hs' : (d == s) = false) (hne : Hid (¬ (pr = pr' ∧ s = s' ∧ d = d' ∧ sp = sp' ∧ dp = dp'))) :
    Gives Tryd.prog 9 #[.agg #[.int .u8 pr, .int .u32 s, .int .u32 d, .int .u16 sp, .int .u16 dp], .agg #[.int .u8 pr', .int .u32 s', .int .u32 d', .int .u16 sp', .int .u16 dp'], .agg #[.int .u8 pr'', .int .u32 s'', .int .u32 d'', .int .u16 sp'', .int .u16 dp'']] w (.bool true) := by
  unfold Gives
  go_enter Tryd.func9, Tryd.ntmps9
  go_wp2_with fail
  refine (awake_any _ (g.up (by repeat (with_reducible first | exact Up.refl _ | refine Up.ext ?_ _ | refine Up.drew ?_ | refine Up.alloc ?_ _ | refine Up.setCell ?_ (by simp) _)))).mono ?_
  rintro e w' ⟨rfl, x1, rfl⟩
  have m0 : w.heap.size < x1.w.heap.size := x1.lt (by simp [go_sem])
  have m1 : w.heap.size + 1 < x1.w.heap.size := x1.lt (by simp [go_sem])
  have m2 : w.heap.size + 1 + 1 < x1.w.heap.size := x1.lt (by simp [go_sem])
  go_wp2_with fail
  refine (turn_any pr s d sp dp _).mono ?_
  rintro e w' ⟨rfl, x2, rfl⟩
  have n0 := x2.lt m0
  have n1 := x2.lt m1
  have n2 := x2.lt m2
  go_wp2_with fail
  (refine wp_region_ext (by kernel_rfl) (by kernel_rfl) ?_; (repeat (go_big_quiet_step ((go_at_call 29; exact (turn_any pr d s dp sp _).ext)))); refine wpQuiet_nil ?_; rintro _ ⟨y, rfl⟩)
  have p0 := y.lt (lt_alloc (.cells #[.int .u8 pr, .int .u32 d, .int .u32 s, .int .u16 dp, .int .u16 sp] 52) n0)
  have p1 := y.lt (lt_alloc (.cells #[.int .u8 pr, .int .u32 d, .int .u32 s, .int .u16 dp, .int .u16 sp] 52) n1)
  have p2 := y.lt (lt_alloc (.cells #[.int .u8 pr, .int .u32 d, .int .u32 s, .int .u16 dp, .int .u16 sp] 52) n2)
  go_wp2_with fail
  have o0 := Nat.lt_succ_of_lt n0
  have o1 := Nat.lt_succ_of_lt n1
  have o2 := Nat.lt_succ_of_lt n2
  simp only [Nat.succ_eq_add_one] at o0 o1 o2
  (refine wp_region_ext (by kernel_rfl) (by kernel_rfl) ?_; (repeat (go_big_quiet_step ((go_at_call 30; first
    | with_reducible exact (cmpK pr s d sp dp pr' s' d' sp' dp' 1 _ k k' h1).ext
    | with_reducible exact (cmpK pr' s' d' sp' dp' pr s d sp dp (-1) _ k' k h2).ext
    | with_reducible exact (cmpK pr' s' d' sp' dp' pr'' s'' d'' sp'' dp'' C3 _ k' k'' h3).ext
    | with_reducible exact (cmpK pr s d sp dp pr'' s'' d'' sp'' dp'' C4 _ k k'' h4).ext)))); refine wpQuiet_nil ?_; rintro _ ⟨z, rfl⟩)
  have q0 := z.lt p0
  have q1 := z.lt p1
  have q2 := z.lt p2
  go_wp2_with fail
  all_goals first
    | exact (hne.out ⟨by assumption, by assumption, by assumption, by assumption, by assumption⟩).elim
    | (refine bodyPost_ret (v := .bool true) (by simp [results, Tryd.results9, go_sem] <;> omega) rfl ⟨rfl, Up.mk (by repeat (with_reducible first | exact Up.refl _ | refine Up.ext ?_ _ | refine Up.drew ?_ | refine Up.alloc ?_ _ | refine Up.setCell ?_ (by simp) _))⟩)
    | (exfalso; omega)
    | skip
set_option maxHeartbeats 8000000 in
theorem keys_AMa (pr s d sp dp pr' s' d' sp' dp' pr'' s'' d'' sp'' dp'' C4 : Int) (w : World) (g : Good w) (k : KeyB pr s d sp dp) (k' : KeyB pr' s' d' sp' dp') (k'' : KeyB pr'' s'' d'' sp'' dp'')
    (h1 : Hid (keyCmp pr s d sp dp pr' s' d' sp' dp' = (-1))) (h2 : Hid (keyCmp pr' s' d' sp' dp' pr s d sp dp = 1)) (h3 : Hid (keyCmp pr' s' d' sp' dp' pr'' s'' d'' sp'' dp'' = 1)) (h4 : Hid (keyCmp pr s d sp dp pr'' s'' d'' sp'' dp'' = C4))
    (hs : (s == d) = false) (hs' : (d == s) = false) (hne : Hid (¬ (pr = pr' ∧ s = s' ∧ d = d' ∧ sp = sp' ∧ dp = dp'))) :
    Gives Tryd.prog 9 #[.agg #[.int .u8 pr, .int .u32 s, .int .u32 d, .int .u16 sp, .int .u16 dp], .agg #[.int .u8 pr', .int .u32 s', .int .u32 d', .int .u16 sp', .int .u16 dp'], .agg #[.int .u8 pr'', .int .u32 s'', .int .u32 d'', .int .u16 sp'', .int .u16 dp'']] w (.bool true) := by
  unfold Gives
  go_enter Tryd.func9, Tryd.ntmps9
  go_wp2_with fail
  refine (awake_any _ (g.up (by repeat (with_reducible first | exact Up.refl _ | refine Up.ext ?_ _ | refine Up.drew ?_ | refine Up.alloc ?_ _ | refine Up.setCell ?_ (by simp) _)))).mono ?_
  rintro e w' ⟨rfl, x1, rfl⟩
  have m0 : w.heap.size < x1.w.heap.size := x1.lt (by simp [go_sem])
  have m1 : w.heap.size + 1 < x1.w.heap.size := x1.lt (by simp [go_sem])
  have m2 : w.heap.size + 1 + 1 < x1.w.heap.size := x1.lt (by simp [go_sem])
  go_wp2_with fail
  refine (turn_any pr s d sp dp _).mono ?_
  rintro e w' ⟨rfl, x2, rfl⟩
  have n0 := x2.lt m0
  have n1 := x2.lt m1
  have n2 := x2.lt m2
  go_wp2_with fail
  (refine wp_region_ext (by kernel_rfl) (by kernel_rfl) ?_; (repeat (go_big_quiet_step ((go_at_call 29; exact (turn_any pr d s dp sp _).ext)))); refine wpQuiet_nil ?_; rintro _ ⟨y, rfl⟩)
  have p0 := y.lt (lt_alloc (.cells #[.int .u8 pr, .int .u32 d, .int .u32 s, .int .u16 dp, .int .u16 sp] 52) n0)
  have p1 := y.lt (lt_alloc (.cells #[.int .u8 pr, .int .u32 d, .int .u32 s, .int .u16 dp, .int .u16 sp] 52) n1)
  have p2 := y.lt (lt_alloc (.cells #[.int .u8 pr, .int .u32 d, .int .u32 s, .int .u16 dp, .int .u16 sp] 52) n2)
  go_wp2_with fail
  have o0 := Nat.lt_succ_of_lt n0
  have o1 := Nat.lt_succ_of_lt n1
  have o2 := Nat.lt_succ_of_lt n2
  simp only [Nat.succ_eq_add_one] at o0 o1 o2
  (refine wp_region_ext (by kernel_rfl) (by kernel_rfl) ?_; (repeat (go_big_quiet_step ((go_at_call 30; first
    | with_reducible exact (cmpK pr s d sp dp pr' s' d' sp' dp' (-1) _ k k' h1).ext
    | with_reducible exact (cmpK pr' s' d' sp' dp' pr s d sp dp 1 _ k' k h2).ext
    | with_reducible exact (cmpK pr' s' d' sp' dp' pr'' s'' d'' sp'' dp'' 1 _ k' k'' h3).ext
    | with_reducible exact (cmpK pr s d sp dp pr'' s'' d'' sp'' dp'' C4 _ k k'' h4).ext)))); refine wpQuiet_nil ?_; rintro _ ⟨z, rfl⟩)
  have q0 := z.lt p0
  have q1 := z.lt p1
  have q2 := z.lt p2
  go_wp2_with fail
  all_goals first
    | exact (hne.out ⟨by assumption, by assumption, by assumption, by assumption, by assumption⟩).elim
    | (refine bodyPost_ret (v := .bool true) (by simp [results, Tryd.results9, go_sem] <;> omega) rfl ⟨rfl, Up.mk (by repeat (with_reducible first | exact Up.refl _ | refine Up.ext ?_ _ | refine Up.drew ?_ | refine Up.alloc ?_ _ | refine Up.setCell ?_ (by simp) _))⟩)
    | (exfalso; omega)
    | skip
set_option maxHeartbeats 8000000 in
theorem keys_AMb (pr s d sp dp pr' s' d' sp' dp' pr'' s'' d'' sp'' dp'' C3 : Int) (w : World) (g : Good w) (k : KeyB pr s d sp dp) (k' : KeyB pr' s' d' sp' dp') (k'' : KeyB pr'' s'' d'' sp'' dp'')
    (h1 : Hid (keyCmp pr s d sp dp pr' s' d' sp' dp' = (-1))) (h2 : Hid (keyCmp pr' s' d' sp' dp' pr s d sp dp = 1)) (h3 : Hid (keyCmp pr' s' d' sp' dp' pr'' s'' d'' sp'' dp'' = C3)) (h4 : Hid (keyCmp pr s d sp dp pr'' s'' d'' sp'' dp'' = (-1)))
    (hs : (s == d) = false) (hs' : (d == s) = false) (hc3 : decide (0 < C3) = false) (hne : Hid (¬ (pr = pr' ∧ s = s' ∧ d = d' ∧ sp = sp' ∧ dp = dp'))) :
    Gives Tryd.prog 9 #[.agg #[.int .u8 pr, .int .u32 s, .int .u32 d, .int .u16 sp, .int .u16 dp], .agg #[.int .u8 pr', .int .u32 s', .int .u32 d', .int .u16 sp', .int .u16 dp'], .agg #[.int .u8 pr'', .int .u32 s'', .int .u32 d'', .int .u16 sp'', .int .u16 dp'']] w (.bool true) := by
  unfold Gives
  go_enter Tryd.func9, Tryd.ntmps9
  go_wp2_with fail
  refine (awake_any _ (g.up (by repeat (with_reducible first | exact Up.refl _ | refine Up.ext ?_ _ | refine Up.drew ?_ | refine Up.alloc ?_ _ | refine Up.setCell ?_ (by simp) _)))).mono ?_
  rintro e w' ⟨rfl, x1, rfl⟩
  have m0 : w.heap.size < x1.w.heap.size := x1.lt (by simp [go_sem])
  have m1 : w.heap.size + 1 < x1.w.heap.size := x1.lt (by simp [go_sem])
  have m2 : w.heap.size + 1 + 1 < x1.w.heap.size := x1.lt (by simp [go_sem])
  go_wp2_with fail
  refine (turn_any pr s d sp dp _).mono ?_
  rintro e w' ⟨rfl, x2, rfl⟩
  have n0 := x2.lt m0
  have n1 := x2.lt m1
  have n2 := x2.lt m2
  go_wp2_with fail
  (refine wp_region_ext (by kernel_rfl) (by kernel_rfl) ?_; (repeat (go_big_quiet_step ((go_at_call 29; exact (turn_any pr d s dp sp _).ext)))); refine wpQuiet_nil ?_; rintro _ ⟨y, rfl⟩)
  have p0 := y.lt (lt_alloc (.cells #[.int .u8 pr, .int .u32 d, .int .u32 s, .int .u16 dp, .int .u16 sp] 52) n0)
  have p1 := y.lt (lt_alloc (.cells #[.int .u8 pr, .int .u32 d, .int .u32 s, .int .u16 dp, .int .u16 sp] 52) n1)
  have p2 := y.lt (lt_alloc (.cells #[.int .u8 pr, .int .u32 d, .int .u32 s, .int .u16 dp, .int .u16 sp] 52) n2)
  go_wp2_with fail
  have o0 := Nat.lt_succ_of_lt n0
  have o1 := Nat.lt_succ_of_lt n1
  have o2 := Nat.lt_succ_of_lt n2
  simp only [Nat.succ_eq_add_one] at o0 o1 o2
  (refine wp_region_ext (by kernel_rfl) (by kernel_rfl) ?_; (repeat (go_big_quiet_step ((go_at_call 30; first
    | with_reducible exact (cmpK pr s d sp dp pr' s' d' sp' dp' (-1) _ k k' h1).ext
    | with_reducible exact (cmpK pr' s' d' sp' dp' pr s d sp dp 1 _ k' k h2).ext
    | with_reducible exact (cmpK pr' s' d' sp' dp' pr'' s'' d'' sp'' dp'' C3 _ k' k'' h3).ext
    | with_reducible exact (cmpK pr s d sp dp pr'' s'' d'' sp'' dp'' (-1) _ k k'' h4).ext)))); refine wpQuiet_nil ?_; rintro _ ⟨z, rfl⟩)
  have q0 := z.lt p0
  have q1 := z.lt p1
  have q2 := z.lt p2
  go_wp2_with fail
  all_goals first
    | exact (hne.out ⟨by assumption, by assumption, by assumption, by assumption, by assumption⟩).elim
    | (refine bodyPost_ret (v := .bool true) (by simp [results, Tryd.results9, go_sem] <;> omega) rfl ⟨rfl, Up.mk (by repeat (with_reducible first | exact Up.refl _ | refine Up.ext ?_ _ | refine Up.drew ?_ | refine Up.alloc ?_ _ | refine Up.setCell ?_ (by simp) _))⟩)
    | (exfalso; omega)
    | skip
end Go.Proofs.YtbcdeeiddpcdeaaDoor
