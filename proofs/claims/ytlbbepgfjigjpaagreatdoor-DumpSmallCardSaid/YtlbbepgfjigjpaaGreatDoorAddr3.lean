/- Keys compared: what Compare of package addr returns. -/
import Derived.Test.YtlbbepgfjigjpaaGreatDoorAddr2
namespace Go.Ab
def cmpI (x y : Int) : Int := if x < y then -1 else if y < x then 1 else 0
def partI (pr s d sp dp : Int) (i : Nat) : Int := match i with | 0 => pr | 1 => s | 2 => sp | 3 => d | _ => dp
/-- The first part that differs decides. -/
def keyCmpFrom (f g : Nat → Int) : Nat → Nat → Int
  | 0, _ => 0
  | n + 1, i => if f i = g i then keyCmpFrom f g n (i + 1) else cmpI (f i) (g i)
def keyCmp (pr s d sp dp pr' s' d' sp' dp' : Int) : Int := keyCmpFrom (partI pr s d sp dp) (partI pr' s' d' sp' dp') 5 0
theorem keyCmpFrom_skip (f g : Nat → Int) : ∀ (m k : Nat), (∀ j, j < m → f j = g j) → keyCmpFrom f g (m + k) 0 = keyCmpFrom f g k m
  | 0, k, _ => by simp
  | m + 1, k, h => by
    have h1 := keyCmpFrom_skip f g m (k + 1) (fun j hj => h j (by omega))
    rw [show m + 1 + k = m + (k + 1) by omega, h1, keyCmpFrom, if_pos (h m (by omega))]
theorem keyCmp_at (f g : Nat → Int) (m : Nat) (hm : m < 5) (h : ∀ j, j < m → f j = g j) (hne : f m ≠ g m) : keyCmpFrom f g 5 0 = cmpI (f m) (g m) := by
  have := keyCmpFrom_skip f g m (5 - m) h
  rw [show m + (5 - m) = 5 by omega] at this
  rw [this, show 5 - m = (4 - m) + 1 by omega, keyCmpFrom, if_neg hne]
theorem keyCmp_eq (f g : Nat → Int) (h : ∀ j, j < 5 → f j = g j) : keyCmpFrom f g 5 0 = 0 := by
  have := keyCmpFrom_skip f g 5 0 h
  rwa [keyCmpFrom] at this
theorem cmpI_self (x : Int) : cmpI x x = 0 := by unfold cmpI; simp
theorem cmpI_ne {x y : Int} (h : x ≠ y) : (cmpI x y != 0) = true := by
  unfold cmpI
  by_cases h1 : x < y
  · simp [h1]
  · have : y < x := by omega
    simp [h1, this]
end Go.Ab
namespace Go.Proofs.YtlbbepgfjigjpaaGreatDoor
open Go.RowKit Go.Ab

set_option maxHeartbeats 400000 in
theorem cmpU32_any (x y : Int) (w : World) : Gives Tryz.prog 90 #[.int .u32 x, .int .u32 y] w (.int .i64 (cmpI x y)) := by
  refine Gives.of_same ?_
  by_cases h : x < y
  · go_enter Tryz.func90, Tryz.ntmps90
    go_wp2
    go_ret
    exact ⟨ret_int (by unfold cmpI; rw [if_pos h]), rfl⟩
  · by_cases h2 : y < x
    · go_enter Tryz.func90, Tryz.ntmps90
      go_wp2
      go_ret
      exact ⟨ret_int (by unfold cmpI; rw [if_neg (by omega), if_pos h2]), rfl⟩
    · go_enter Tryz.func90, Tryz.ntmps90
      go_wp2
      go_ret
      exact ⟨ret_int (by unfold cmpI; rw [if_neg (by omega), if_neg (by omega)]), rfl⟩

set_option maxHeartbeats 400000 in
theorem part_0 (pr s d sp dp : Int) (w : World) (r0 : 0 ≤ pr) (r1 : pr < 256) (sp0 : 0 ≤ sp) (sp1 : sp < 65536) (dp0 : 0 ≤ dp) (dp1 : dp < 65536) :
    Gives Tryz.prog 89 #[.agg #[.int .u8 pr, .int .u32 s, .int .u32 d, .int .u16 sp, .int .u16 dp], .int .i64 0] w (.int .u32 pr) := by
  unfold Gives
  have hi : ∀ w, (Instr.index 161 (.agg #[.int .u32 pr, .int .u32 s, .int .u32 sp, .int .u32 d, .int .u32 dp]) (.int .i64 0)).run Tryz.prog w = .ok (.int .u32 pr) w := fun _ => by kernel_rfl
  go_enter Tryz.func89, Tryz.ntmps89
  go_wp2
  go_ret
  exact ⟨rfl, Up.mk (by repeat (with_reducible first | exact Up.refl _ | refine Up.ext ?_ _ | refine Up.drew ?_ | refine Up.alloc ?_ _ | refine Up.setCell ?_ (by simp) _))⟩
set_option maxHeartbeats 400000 in
theorem part_1 (pr s d sp dp : Int) (w : World) (r0 : 0 ≤ pr) (r1 : pr < 256) (sp0 : 0 ≤ sp) (sp1 : sp < 65536) (dp0 : 0 ≤ dp) (dp1 : dp < 65536) :
    Gives Tryz.prog 89 #[.agg #[.int .u8 pr, .int .u32 s, .int .u32 d, .int .u16 sp, .int .u16 dp], .int .i64 1] w (.int .u32 s) := by
  unfold Gives
  have hi : ∀ w, (Instr.index 161 (.agg #[.int .u32 pr, .int .u32 s, .int .u32 sp, .int .u32 d, .int .u32 dp]) (.int .i64 1)).run Tryz.prog w = .ok (.int .u32 s) w := fun _ => by kernel_rfl
  go_enter Tryz.func89, Tryz.ntmps89
  go_wp2
  go_ret
  exact ⟨rfl, Up.mk (by repeat (with_reducible first | exact Up.refl _ | refine Up.ext ?_ _ | refine Up.drew ?_ | refine Up.alloc ?_ _ | refine Up.setCell ?_ (by simp) _))⟩
set_option maxHeartbeats 400000 in
theorem part_2 (pr s d sp dp : Int) (w : World) (r0 : 0 ≤ pr) (r1 : pr < 256) (sp0 : 0 ≤ sp) (sp1 : sp < 65536) (dp0 : 0 ≤ dp) (dp1 : dp < 65536) :
    Gives Tryz.prog 89 #[.agg #[.int .u8 pr, .int .u32 s, .int .u32 d, .int .u16 sp, .int .u16 dp], .int .i64 2] w (.int .u32 sp) := by
  unfold Gives
  have hi : ∀ w, (Instr.index 161 (.agg #[.int .u32 pr, .int .u32 s, .int .u32 sp, .int .u32 d, .int .u32 dp]) (.int .i64 2)).run Tryz.prog w = .ok (.int .u32 sp) w := fun _ => by kernel_rfl
  go_enter Tryz.func89, Tryz.ntmps89
  go_wp2
  go_ret
  exact ⟨rfl, Up.mk (by repeat (with_reducible first | exact Up.refl _ | refine Up.ext ?_ _ | refine Up.drew ?_ | refine Up.alloc ?_ _ | refine Up.setCell ?_ (by simp) _))⟩
set_option maxHeartbeats 400000 in
theorem part_3 (pr s d sp dp : Int) (w : World) (r0 : 0 ≤ pr) (r1 : pr < 256) (sp0 : 0 ≤ sp) (sp1 : sp < 65536) (dp0 : 0 ≤ dp) (dp1 : dp < 65536) :
    Gives Tryz.prog 89 #[.agg #[.int .u8 pr, .int .u32 s, .int .u32 d, .int .u16 sp, .int .u16 dp], .int .i64 3] w (.int .u32 d) := by
  unfold Gives
  have hi : ∀ w, (Instr.index 161 (.agg #[.int .u32 pr, .int .u32 s, .int .u32 sp, .int .u32 d, .int .u32 dp]) (.int .i64 3)).run Tryz.prog w = .ok (.int .u32 d) w := fun _ => by kernel_rfl
  go_enter Tryz.func89, Tryz.ntmps89
  go_wp2
  go_ret
  exact ⟨rfl, Up.mk (by repeat (with_reducible first | exact Up.refl _ | refine Up.ext ?_ _ | refine Up.drew ?_ | refine Up.alloc ?_ _ | refine Up.setCell ?_ (by simp) _))⟩
set_option maxHeartbeats 400000 in
theorem part_4 (pr s d sp dp : Int) (w : World) (r0 : 0 ≤ pr) (r1 : pr < 256) (sp0 : 0 ≤ sp) (sp1 : sp < 65536) (dp0 : 0 ≤ dp) (dp1 : dp < 65536) :
    Gives Tryz.prog 89 #[.agg #[.int .u8 pr, .int .u32 s, .int .u32 d, .int .u16 sp, .int .u16 dp], .int .i64 4] w (.int .u32 dp) := by
  unfold Gives
  have hi : ∀ w, (Instr.index 161 (.agg #[.int .u32 pr, .int .u32 s, .int .u32 sp, .int .u32 d, .int .u32 dp]) (.int .i64 4)).run Tryz.prog w = .ok (.int .u32 dp) w := fun _ => by kernel_rfl
  go_enter Tryz.func89, Tryz.ntmps89
  go_wp2
  go_ret
  exact ⟨rfl, Up.mk (by repeat (with_reducible first | exact Up.refl _ | refine Up.ext ?_ _ | refine Up.drew ?_ | refine Up.alloc ?_ _ | refine Up.setCell ?_ (by simp) _))⟩

set_option maxHeartbeats 4000000 in
theorem compare_any (pr s d sp dp pr' s' d' sp' dp' : Int) (w : World) (r0 : 0 ≤ pr) (r1 : pr < 256) (sp0 : 0 ≤ sp) (sp1 : sp < 65536) (dp0 : 0 ≤ dp) (dp1 : dp < 65536) (r0' : 0 ≤ pr') (r1' : pr' < 256) (sp0' : 0 ≤ sp') (sp1' : sp' < 65536) (dp0' : 0 ≤ dp') (dp1' : dp' < 65536) :
    Gives Tryz.prog 55 #[.agg #[.int .u8 pr, .int .u32 s, .int .u32 d, .int .u16 sp, .int .u16 dp], .agg #[.int .u8 pr', .int .u32 s', .int .u32 d', .int .u16 sp', .int .u16 dp']] w
      (.int .i64 (keyCmp pr s d sp dp pr' s' d' sp' dp')) := by
  unfold Gives
  go_enter Tryz.func55, Tryz.ntmps55
  go_wp2_with fail
  go_loopw [6, 7, 8] (fun _ _ i wr => ∃ k : Nat, k ≤ 5 ∧ i = .int .i64 k ∧ Hid (∀ j, j < k → partI pr s d sp dp j = partI pr' s' d' sp' dp' j) ∧
      ∃ x : Ext ((w.alloc (.cells #[.int .u8 pr, .int .u32 s, .int .u32 d, .int .u16 sp, .int .u16 dp] 29)).alloc (.cells #[.int .u8 pr', .int .u32 s', .int .u32 d', .int .u16 sp', .int .u16 dp'] 29)), wr = x.w) (fun _ _ i _ => 5 - (intOf i).toNat)
  case atStart => exact ⟨0, by omega, rfl, (fun j hj => by omega), (Up.refl _).mk⟩
  case round =>
    obtain ⟨k, hk, rfl, heq, x, rfl⟩ := hrel
    rcases (by omega : k = 0 ∨ k = 1 ∨ k = 2 ∨ k = 3 ∨ k = 4 ∨ k = 5) with rfl | rfl | rfl | rfl | rfl | rfl
    · by_cases he : pr = pr'
      · have He : Hid (pr = pr') := he
        clear he
        go_wp2_with fail
        refine wp_region_ext (by kernel_rfl) (by kernel_rfl) ?_
        repeat (go_big_quiet_step ((first
          | (go_at_call_of 89 (Value.agg #[.int .u8 pr, .int .u32 s, .int .u32 d, .int .u16 sp, .int .u16 dp]); exact (part_0 pr s d sp dp _ r0 r1 sp0 sp1 dp0 dp1).ext)
          | (go_at_call 89; exact (part_0 pr' s' d' sp' dp' _ r0' r1' sp0' sp1' dp0' dp1').ext)
          | (go_at_call 90; exact ((cmpU32_any _ _ _).cast (by rw [show pr = pr' from He.out, cmpI_self])).ext))))
        refine wpQuiet_nil ?_
        rintro _ ⟨y, rfl⟩
        go_wp2_with fail
        go_roundw
        case rel => exact ⟨1, by omega, rfl, lt_succ_all heq.out He.out, (x.up.ext y).mk⟩
        case measure => simp [intOf]
      · have Hn : Hid (keyCmp pr s d sp dp pr' s' d' sp' dp' = cmpI pr pr') := keyCmp_at _ _ 0 (by omega) heq.out he
        have hb : (cmpI pr pr' != 0) = true := cmpI_ne he
        clear he
        go_wp2_with fail
        refine wp_region_ext (by kernel_rfl) (by kernel_rfl) ?_
        repeat (go_big_quiet_step ((first
          | (go_at_call_of 89 (Value.agg #[.int .u8 pr, .int .u32 s, .int .u32 d, .int .u16 sp, .int .u16 dp]); exact (part_0 pr s d sp dp _ r0 r1 sp0 sp1 dp0 dp1).ext)
          | (go_at_call 89; exact (part_0 pr' s' d' sp' dp' _ r0' r1' sp0' sp1' dp0' dp1').ext)
          | (go_at_call 90; exact (cmpU32_any _ _ _).ext))))
        refine wpQuiet_nil ?_
        rintro _ ⟨y, rfl⟩
        go_wp2_with fail
        go_ret
        exact ⟨ret_int Hn.out.symm, Up.mk (by repeat (with_reducible first | exact Up.refl _ | refine Up.ext ?_ _ | refine Up.drew ?_ | refine Up.alloc ?_ _ | refine Up.setCell ?_ (by simp) _))⟩
    · by_cases he : s = s'
      · have He : Hid (s = s') := he
        clear he
        go_wp2_with fail
        refine wp_region_ext (by kernel_rfl) (by kernel_rfl) ?_
        repeat (go_big_quiet_step ((first
          | (go_at_call_of 89 (Value.agg #[.int .u8 pr, .int .u32 s, .int .u32 d, .int .u16 sp, .int .u16 dp]); exact (part_1 pr s d sp dp _ r0 r1 sp0 sp1 dp0 dp1).ext)
          | (go_at_call 89; exact (part_1 pr' s' d' sp' dp' _ r0' r1' sp0' sp1' dp0' dp1').ext)
          | (go_at_call 90; exact ((cmpU32_any _ _ _).cast (by rw [show s = s' from He.out, cmpI_self])).ext))))
        refine wpQuiet_nil ?_
        rintro _ ⟨y, rfl⟩
        go_wp2_with fail
        go_roundw
        case rel => exact ⟨2, by omega, rfl, lt_succ_all heq.out He.out, (x.up.ext y).mk⟩
        case measure => simp [intOf]
      · have Hn : Hid (keyCmp pr s d sp dp pr' s' d' sp' dp' = cmpI s s') := keyCmp_at _ _ 1 (by omega) heq.out he
        have hb : (cmpI s s' != 0) = true := cmpI_ne he
        clear he
        go_wp2_with fail
        refine wp_region_ext (by kernel_rfl) (by kernel_rfl) ?_
        repeat (go_big_quiet_step ((first
          | (go_at_call_of 89 (Value.agg #[.int .u8 pr, .int .u32 s, .int .u32 d, .int .u16 sp, .int .u16 dp]); exact (part_1 pr s d sp dp _ r0 r1 sp0 sp1 dp0 dp1).ext)
          | (go_at_call 89; exact (part_1 pr' s' d' sp' dp' _ r0' r1' sp0' sp1' dp0' dp1').ext)
          | (go_at_call 90; exact (cmpU32_any _ _ _).ext))))
        refine wpQuiet_nil ?_
        rintro _ ⟨y, rfl⟩
        go_wp2_with fail
        go_ret
        exact ⟨ret_int Hn.out.symm, Up.mk (by repeat (with_reducible first | exact Up.refl _ | refine Up.ext ?_ _ | refine Up.drew ?_ | refine Up.alloc ?_ _ | refine Up.setCell ?_ (by simp) _))⟩
    · by_cases he : sp = sp'
      · have He : Hid (sp = sp') := he
        clear he
        go_wp2_with fail
        refine wp_region_ext (by kernel_rfl) (by kernel_rfl) ?_
        repeat (go_big_quiet_step ((first
          | (go_at_call_of 89 (Value.agg #[.int .u8 pr, .int .u32 s, .int .u32 d, .int .u16 sp, .int .u16 dp]); exact (part_2 pr s d sp dp _ r0 r1 sp0 sp1 dp0 dp1).ext)
          | (go_at_call 89; exact (part_2 pr' s' d' sp' dp' _ r0' r1' sp0' sp1' dp0' dp1').ext)
          | (go_at_call 90; exact ((cmpU32_any _ _ _).cast (by rw [show sp = sp' from He.out, cmpI_self])).ext))))
        refine wpQuiet_nil ?_
        rintro _ ⟨y, rfl⟩
        go_wp2_with fail
        go_roundw
        case rel => exact ⟨3, by omega, rfl, lt_succ_all heq.out He.out, (x.up.ext y).mk⟩
        case measure => simp [intOf]
      · have Hn : Hid (keyCmp pr s d sp dp pr' s' d' sp' dp' = cmpI sp sp') := keyCmp_at _ _ 2 (by omega) heq.out he
        have hb : (cmpI sp sp' != 0) = true := cmpI_ne he
        clear he
        go_wp2_with fail
        refine wp_region_ext (by kernel_rfl) (by kernel_rfl) ?_
        repeat (go_big_quiet_step ((first
          | (go_at_call_of 89 (Value.agg #[.int .u8 pr, .int .u32 s, .int .u32 d, .int .u16 sp, .int .u16 dp]); exact (part_2 pr s d sp dp _ r0 r1 sp0 sp1 dp0 dp1).ext)
          | (go_at_call 89; exact (part_2 pr' s' d' sp' dp' _ r0' r1' sp0' sp1' dp0' dp1').ext)
          | (go_at_call 90; exact (cmpU32_any _ _ _).ext))))
        refine wpQuiet_nil ?_
        rintro _ ⟨y, rfl⟩
        go_wp2_with fail
        go_ret
        exact ⟨ret_int Hn.out.symm, Up.mk (by repeat (with_reducible first | exact Up.refl _ | refine Up.ext ?_ _ | refine Up.drew ?_ | refine Up.alloc ?_ _ | refine Up.setCell ?_ (by simp) _))⟩
    · by_cases he : d = d'
      · have He : Hid (d = d') := he
        clear he
        go_wp2_with fail
        refine wp_region_ext (by kernel_rfl) (by kernel_rfl) ?_
        repeat (go_big_quiet_step ((first
          | (go_at_call_of 89 (Value.agg #[.int .u8 pr, .int .u32 s, .int .u32 d, .int .u16 sp, .int .u16 dp]); exact (part_3 pr s d sp dp _ r0 r1 sp0 sp1 dp0 dp1).ext)
          | (go_at_call 89; exact (part_3 pr' s' d' sp' dp' _ r0' r1' sp0' sp1' dp0' dp1').ext)
          | (go_at_call 90; exact ((cmpU32_any _ _ _).cast (by rw [show d = d' from He.out, cmpI_self])).ext))))
        refine wpQuiet_nil ?_
        rintro _ ⟨y, rfl⟩
        go_wp2_with fail
        go_roundw
        case rel => exact ⟨4, by omega, rfl, lt_succ_all heq.out He.out, (x.up.ext y).mk⟩
        case measure => simp [intOf]
      · have Hn : Hid (keyCmp pr s d sp dp pr' s' d' sp' dp' = cmpI d d') := keyCmp_at _ _ 3 (by omega) heq.out he
        have hb : (cmpI d d' != 0) = true := cmpI_ne he
        clear he
        go_wp2_with fail
        refine wp_region_ext (by kernel_rfl) (by kernel_rfl) ?_
        repeat (go_big_quiet_step ((first
          | (go_at_call_of 89 (Value.agg #[.int .u8 pr, .int .u32 s, .int .u32 d, .int .u16 sp, .int .u16 dp]); exact (part_3 pr s d sp dp _ r0 r1 sp0 sp1 dp0 dp1).ext)
          | (go_at_call 89; exact (part_3 pr' s' d' sp' dp' _ r0' r1' sp0' sp1' dp0' dp1').ext)
          | (go_at_call 90; exact (cmpU32_any _ _ _).ext))))
        refine wpQuiet_nil ?_
        rintro _ ⟨y, rfl⟩
        go_wp2_with fail
        go_ret
        exact ⟨ret_int Hn.out.symm, Up.mk (by repeat (with_reducible first | exact Up.refl _ | refine Up.ext ?_ _ | refine Up.drew ?_ | refine Up.alloc ?_ _ | refine Up.setCell ?_ (by simp) _))⟩
    · by_cases he : dp = dp'
      · have He : Hid (dp = dp') := he
        clear he
        go_wp2_with fail
        refine wp_region_ext (by kernel_rfl) (by kernel_rfl) ?_
        repeat (go_big_quiet_step ((first
          | (go_at_call_of 89 (Value.agg #[.int .u8 pr, .int .u32 s, .int .u32 d, .int .u16 sp, .int .u16 dp]); exact (part_4 pr s d sp dp _ r0 r1 sp0 sp1 dp0 dp1).ext)
          | (go_at_call 89; exact (part_4 pr' s' d' sp' dp' _ r0' r1' sp0' sp1' dp0' dp1').ext)
          | (go_at_call 90; exact ((cmpU32_any _ _ _).cast (by rw [show dp = dp' from He.out, cmpI_self])).ext))))
        refine wpQuiet_nil ?_
        rintro _ ⟨y, rfl⟩
        go_wp2_with fail
        go_roundw
        case rel => exact ⟨5, by omega, rfl, lt_succ_all heq.out He.out, (x.up.ext y).mk⟩
        case measure => simp [intOf]
      · have Hn : Hid (keyCmp pr s d sp dp pr' s' d' sp' dp' = cmpI dp dp') := keyCmp_at _ _ 4 (by omega) heq.out he
        have hb : (cmpI dp dp' != 0) = true := cmpI_ne he
        clear he
        go_wp2_with fail
        refine wp_region_ext (by kernel_rfl) (by kernel_rfl) ?_
        repeat (go_big_quiet_step ((first
          | (go_at_call_of 89 (Value.agg #[.int .u8 pr, .int .u32 s, .int .u32 d, .int .u16 sp, .int .u16 dp]); exact (part_4 pr s d sp dp _ r0 r1 sp0 sp1 dp0 dp1).ext)
          | (go_at_call 89; exact (part_4 pr' s' d' sp' dp' _ r0' r1' sp0' sp1' dp0' dp1').ext)
          | (go_at_call 90; exact (cmpU32_any _ _ _).ext))))
        refine wpQuiet_nil ?_
        rintro _ ⟨y, rfl⟩
        go_wp2_with fail
        go_ret
        exact ⟨ret_int Hn.out.symm, Up.mk (by repeat (with_reducible first | exact Up.refl _ | refine Up.ext ?_ _ | refine Up.drew ?_ | refine Up.alloc ?_ _ | refine Up.setCell ?_ (by simp) _))⟩
    · have Hn : Hid (keyCmp pr s d sp dp pr' s' d' sp' dp' = 0) := keyCmp_eq _ _ heq.out
      go_wp2_with fail
      go_ret
      exact ⟨ret_int Hn.out.symm, Up.mk (by repeat (with_reducible first | exact Up.refl _ | refine Up.ext ?_ _ | refine Up.drew ?_ | refine Up.alloc ?_ _ | refine Up.setCell ?_ (by simp) _))⟩
end Go.Proofs.YtlbbepgfjigjpaaGreatDoor
