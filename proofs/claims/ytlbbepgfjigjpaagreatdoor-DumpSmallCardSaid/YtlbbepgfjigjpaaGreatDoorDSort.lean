/- Keys compared: Compare of package addr, the draws counted. The closures of Apply: is a key the one of a change's old line; two lines compared by their keys. Lines sorted by their keys. -/
import Derived.Test.YtlbbepgfjigjpaaGreatDoorAddr3
import Derived.Sort.Grow
import Derived.Test.YtlbbepgfjigjpaaGreatDoorDAw
import Derived.Test.YtlbbepgfjigjpaaGreatDoorShelf2
import Derived.Shelf.SlSortCmp.NoneTotal
namespace Go.Ab
open Go.RowKit
/-- A world that a call leads to: new blocks, and draws. -/
structure ExtD (w : World) where
  e : Ext w
  d : w.drawn ≤ e.w.drawn
instance ExtD.inst {w : World} : Nonempty (ExtD w) := ⟨⟨⟨w, Up.refl _⟩, Nat.le_refl _⟩⟩
theorem mkD {w W : World} (h : Up w W) (hd : w.drawn ≤ W.drawn) : ∃ x : ExtD w, W = x.e.w := by
  obtain ⟨x, rfl⟩ := h.mk
  exact ⟨⟨x, hd⟩, rfl⟩
def GivesD (P : Program) (f : FuncId) (args : Array Value) (w : World) (v : Value) : Prop :=
  Calls P f args w fun e w' => e = .returned v ∧ ∃ x : ExtD w, w' = x.e.w
theorem GivesD.extD {P : Program} {f : FuncId} {args : Array Value} {w : World} {x : ExtD w} {v : Value} (h : GivesD P f args x.e.w v) :
    Calls P f args x.e.w fun e w'' => e = .returned v ∧ ∃ y : ExtD w, w'' = y.e.w :=
  h.mono fun _ _ ⟨he, y, hy⟩ => ⟨he, by obtain ⟨z, hz⟩ := mkD (Up.ext x.e.up y.e) (Nat.le_trans x.d y.d); exact ⟨z, hy.trans hz⟩⟩
theorem GivesD.of_same {P : Program} {f : FuncId} {args : Array Value} {w : World} {v : Value} (h : Calls P f args w fun e w' => e = .returned v ∧ w' = w) : GivesD P f args w v :=
  h.mono fun _ _ ⟨he, hw⟩ => ⟨he, by obtain ⟨z, hz⟩ := mkD (Up.refl w) (Nat.le_refl _); exact ⟨z, hw.trans hz⟩⟩
theorem GivesD.cast {P : Program} {f : FuncId} {args : Array Value} {w : World} {u v : Value} (h : GivesD P f args w u) (e : u = v) : GivesD P f args w v := e ▸ h
theorem wp_region_extD {P : Program} {id : Nat} {Q : Exit → Act → World → Prop} {a : Act} {w : World} {l : List Oper} (hm : P.follows .mixedOrders = true) (hB : Region.lexB .any l.toArray = true)
    (h : wpQuiet P l.toArray (fun w' => ∃ x : ExtD w, w' = x.e.w) (fun a' => ∀ w', (∃ x : ExtD w, w' = x.e.w) → Q .normal a' w') l a) : (Code.region id l.toArray true).wp P Q a w :=
  wp_region_quiet (C := fun w' => ∃ x : ExtD w, w' = x.e.w) hm hB (mkD ((Up.refl _).drew) (Nat.le_succ _)) (by simpa using h)
theorem ExtD.grow {w : World} (x : ExtD w) : ∃ q os, x.e.w = Sort.grow (w.drewN q) os := by
  have u := x.e.up
  refine ⟨x.e.w.drawn - w.drawn, x.e.w.heap.extract w.heap.size x.e.w.heap.size, ?_⟩
  have hd := x.d
  have h1 : x.e.w.heap = w.heap ++ x.e.w.heap.extract w.heap.size x.e.w.heap.size := by
    apply Array.ext_getElem?
    intro i
    have hsz := u.size
    by_cases hi : i < w.heap.size
    · rw [Array.getElem?_append_left hi]; exact u.block i hi
    · rw [Array.getElem?_append_right (by omega), Array.getElem?_extract]
      by_cases h2 : i < x.e.w.heap.size
      · rw [if_pos (by omega)]; congr 1; omega
      · rw [if_neg (by omega), Array.getElem?_eq_none (by omega)]
  have ht := u.tape; have ho := u.os; have hp := u.output
  unfold Sort.grow World.drewN
  generalize x.e.w = W at *
  cases W
  simp only at h1 ht ho hp hd ⊢
  subst ht ho hp
  rw [World.mk.injEq]
  exact ⟨h1, rfl, by omega, rfl, rfl⟩
end Go.Ab
namespace Go.Proofs.YtlbbepgfjigjpaaGreatDoor
open Go.RowKit Go.Ab
set_option maxHeartbeats 400000 in
theorem cmpU32_anyD (x y : Int) (w : World) : GivesD Tryz.prog 90 #[.int .u32 x, .int .u32 y] w (.int .i64 (cmpI x y)) := by
  refine GivesD.of_same ?_
  by_cases h : x < y
  · go_enter Tryz.func90, Tryz.ntmps90
    go_wp2
    go_ret
    exact ⟨ret_int (by unfold cmpI; rw [if_pos h]), rfl⟩
  · by_cases h2 : y < x
    · go_enter Tryz.func90, Tryz.ntmps90
      go_wp2
      go_ret
      exact ⟨ret_int (by unfold cmpI; rw [if_neg (by omega), if_pos h2]), rfl⟩
    · go_enter Tryz.func90, Tryz.ntmps90
      go_wp2
      go_ret
      exact ⟨ret_int (by unfold cmpI; rw [if_neg (by omega), if_neg (by omega)]), rfl⟩

set_option maxHeartbeats 400000 in
theorem part_0D (pr s d sp dp : Int) (w : World) (r0 : 0 ≤ pr) (r1 : pr < 256) (sp0 : 0 ≤ sp) (sp1 : sp < 65536) (dp0 : 0 ≤ dp) (dp1 : dp < 65536) :
    GivesD Tryz.prog 89 #[.agg #[.int .u8 pr, .int .u32 s, .int .u32 d, .int .u16 sp, .int .u16 dp], .int .i64 0] w (.int .u32 pr) := by
  unfold GivesD
  have hi : ∀ w, (Instr.index 161 (.agg #[.int .u32 pr, .int .u32 s, .int .u32 sp, .int .u32 d, .int .u32 dp]) (.int .i64 0)).run Tryz.prog w = .ok (.int .u32 pr) w := fun _ => by kernel_rfl
  go_enter Tryz.func89, Tryz.ntmps89
  go_wp2
  go_ret
  exact ⟨rfl, mkD (by repeat (with_reducible first | exact Up.refl _ | refine Up.ext ?_ _ | refine Up.drew ?_ | refine Up.alloc ?_ _ | refine Up.setCell ?_ (by simp) _)) (Nat.le_refl _)⟩
set_option maxHeartbeats 400000 in
theorem part_1D (pr s d sp dp : Int) (w : World) (r0 : 0 ≤ pr) (r1 : pr < 256) (sp0 : 0 ≤ sp) (sp1 : sp < 65536) (dp0 : 0 ≤ dp) (dp1 : dp < 65536) :
    GivesD Tryz.prog 89 #[.agg #[.int .u8 pr, .int .u32 s, .int .u32 d, .int .u16 sp, .int .u16 dp], .int .i64 1] w (.int .u32 s) := by
  unfold GivesD
  have hi : ∀ w, (Instr.index 161 (.agg #[.int .u32 pr, .int .u32 s, .int .u32 sp, .int .u32 d, .int .u32 dp]) (.int .i64 1)).run Tryz.prog w = .ok (.int .u32 s) w := fun _ => by kernel_rfl
  go_enter Tryz.func89, Tryz.ntmps89
  go_wp2
  go_ret
  exact ⟨rfl, mkD (by repeat (with_reducible first | exact Up.refl _ | refine Up.ext ?_ _ | refine Up.drew ?_ | refine Up.alloc ?_ _ | refine Up.setCell ?_ (by simp) _)) (Nat.le_refl _)⟩
set_option maxHeartbeats 400000 in
theorem part_2D (pr s d sp dp : Int) (w : World) (r0 : 0 ≤ pr) (r1 : pr < 256) (sp0 : 0 ≤ sp) (sp1 : sp < 65536) (dp0 : 0 ≤ dp) (dp1 : dp < 65536) :
    GivesD Tryz.prog 89 #[.agg #[.int .u8 pr, .int .u32 s, .int .u32 d, .int .u16 sp, .int .u16 dp], .int .i64 2] w (.int .u32 sp) := by
  unfold GivesD
  have hi : ∀ w, (Instr.index 161 (.agg #[.int .u32 pr, .int .u32 s, .int .u32 sp, .int .u32 d, .int .u32 dp]) (.int .i64 2)).run Tryz.prog w = .ok (.int .u32 sp) w := fun _ => by kernel_rfl
  go_enter Tryz.func89, Tryz.ntmps89
  go_wp2
  go_ret
  exact ⟨rfl, mkD (by repeat (with_reducible first | exact Up.refl _ | refine Up.ext ?_ _ | refine Up.drew ?_ | refine Up.alloc ?_ _ | refine Up.setCell ?_ (by simp) _)) (Nat.le_refl _)⟩
set_option maxHeartbeats 400000 in
theorem part_3D (pr s d sp dp : Int) (w : World) (r0 : 0 ≤ pr) (r1 : pr < 256) (sp0 : 0 ≤ sp) (sp1 : sp < 65536) (dp0 : 0 ≤ dp) (dp1 : dp < 65536) :
    GivesD Tryz.prog 89 #[.agg #[.int .u8 pr, .int .u32 s, .int .u32 d, .int .u16 sp, .int .u16 dp], .int .i64 3] w (.int .u32 d) := by
  unfold GivesD
  have hi : ∀ w, (Instr.index 161 (.agg #[.int .u32 pr, .int .u32 s, .int .u32 sp, .int .u32 d, .int .u32 dp]) (.int .i64 3)).run Tryz.prog w = .ok (.int .u32 d) w := fun _ => by kernel_rfl
  go_enter Tryz.func89, Tryz.ntmps89
  go_wp2
  go_ret
  exact ⟨rfl, mkD (by repeat (with_reducible first | exact Up.refl _ | refine Up.ext ?_ _ | refine Up.drew ?_ | refine Up.alloc ?_ _ | refine Up.setCell ?_ (by simp) _)) (Nat.le_refl _)⟩
set_option maxHeartbeats 400000 in
theorem part_4D (pr s d sp dp : Int) (w : World) (r0 : 0 ≤ pr) (r1 : pr < 256) (sp0 : 0 ≤ sp) (sp1 : sp < 65536) (dp0 : 0 ≤ dp) (dp1 : dp < 65536) :
    GivesD Tryz.prog 89 #[.agg #[.int .u8 pr, .int .u32 s, .int .u32 d, .int .u16 sp, .int .u16 dp], .int .i64 4] w (.int .u32 dp) := by
  unfold GivesD
  have hi : ∀ w, (Instr.index 161 (.agg #[.int .u32 pr, .int .u32 s, .int .u32 sp, .int .u32 d, .int .u32 dp]) (.int .i64 4)).run Tryz.prog w = .ok (.int .u32 dp) w := fun _ => by kernel_rfl
  go_enter Tryz.func89, Tryz.ntmps89
  go_wp2
  go_ret
  exact ⟨rfl, mkD (by repeat (with_reducible first | exact Up.refl _ | refine Up.ext ?_ _ | refine Up.drew ?_ | refine Up.alloc ?_ _ | refine Up.setCell ?_ (by simp) _)) (Nat.le_refl _)⟩

set_option maxHeartbeats 4000000 in
theorem compare_anyD (pr s d sp dp pr' s' d' sp' dp' : Int) (w : World) (r0 : 0 ≤ pr) (r1 : pr < 256) (sp0 : 0 ≤ sp) (sp1 : sp < 65536) (dp0 : 0 ≤ dp) (dp1 : dp < 65536) (r0' : 0 ≤ pr') (r1' : pr' < 256) (sp0' : 0 ≤ sp') (sp1' : sp' < 65536) (dp0' : 0 ≤ dp') (dp1' : dp' < 65536) :
    GivesD Tryz.prog 55 #[.agg #[.int .u8 pr, .int .u32 s, .int .u32 d, .int .u16 sp, .int .u16 dp], .agg #[.int .u8 pr', .int .u32 s', .int .u32 d', .int .u16 sp', .int .u16 dp']] w
      (.int .i64 (keyCmp pr s d sp dp pr' s' d' sp' dp')) := by
  unfold GivesD
  go_enter Tryz.func55, Tryz.ntmps55
  go_wp2_with fail
  go_loopw [6, 7, 8] (fun _ _ i wr => ∃ k : Nat, k ≤ 5 ∧ i = .int .i64 k ∧ Hid (∀ j, j < k → partI pr s d sp dp j = partI pr' s' d' sp' dp' j) ∧
      ∃ x : ExtD ((w.alloc (.cells #[.int .u8 pr, .int .u32 s, .int .u32 d, .int .u16 sp, .int .u16 dp] 29)).alloc (.cells #[.int .u8 pr', .int .u32 s', .int .u32 d', .int .u16 sp', .int .u16 dp'] 29)), wr = x.e.w) (fun _ _ i _ => 5 - (intOf i).toNat)
  case atStart => exact ⟨0, by omega, rfl, (fun j hj => by omega), mkD (Up.refl _) (Nat.le_refl _)⟩
  case round =>
    obtain ⟨k, hk, rfl, heq, x, rfl⟩ := hrel
    rcases (by omega : k = 0 ∨ k = 1 ∨ k = 2 ∨ k = 3 ∨ k = 4 ∨ k = 5) with rfl | rfl | rfl | rfl | rfl | rfl
    · by_cases he : pr = pr'
      · have He : Hid (pr = pr') := he
        clear he
        go_wp2_with fail
        refine wp_region_extD (by kernel_rfl) (by kernel_rfl) ?_
        repeat (go_big_quiet_step ((first
          | (go_at_call_of 89 (Value.agg #[.int .u8 pr, .int .u32 s, .int .u32 d, .int .u16 sp, .int .u16 dp]); exact (part_0D pr s d sp dp _ r0 r1 sp0 sp1 dp0 dp1).extD)
          | (go_at_call 89; exact (part_0D pr' s' d' sp' dp' _ r0' r1' sp0' sp1' dp0' dp1').extD)
          | (go_at_call 90; exact ((cmpU32_anyD _ _ _).cast (by rw [show pr = pr' from He.out, cmpI_self])).extD))))
        refine wpQuiet_nil ?_
        rintro _ ⟨y, rfl⟩
        go_wp2_with fail
        go_roundw
        case rel => exact ⟨1, by omega, rfl, lt_succ_all heq.out He.out, mkD (x.e.up.ext y.e) (Nat.le_trans x.d y.d)⟩
        case measure => simp [intOf]
      · have Hn : Hid (keyCmp pr s d sp dp pr' s' d' sp' dp' = cmpI pr pr') := keyCmp_at _ _ 0 (by omega) heq.out he
        have hb : (cmpI pr pr' != 0) = true := cmpI_ne he
        clear he
        go_wp2_with fail
        refine wp_region_extD (by kernel_rfl) (by kernel_rfl) ?_
        repeat (go_big_quiet_step ((first
          | (go_at_call_of 89 (Value.agg #[.int .u8 pr, .int .u32 s, .int .u32 d, .int .u16 sp, .int .u16 dp]); exact (part_0D pr s d sp dp _ r0 r1 sp0 sp1 dp0 dp1).extD)
          | (go_at_call 89; exact (part_0D pr' s' d' sp' dp' _ r0' r1' sp0' sp1' dp0' dp1').extD)
          | (go_at_call 90; exact (cmpU32_anyD _ _ _).extD))))
        refine wpQuiet_nil ?_
        rintro _ ⟨y, rfl⟩
        go_wp2_with fail
        go_ret
        exact ⟨ret_int Hn.out.symm, mkD (by repeat (with_reducible first | exact Up.refl _ | refine Up.ext ?_ _ | refine Up.drew ?_ | refine Up.alloc ?_ _ | refine Up.setCell ?_ (by simp) _)) (Nat.le_trans x.d y.d)⟩
    · by_cases he : s = s'
      · have He : Hid (s = s') := he
        clear he
        go_wp2_with fail
        refine wp_region_extD (by kernel_rfl) (by kernel_rfl) ?_
        repeat (go_big_quiet_step ((first
          | (go_at_call_of 89 (Value.agg #[.int .u8 pr, .int .u32 s, .int .u32 d, .int .u16 sp, .int .u16 dp]); exact (part_1D pr s d sp dp _ r0 r1 sp0 sp1 dp0 dp1).extD)
          | (go_at_call 89; exact (part_1D pr' s' d' sp' dp' _ r0' r1' sp0' sp1' dp0' dp1').extD)
          | (go_at_call 90; exact ((cmpU32_anyD _ _ _).cast (by rw [show s = s' from He.out, cmpI_self])).extD))))
        refine wpQuiet_nil ?_
        rintro _ ⟨y, rfl⟩
        go_wp2_with fail
        go_roundw
        case rel => exact ⟨2, by omega, rfl, lt_succ_all heq.out He.out, mkD (x.e.up.ext y.e) (Nat.le_trans x.d y.d)⟩
        case measure => simp [intOf]
      · have Hn : Hid (keyCmp pr s d sp dp pr' s' d' sp' dp' = cmpI s s') := keyCmp_at _ _ 1 (by omega) heq.out he
        have hb : (cmpI s s' != 0) = true := cmpI_ne he
        clear he
        go_wp2_with fail
        refine wp_region_extD (by kernel_rfl) (by kernel_rfl) ?_
        repeat (go_big_quiet_step ((first
          | (go_at_call_of 89 (Value.agg #[.int .u8 pr, .int .u32 s, .int .u32 d, .int .u16 sp, .int .u16 dp]); exact (part_1D pr s d sp dp _ r0 r1 sp0 sp1 dp0 dp1).extD)
          | (go_at_call 89; exact (part_1D pr' s' d' sp' dp' _ r0' r1' sp0' sp1' dp0' dp1').extD)
          | (go_at_call 90; exact (cmpU32_anyD _ _ _).extD))))
        refine wpQuiet_nil ?_
        rintro _ ⟨y, rfl⟩
        go_wp2_with fail
        go_ret
        exact ⟨ret_int Hn.out.symm, mkD (by repeat (with_reducible first | exact Up.refl _ | refine Up.ext ?_ _ | refine Up.drew ?_ | refine Up.alloc ?_ _ | refine Up.setCell ?_ (by simp) _)) (Nat.le_trans x.d y.d)⟩
    · by_cases he : sp = sp'
      · have He : Hid (sp = sp') := he
        clear he
        go_wp2_with fail
        refine wp_region_extD (by kernel_rfl) (by kernel_rfl) ?_
        repeat (go_big_quiet_step ((first
          | (go_at_call_of 89 (Value.agg #[.int .u8 pr, .int .u32 s, .int .u32 d, .int .u16 sp, .int .u16 dp]); exact (part_2D pr s d sp dp _ r0 r1 sp0 sp1 dp0 dp1).extD)
          | (go_at_call 89; exact (part_2D pr' s' d' sp' dp' _ r0' r1' sp0' sp1' dp0' dp1').extD)
          | (go_at_call 90; exact ((cmpU32_anyD _ _ _).cast (by rw [show sp = sp' from He.out, cmpI_self])).extD))))
        refine wpQuiet_nil ?_
        rintro _ ⟨y, rfl⟩
        go_wp2_with fail
        go_roundw
        case rel => exact ⟨3, by omega, rfl, lt_succ_all heq.out He.out, mkD (x.e.up.ext y.e) (Nat.le_trans x.d y.d)⟩
        case measure => simp [intOf]
      · have Hn : Hid (keyCmp pr s d sp dp pr' s' d' sp' dp' = cmpI sp sp') := keyCmp_at _ _ 2 (by omega) heq.out he
        have hb : (cmpI sp sp' != 0) = true := cmpI_ne he
        clear he
        go_wp2_with fail
        refine wp_region_extD (by kernel_rfl) (by kernel_rfl) ?_
        repeat (go_big_quiet_step ((first
          | (go_at_call_of 89 (Value.agg #[.int .u8 pr, .int .u32 s, .int .u32 d, .int .u16 sp, .int .u16 dp]); exact (part_2D pr s d sp dp _ r0 r1 sp0 sp1 dp0 dp1).extD)
          | (go_at_call 89; exact (part_2D pr' s' d' sp' dp' _ r0' r1' sp0' sp1' dp0' dp1').extD)
          | (go_at_call 90; exact (cmpU32_anyD _ _ _).extD))))
        refine wpQuiet_nil ?_
        rintro _ ⟨y, rfl⟩
        go_wp2_with fail
        go_ret
        exact ⟨ret_int Hn.out.symm, mkD (by repeat (with_reducible first | exact Up.refl _ | refine Up.ext ?_ _ | refine Up.drew ?_ | refine Up.alloc ?_ _ | refine Up.setCell ?_ (by simp) _)) (Nat.le_trans x.d y.d)⟩
    · by_cases he : d = d'
      · have He : Hid (d = d') := he
        clear he
        go_wp2_with fail
        refine wp_region_extD (by kernel_rfl) (by kernel_rfl) ?_
        repeat (go_big_quiet_step ((first
          | (go_at_call_of 89 (Value.agg #[.int .u8 pr, .int .u32 s, .int .u32 d, .int .u16 sp, .int .u16 dp]); exact (part_3D pr s d sp dp _ r0 r1 sp0 sp1 dp0 dp1).extD)
          | (go_at_call 89; exact (part_3D pr' s' d' sp' dp' _ r0' r1' sp0' sp1' dp0' dp1').extD)
          | (go_at_call 90; exact ((cmpU32_anyD _ _ _).cast (by rw [show d = d' from He.out, cmpI_self])).extD))))
        refine wpQuiet_nil ?_
        rintro _ ⟨y, rfl⟩
        go_wp2_with fail
        go_roundw
        case rel => exact ⟨4, by omega, rfl, lt_succ_all heq.out He.out, mkD (x.e.up.ext y.e) (Nat.le_trans x.d y.d)⟩
        case measure => simp [intOf]
      · have Hn : Hid (keyCmp pr s d sp dp pr' s' d' sp' dp' = cmpI d d') := keyCmp_at _ _ 3 (by omega) heq.out he
        have hb : (cmpI d d' != 0) = true := cmpI_ne he
        clear he
        go_wp2_with fail
        refine wp_region_extD (by kernel_rfl) (by kernel_rfl) ?_
        repeat (go_big_quiet_step ((first
          | (go_at_call_of 89 (Value.agg #[.int .u8 pr, .int .u32 s, .int .u32 d, .int .u16 sp, .int .u16 dp]); exact (part_3D pr s d sp dp _ r0 r1 sp0 sp1 dp0 dp1).extD)
          | (go_at_call 89; exact (part_3D pr' s' d' sp' dp' _ r0' r1' sp0' sp1' dp0' dp1').extD)
          | (go_at_call 90; exact (cmpU32_anyD _ _ _).extD))))
        refine wpQuiet_nil ?_
        rintro _ ⟨y, rfl⟩
        go_wp2_with fail
        go_ret
        exact ⟨ret_int Hn.out.symm, mkD (by repeat (with_reducible first | exact Up.refl _ | refine Up.ext ?_ _ | refine Up.drew ?_ | refine Up.alloc ?_ _ | refine Up.setCell ?_ (by simp) _)) (Nat.le_trans x.d y.d)⟩
    · by_cases he : dp = dp'
      · have He : Hid (dp = dp') := he
        clear he
        go_wp2_with fail
        refine wp_region_extD (by kernel_rfl) (by kernel_rfl) ?_
        repeat (go_big_quiet_step ((first
          | (go_at_call_of 89 (Value.agg #[.int .u8 pr, .int .u32 s, .int .u32 d, .int .u16 sp, .int .u16 dp]); exact (part_4D pr s d sp dp _ r0 r1 sp0 sp1 dp0 dp1).extD)
          | (go_at_call 89; exact (part_4D pr' s' d' sp' dp' _ r0' r1' sp0' sp1' dp0' dp1').extD)
          | (go_at_call 90; exact ((cmpU32_anyD _ _ _).cast (by rw [show dp = dp' from He.out, cmpI_self])).extD))))
        refine wpQuiet_nil ?_
        rintro _ ⟨y, rfl⟩
        go_wp2_with fail
        go_roundw
        case rel => exact ⟨5, by omega, rfl, lt_succ_all heq.out He.out, mkD (x.e.up.ext y.e) (Nat.le_trans x.d y.d)⟩
        case measure => simp [intOf]
      · have Hn : Hid (keyCmp pr s d sp dp pr' s' d' sp' dp' = cmpI dp dp') := keyCmp_at _ _ 4 (by omega) heq.out he
        have hb : (cmpI dp dp' != 0) = true := cmpI_ne he
        clear he
        go_wp2_with fail
        refine wp_region_extD (by kernel_rfl) (by kernel_rfl) ?_
        repeat (go_big_quiet_step ((first
          | (go_at_call_of 89 (Value.agg #[.int .u8 pr, .int .u32 s, .int .u32 d, .int .u16 sp, .int .u16 dp]); exact (part_4D pr s d sp dp _ r0 r1 sp0 sp1 dp0 dp1).extD)
          | (go_at_call 89; exact (part_4D pr' s' d' sp' dp' _ r0' r1' sp0' sp1' dp0' dp1').extD)
          | (go_at_call 90; exact (cmpU32_anyD _ _ _).extD))))
        refine wpQuiet_nil ?_
        rintro _ ⟨y, rfl⟩
        go_wp2_with fail
        go_ret
        exact ⟨ret_int Hn.out.symm, mkD (by repeat (with_reducible first | exact Up.refl _ | refine Up.ext ?_ _ | refine Up.drew ?_ | refine Up.alloc ?_ _ | refine Up.setCell ?_ (by simp) _)) (Nat.le_trans x.d y.d)⟩
    · have Hn : Hid (keyCmp pr s d sp dp pr' s' d' sp' dp' = 0) := keyCmp_eq _ _ heq.out
      go_wp2_with fail
      go_ret
      exact ⟨ret_int Hn.out.symm, mkD (by repeat (with_reducible first | exact Up.refl _ | refine Up.ext ?_ _ | refine Up.drew ?_ | refine Up.alloc ?_ _ | refine Up.setCell ?_ (by simp) _)) x.d⟩
end Go.Proofs.YtlbbepgfjigjpaaGreatDoor
namespace Go.Ab
open Go.RowKit Go.Proofs.YtlbbepgfjigjpaaGreatDoor
/-- Lines with their bounds. -/
abbrev LB := { l : Ln // LnB l }
theorem Ln.zero_b : LnB Ln.zero := by constructor <;> first | (constructor <;> decide) | decide
instance : Inhabited LB := ⟨⟨Ln.zero, Ln.zero_b⟩⟩
def LB.cells (x : LB) : List Value := x.1.cells
def LB.cmp (x y : LB) : Int := x.1.cmp y.1
def keyEq (x y : Ln) : Bool := x.pr == y.pr && (x.s == y.s && (x.d == y.d && (x.sp == y.sp && x.dp == y.dp)))
end Go.Ab
namespace Go.Proofs.YtlbbepgfjigjpaaGreatDoor
open Go.RowKit Go.Ab
set_option maxHeartbeats 4000000 in
set_option maxRecDepth 100000 in
theorem apply2_any (x y : Ln) (bx : LnB x) (by' : LnB y) (w : World) : GivesD Tryz.prog 65 #[.agg x.cells.toArray, .agg y.cells.toArray] w (.int .i64 (x.cmp y)) := by
  have hc := fun W => compare_anyD x.pr x.s x.d x.sp x.dp y.pr y.s y.d y.sp y.dp W bx.key.r0 bx.key.r1 bx.key.sp0 bx.key.sp1 bx.key.dp0 bx.key.dp1 by'.key.r0 by'.key.r1 by'.key.sp0 by'.key.sp1 by'.key.dp0 by'.key.dp1
  unfold GivesD
  unfold Ln.cells
  unfold Ln.cmp
  go_enter Tryz.func65, Tryz.ntmps65
  go_wp2_with (go_at_call 55; refine (hc _).mono ?_; rintro e w' ⟨rfl, z, rfl⟩)
  go_ret
  exact ⟨rfl, mkD (by repeat (with_reducible first | exact Up.refl _ | refine Up.ext ?_ _ | refine Up.drew ?_ | refine Up.alloc ?_ _ | refine Up.setCell ?_ (by simp) _)) z.d⟩
theorem cmpLays (blk off size : Nat) (w : World) : CmpLays Tryz.prog 65 #[] LB.cells 11 LB.cmp blk off size w :=
  fun _ _ _ _ x y => (apply2_any x.1 y.1 x.2 y.2 _).mono fun _ _ ⟨he, z, hz⟩ => ⟨he, by obtain ⟨q, os, h⟩ := z.grow; exact ⟨q, os, hz.trans h⟩⟩
theorem swoLB : Sort.SWO (ltOf LB.cmp) where
  irrefl x := by unfold ltOf LB.cmp; rw [cmp_self]; rfl
  trans x y z h1 h2 := by
    unfold ltOf LB.cmp at *
    simp only [decide_eq_true_eq] at *
    exact cmp_lt_trans h1 h2
  ntrans x y z h1 h2 := by
    unfold ltOf LB.cmp at *
    simp only [decide_eq_false_iff_not, Int.not_lt] at *
    have e1 := cmp_neg x.1 y.1
    have e2 := cmp_neg y.1 z.1
    have e3 := cmp_neg x.1 z.1
    have := (cmp_le_trans (a := z.1) (b := y.1) (c := x.1) (by omega) (by omega)).1
    omega
end Go.Proofs.YtlbbepgfjigjpaaGreatDoor
namespace Go.Ab
open Go.RowKit Go.Proofs Go.Proofs.YtlbbepgfjigjpaaGreatDoor
theorem LB.cells_length (x : LB) : x.cells.length = 11 := rfl
theorem flatK_toList (d : Array LB) : (Sort.flatK LB.cells 11 d).toList = d.toList.flatMap LB.cells := by
  apply List.ext_getElem?
  intro t
  by_cases ht : t < d.size * 11
  · have hq : t / 11 < d.size := by omega
    have h1 : (Sort.flatK LB.cells 11 d)[t]? = some (LB.cells d[t / 11]!)[t % 11]! := by
      rw [Array.getElem?_eq_getElem (by rw [Sort.size_flatK]; exact ht)]
      have := Sort.get_flatK LB.cells 11 d t ht
      rw [getElem!_pos (Sort.flatK LB.cells 11 d) t (by rw [Sort.size_flatK]; exact ht)] at this
      rw [this]
    have h2 : d.toList[t / 11]? = some d[t / 11]! := by
      rw [getElem!_pos d _ hq]; simp [hq]
    have h3 : (LB.cells d[t / 11]!)[t % 11]? = some (LB.cells d[t / 11]!)[t % 11]! := by
      have : t % 11 < (LB.cells d[t / 11]!).length := by rw [LB.cells_length]; omega
      rw [getElem!_pos (LB.cells d[t / 11]!) (t % 11) this]; exact List.getElem?_eq_getElem this
    have h4 := flat_at (cells := LB.cells) (k := 11) LB.cells_length d.toList (t / 11) (t % 11) _ _ h2 h3
    rw [show t / 11 * 11 + t % 11 = t by omega] at h4
    rw [h4, Array.getElem?_toList, h1]
  · rw [List.getElem?_eq_none (by simp; omega), List.getElem?_eq_none (by rw [flat_length LB.cells_length]; simp; omega)]
theorem holds_of_owns {w : World} {base : Nat} {e : TypeId} {g n cap : Nat} {d : Array LB} (hd : d.size = n) (h : w.ownsRow base e 11 (.slice (some ⟨g, 0, none⟩) n cap) n (d.toList.flatMap LB.cells)) : Sort.HoldsK LB.cells 11 w g 0 d := by
  obtain ⟨hl, ⟨h0, _⟩ | ⟨g', cap', cur, hv, hb, hg, h1, h2, h3, h4⟩⟩ := h
  · cases h0
  · simp only [Value.slice.injEq, Option.some.injEq, Addr.mk.injEq, and_true] at hv
    obtain ⟨rfl, _, rfl⟩ := hv
    intro j hj
    rw [Sort.size_flatK, hd] at hj
    rw [Nat.zero_add, cell_of_row w g j _ _ _ hg, frozen_of_row w g j _ _ hg]
    refine ⟨?_, rfl⟩
    have h5 : cur.toList[j]? = (d.toList.flatMap LB.cells)[j]? := by rw [← h4, List.getElem?_take, if_pos hj]
    rw [← Array.getElem?_toList, h5, ← flatK_toList, Array.getElem?_toList]
    rw [Array.getElem?_eq_getElem (by rw [Sort.size_flatK, hd]; exact hj), getElem!_pos _ j (by rw [Sort.size_flatK, hd]; exact hj)]
    rfl
theorem owns_sorted {w : World} {base : Nat} {e : TypeId} {g n cap q : Nat} {xs : List Value} {d : Array LB} {os : Array Obj} (hd : d.size = n) (h : w.ownsRow base e 11 (.slice (some ⟨g, 0, none⟩) n cap) n xs) :
    (sortWorldK LB.cells 11 w g 0 q d os).ownsRow base e 11 (.slice (some ⟨g, 0, none⟩) n cap) n (d.toList.flatMap LB.cells) := by
  obtain ⟨hl, ⟨h0, _⟩ | ⟨g', cap', cur, hv, hb, hg, h1, h2, h3, h4⟩⟩ := h
  · cases h0
  · simp only [Value.slice.injEq, Option.some.injEq, Addr.mk.injEq, and_true] at hv
    obtain ⟨rfl, _, rfl⟩ := hv
    have hlt : g < w.heap.size := (Array.getElem?_eq_some_iff.1 hg).1
    refine ⟨by rw [flat_length LB.cells_length]; simp [hd], .inr ⟨g, cap, Sort.putCells id 0 (Sort.flatK LB.cells 11 d) cur, rfl, hb, ?_, h1, h2, by simp [Sort.putCells, h3], ?_⟩⟩
    · unfold sortWorldK Sort.grow Sort.putRowK Sort.putRow Sort.mapBlock
      simp only [Sort.ahead]
      rw [Array.getElem?_append_left (by simp; exact hlt), Array.getElem?_modify, if_pos rfl, hg]
      rfl
    · rw [← flatK_toList]
      apply List.ext_getElem?
      intro j
      have hs : (Sort.flatK LB.cells 11 d).size = n * 11 := by rw [Sort.size_flatK, hd]
      have hle : n * 11 ≤ cur.size := by rw [h3]; exact Nat.mul_le_mul_right 11 h1
      by_cases hj : j < n * 11
      · rw [List.getElem?_take, if_pos hj, Array.getElem?_toList, Array.getElem?_toList]
        unfold Sort.putCells
        rw [Array.getElem?_mapIdx, Array.getElem?_eq_getElem (show j < cur.size by omega)]
        simp only [Option.map_some]
        rw [if_pos ⟨Nat.zero_le _, by rw [hs]; omega⟩, Nat.sub_zero, getElem!_pos _ j (by rw [hs]; exact hj), Array.getElem?_eq_getElem (by rw [hs]; exact hj)]
        rfl
      · rw [List.getElem?_eq_none (by rw [List.length_take]; omega), List.getElem?_eq_none (by simp [hd]; omega)]
/-- Lines with their bounds, as lines. -/
def lnsOf (d : List LB) : List Ln := d.map (·.1)
theorem lnsOf_flat (d : List LB) : d.flatMap LB.cells = (lnsOf d).flatMap Ln.cells := by unfold lnsOf; rw [List.flatMap_map]; rfl
theorem lnsOf_mk : ∀ (L : List Ln), (∀ x ∈ L, LnB x) → ∃ d : List LB, lnsOf d = L
  | [], _ => ⟨[], rfl⟩
  | x :: t, h => by
    obtain ⟨d, hd⟩ := lnsOf_mk t fun y hy => h y (by simp [hy])
    exact ⟨⟨x, h x (by simp)⟩ :: d, by simp only [lnsOf, List.map_cons] at hd ⊢; rw [hd]⟩
end Go.Ab
namespace Go.Proofs.YtlbbepgfjigjpaaGreatDoor
open Go.RowKit Go.Ab
theorem dsort_any (base : Nat) (L : List Ln) (hb : ∀ x ∈ L, LnB x) (v : Value) (w w0 : World) (hown : w.ownsRow base 31 11 v L.length (L.flatMap Ln.cells)) (hl : L.length ≤ 1000000000) (hu : Up w0 w) (hbase : w0.heap.size ≤ base) :
    Calls Tryz.prog 64 #[v, .func (.func 65) #[] #[]] w fun e w' => e = .returned (.tuple #[]) ∧ ∃ L', L.Perm L' ∧ L'.Pairwise (fun a b => a.cmp b ≤ 0) ∧ w'.ownsRow base 31 11 v L'.length (L'.flatMap Ln.cells) ∧ ∃ x : Ext w0, w' = x.w := by
  obtain ⟨d, rfl⟩ := lnsOf_mk L hb
  have hlen : (lnsOf d).length = d.length := List.length_map _
  rw [hlen] at hown hl
  by_cases h0 : d.length = 0
  · obtain rfl := List.length_eq_zero_iff.1 h0
    have hv : ∃ p c, v = .slice p 0 c := by
      obtain ⟨_, ⟨h1, _⟩ | ⟨g, cap, cur, h1, _⟩⟩ := hown
      · exact ⟨_, _, h1⟩
      · exact ⟨_, _, h1⟩
    obtain ⟨p, c, rfl⟩ := hv
    have h := AnyF.slices_SortFunc_none Tryz.sortL p c (.func (.func 65) #[] #[]) w
    change Calls Tryz.prog 64 _ _ _ at h
    exact h.mono fun e w' ⟨he, hw⟩ => ⟨he, [], .refl _, .nil, by subst hw; exact hown, by subst hw; exact hu.mk⟩
  · have hv : ∃ g c, v = .slice (some ⟨g, 0, none⟩) d.length c ∧ base ≤ g ∧ g < w.heap.size := by
      obtain ⟨_, ⟨_, h1⟩ | ⟨g, cap, cur, h1, h2, h3, _⟩⟩ := hown
      · exact absurd h1 h0
      · exact ⟨g, cap, h1, h2, (Array.getElem?_eq_some_iff.1 h3).1⟩
    obtain ⟨g, c, rfl, hg, hgw⟩ := hv
    rw [← lnsOf_flat] at hown
    have eg : ∀ args w, (callFunc 65 args).run Tryz.prog w = .ok (.enter 65 args) w := enters_of Tryz.func65 (by kernel_rfl) rfl
    have h := AnyQ.slices_SortFunc Tryz.sortL 11 Tryz.isAgg31 Tryz.sizeOf31 LB.cells LB.cells_length (fun x v hv => x.1.one v hv) LB.cmp swoLB 65 #[] g 0 c d.toArray w eg (cmpLays g 0 _ w) (holds_of_owns (n := d.length) (by simp) (by simpa using hown)) hgw (by simp; omega)
    change Calls Tryz.prog 64 _ _ _ at h
    rw [List.size_toArray] at h
    refine h.mono fun e w' ⟨he, d', n, os, hp, hs, hw⟩ => ⟨he, lnsOf d'.toList, ?_, ?_, ?_, ?_⟩
    · have h3 := hp.2.2
      have hsz : d'.size = d.length := hp.1
      have e1 : (d'.extract 0 d.length).toList = d'.toList := by rw [← hsz]; simp
      have e2 : (d.toArray.extract 0 d.length).toList = d := by simp
      rw [e1, e2] at h3
      exact (h3.map _).symm
    · unfold lnsOf
      rw [List.pairwise_map, List.pairwise_iff_getElem]
      intro i j hi hj hij
      have hsz : d'.size = d.length := hp.1
      have hi' : i < d'.size := by simpa using hi
      have hj' : j < d'.size := by simpa using hj
      have := hs i j (Nat.zero_le _) hij (show j < d.length by omega)
      rw [getElem!_pos d' j hj', getElem!_pos d' i hi'] at this
      unfold ltOf LB.cmp at this
      simp only [decide_eq_false_iff_not, Int.not_lt] at this
      have e := cmp_neg (d'[i]).1 (d'[j]).1
      simp only [Array.getElem_toList]
      omega
    · subst hw
      have hsz : d'.size = d.length := hp.1
      have := owns_sorted (d := d') (q := n) (os := os) hsz hown
      rw [← lnsOf_flat, show (lnsOf d'.toList).length = d.length by unfold lnsOf; simp [hsz]]
      exact this
    · subst hw
      exact (up_grow (up_putRow (enc := id) hu (by omega)) os).mk
end Go.Proofs.YtlbbepgfjigjpaaGreatDoor
