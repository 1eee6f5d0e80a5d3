/- The law of nested addresses: an arm of the walk of AddrNests. -/
import Derived.Test.YtbcdeeiddpcdeaaDoorAwake
import Derived.Test.YtbcdeeiddpcdeaaDoorNestPlain
namespace Go.Proofs.YtbcdeeiddpcdeaaDoor
open Go.RowKit Go.Ab
set_option maxHeartbeats 8000000 in
theorem nests_TT (a b c m n p M : Int) (w : World) (g : Good w) (hm : m % 33 = M) (hn : n % 33 = M) (hp : a - a % sz M = p) (hq : b - b % sz M = p) (M0 : 0 ≤ M) (M1 : M ≤ 32) (p0 : 0 ≤ p) (p1 : p < 4294967296) (b0 : 0 ≤ b) (b1 : b < 4294967296) (a0 : 0 ≤ a) (a1 : a < 4294967296) (c0 : 0 ≤ c) (c1 : c < 4294967296) (m0 : 0 ≤ m) (n0 : 0 ≤ n)
    (hr : Hid (rightB p M = true)) (hin : Hid (insideB p M p M = true)) (hout : Hid (insideB p M p M = true)) (hpa : Hid (hasB p M a = true)) (hqb : Hid (hasB p M b = true)) (hlt : decide (M < M) = false) (hx : Hid (∀ x, hasB p M x = true → hasB p M x = true)) :
    Gives Tryd.prog 5 #[.int .u32 a, .int .u32 b, .int .u32 c, .int .u8 m, .int .u8 n] w (.bool true) := by
  unfold Gives
  have Hm := Lib.hid hm; have Hn := Lib.hid hn; have Hp := Lib.hid hp; have Hq := Lib.hid hq
  clear hm hn hp hq
  go_enter Tryd.func5, Tryd.ntmps5
  go_wp2_with fail
  refine (awake_any _ (g.up (by repeat (with_reducible first | exact Up.refl _ | refine Up.ext ?_ _ | refine Up.drew ?_ | refine Up.alloc ?_ _ | refine Up.setCell ?_ (by simp) _)))).mono ?_
  rintro e w' ⟨rfl, x1, rfl⟩
  go_wp2_with fail
  rw [Hm.out]
  refine ((cut_any a M _ M0 M1 a0 a1).cast (by rw [Hp.out])).mono ?_
  rintro e w' ⟨rfl, x2, rfl⟩
  go_wp2_with fail
  rw [Hn.out]
  refine ((cut_any b M _ M0 M1 b0 b1).cast (by rw [Hq.out])).mono ?_
  rintro e w' ⟨rfl, x3, rfl⟩
  have hA3 : x2.w.heap.size < x3.w.heap.size := x3.lt (by simp)
  have hA3' := Nat.lt_succ_of_lt hA3
  simp only [Nat.succ_eq_add_one] at hA3'
  go_wp2_with fail
  (refine wp_region_ext (by kernel_rfl) (by kernel_rfl) ?_; (repeat (go_big_quiet_step ((go_at_call 16; first
    | with_reducible exact ((inside_any p M p M _ M0 p0 p1 M0 p0 p1).cast (by rw [hin.out])).ext
    | with_reducible exact ((inside_any p M p M _ M0 p0 p1 M0 p0 p1).cast (by rw [hout.out])).ext)))); refine wpQuiet_nil ?_; rintro _ ⟨y, rfl⟩)
  have hA4 : x2.w.heap.size < y.w.heap.size := y.lt (by simp; omega)
  have hB4 : x3.w.heap.size < y.w.heap.size := y.lt (by simp)
  go_wp2_with fail
  refine ((meet_any p M p M _ M0 p0 p1 M0 p0 p1).cast (show Value.bool (meetB p M p M) = .bool true by unfold meetB; simp [hin.out, hout.out])).mono ?_
  rintro e w' ⟨rfl, x4, rfl⟩
  have hA5 := x4.lt hA4
  have hB5 := x4.lt hB4
  go_wp2_with fail
  refine ((meet_any p M p M _ M0 p0 p1 M0 p0 p1).cast (show Value.bool (meetB p M p M) = .bool true by unfold meetB; simp [hin.out, hout.out])).mono ?_
  rintro e w' ⟨rfl, x5, rfl⟩
  have hA6 := x5.lt hA5
  have hB6 := x5.lt hB5
  go_wp2_with fail
  refine ((meet_any p M p M _ M0 p0 p1 M0 p0 p1).cast (show Value.bool (meetB p M p M) = .bool true by unfold meetB; rw [inside_self hr.out]; rfl)).mono ?_
  rintro e w' ⟨rfl, x6, rfl⟩
  have hA7 := x6.lt hA6
  have hB7 := x6.lt hB6
  go_wp2_with fail
  refine ((inside_any p M p M _ M0 p0 p1 M0 p0 p1).cast (show _ = Value.bool true by rw [inside_self hr.out])).mono ?_
  rintro e w' ⟨rfl, x7, rfl⟩
  have hA8 := x7.lt hA7
  have hB8 := x7.lt hB7
  go_wp2_with fail
  refine ((has_any p M a _ M0 p0 p1 a0 a1).cast (by rw [hpa.out])).mono ?_
  rintro e w' ⟨rfl, x8, rfl⟩
  have hA9 := x8.lt hA8
  have hB9 := x8.lt hB8
  go_wp2_with fail
  refine ((has_any p M b _ M0 p0 p1 b0 b1).cast (by rw [hqb.out])).mono ?_
  rintro e w' ⟨rfl, x9, rfl⟩
  have hA10 := x9.lt hA9
  have hB10 := x9.lt hB9
  have uy : Up ((x2.w.alloc (.cells #[.int .u32 p, .int .u8 M] 30))) x9.w := (by repeat (with_reducible first | exact Up.refl _ | refine Up.ext ?_ _ | refine Up.drew ?_ | refine Up.alloc ?_ _ | refine Up.setCell ?_ (by simp) _))
  have uz : Up ((x3.w.alloc (.cells #[.int .u32 p, .int .u8 M] 30))) x9.w := (by repeat (with_reducible first | exact Up.refl _ | refine Up.ext ?_ _ | refine Up.drew ?_ | refine Up.alloc ?_ _ | refine Up.setCell ?_ (by simp) _))
  have cA0 : x9.w.cell? ⟨x2.w.heap.size, 0, none⟩ = some (.int .u32 p) := uy.cell_some' (by simp [go_sem])
  have cA1 : x9.w.cell? ⟨x2.w.heap.size, 1, none⟩ = some (.int .u8 M) := uy.cell_some' (by simp [go_sem])
  have cB0 : x9.w.cell? ⟨x3.w.heap.size, 0, none⟩ = some (.int .u32 p) := uz.cell_some' (by simp [go_sem])
  have cB1 : x9.w.cell? ⟨x3.w.heap.size, 1, none⟩ = some (.int .u8 M) := uz.cell_some' (by simp [go_sem])
  have hup : Up w x9.w := (by repeat (with_reducible first | exact Up.refl _ | refine Up.ext ?_ _ | refine Up.drew ?_ | refine Up.alloc ?_ _ | refine Up.setCell ?_ (by simp) _))
  clear uy uz hA4 hB4 hA5 hB5 hA6 hB6 hA7 hB7 hA8 hB8 hA9 hB9 hA3 hA3'
  generalize x9.w = wo at hup cA0 cA1 cB0 cB1 hA10 hB10 ⊢
  clear x9
  go_wp2_with fail
  have hA11 := Nat.lt_succ_of_lt hA10
  have hB11 := Nat.lt_succ_of_lt hB10
  simp only [Nat.succ_eq_add_one] at hA11 hB11
  go_loopw [118] (fun i wr => ∃ (k : Nat) (i' : Int), k ≤ 5 ∧ i = .int .i64 i' ∧ Hid (i' = k) ∧ ∃ x : Ext (wo.alloc (.cells #[.int .u32 a, .int .u32 b, .int .u32 c, .int .u32 p, .int .u32 p] 22)), wr = x.w) (fun i _ => 5 - (intOf i).toNat)
  case atStart => exact ⟨0, 0, by omega, rfl, rfl, (Up.refl _).mk⟩
  case round =>
    obtain ⟨k, i', hk4, rfl, hi, x, rfl⟩ := hrel
    have r1 : wo.heap.size < x.w.heap.size := x.lt (by simp)
    have rA : x2.w.heap.size < x.w.heap.size := x.lt (by simp; omega)
    have rB : x3.w.heap.size < x.w.heap.size := x.lt (by simp; omega)
    rcases (by omega : k = 0 ∨ k = 1 ∨ k = 2 ∨ k = 3 ∨ k = 4 ∨ k = 5) with rfl | rfl | rfl | rfl | rfl | rfl
    · obtain rfl : i' = 0 := by have := hi.out; omega
      clear hi
      cases hv : hasB p M a
      · have Hv := Lib.hid hv
        clear hv
        go_wp2_with fail
        refine ((has_any p M a _ M0 p0 p1 a0 a1).cast (by rw [Hv.out])).mono ?_
        rintro e w' ⟨rfl, y1, rfl⟩
        have ra1 := y1.lt rA
        have rb1 := y1.lt rB
        go_wp2_with fail
        go_roundw
        case rel => exact ⟨1, 1, by omega, rfl, rfl, (x.up.ext y1).mk⟩
        case measure => simp [intOf]
      · have Hv := Lib.hid hv
        have Hw := Lib.hid (hx.out _ hv)
        clear hv
        go_wp2_with fail
        refine ((has_any p M a _ M0 p0 p1 a0 a1).cast (by rw [Hv.out])).mono ?_
        rintro e w' ⟨rfl, y1, rfl⟩
        have ra1 := y1.lt rA
        have rb1 := y1.lt rB
        go_wp2_with fail
        refine ((has_any p M a _ M0 p0 p1 a0 a1).cast (by rw [Hw.out])).mono ?_
        rintro e w' ⟨rfl, y2, rfl⟩
        have ra2 := y2.lt ra1
        have rb2 := y2.lt rb1
        go_wp2_with fail
        go_roundw
        case rel => exact ⟨1, 1, by omega, rfl, rfl, ((x.up.ext y1).ext y2).mk⟩
        case measure => simp [intOf]
    · obtain rfl : i' = 1 := by have := hi.out; omega
      clear hi
      cases hv : hasB p M b
      · have Hv := Lib.hid hv
        clear hv
        go_wp2_with fail
        refine ((has_any p M b _ M0 p0 p1 b0 b1).cast (by rw [Hv.out])).mono ?_
        rintro e w' ⟨rfl, y1, rfl⟩
        have ra1 := y1.lt rA
        have rb1 := y1.lt rB
        go_wp2_with fail
        go_roundw
        case rel => exact ⟨2, 2, by omega, rfl, rfl, (x.up.ext y1).mk⟩
        case measure => simp [intOf]
      · have Hv := Lib.hid hv
        have Hw := Lib.hid (hx.out _ hv)
        clear hv
        go_wp2_with fail
        refine ((has_any p M b _ M0 p0 p1 b0 b1).cast (by rw [Hv.out])).mono ?_
        rintro e w' ⟨rfl, y1, rfl⟩
        have ra1 := y1.lt rA
        have rb1 := y1.lt rB
        go_wp2_with fail
        refine ((has_any p M b _ M0 p0 p1 b0 b1).cast (by rw [Hw.out])).mono ?_
        rintro e w' ⟨rfl, y2, rfl⟩
        have ra2 := y2.lt ra1
        have rb2 := y2.lt rb1
        go_wp2_with fail
        go_roundw
        case rel => exact ⟨2, 2, by omega, rfl, rfl, ((x.up.ext y1).ext y2).mk⟩
        case measure => simp [intOf]
    · obtain rfl : i' = 2 := by have := hi.out; omega
      clear hi
      cases hv : hasB p M c
      · have Hv := Lib.hid hv
        clear hv
        go_wp2_with fail
        refine ((has_any p M c _ M0 p0 p1 c0 c1).cast (by rw [Hv.out])).mono ?_
        rintro e w' ⟨rfl, y1, rfl⟩
        have ra1 := y1.lt rA
        have rb1 := y1.lt rB
        go_wp2_with fail
        go_roundw
        case rel => exact ⟨3, 3, by omega, rfl, rfl, (x.up.ext y1).mk⟩
        case measure => simp [intOf]
      · have Hv := Lib.hid hv
        have Hw := Lib.hid (hx.out _ hv)
        clear hv
        go_wp2_with fail
        refine ((has_any p M c _ M0 p0 p1 c0 c1).cast (by rw [Hv.out])).mono ?_
        rintro e w' ⟨rfl, y1, rfl⟩
        have ra1 := y1.lt rA
        have rb1 := y1.lt rB
        go_wp2_with fail
        refine ((has_any p M c _ M0 p0 p1 c0 c1).cast (by rw [Hw.out])).mono ?_
        rintro e w' ⟨rfl, y2, rfl⟩
        have ra2 := y2.lt ra1
        have rb2 := y2.lt rb1
        go_wp2_with fail
        go_roundw
        case rel => exact ⟨3, 3, by omega, rfl, rfl, ((x.up.ext y1).ext y2).mk⟩
        case measure => simp [intOf]
    · obtain rfl : i' = 3 := by have := hi.out; omega
      clear hi
      cases hv : hasB p M p
      · have Hv := Lib.hid hv
        clear hv
        go_wp2_with fail
        refine ((has_any p M p _ M0 p0 p1 p0 p1).cast (by rw [Hv.out])).mono ?_
        rintro e w' ⟨rfl, y1, rfl⟩
        have ra1 := y1.lt rA
        have rb1 := y1.lt rB
        go_wp2_with fail
        go_roundw
        case rel => exact ⟨4, 4, by omega, rfl, rfl, (x.up.ext y1).mk⟩
        case measure => simp [intOf]
      · have Hv := Lib.hid hv
        have Hw := Lib.hid (hx.out _ hv)
        clear hv
        go_wp2_with fail
        refine ((has_any p M p _ M0 p0 p1 p0 p1).cast (by rw [Hv.out])).mono ?_
        rintro e w' ⟨rfl, y1, rfl⟩
        have ra1 := y1.lt rA
        have rb1 := y1.lt rB
        go_wp2_with fail
        refine ((has_any p M p _ M0 p0 p1 p0 p1).cast (by rw [Hw.out])).mono ?_
        rintro e w' ⟨rfl, y2, rfl⟩
        have ra2 := y2.lt ra1
        have rb2 := y2.lt rb1
        go_wp2_with fail
        go_roundw
        case rel => exact ⟨4, 4, by omega, rfl, rfl, ((x.up.ext y1).ext y2).mk⟩
        case measure => simp [intOf]
    · obtain rfl : i' = 4 := by have := hi.out; omega
      clear hi
      cases hv : hasB p M p
      · have Hv := Lib.hid hv
        clear hv
        go_wp2_with fail
        refine ((has_any p M p _ M0 p0 p1 p0 p1).cast (by rw [Hv.out])).mono ?_
        rintro e w' ⟨rfl, y1, rfl⟩
        have ra1 := y1.lt rA
        have rb1 := y1.lt rB
        go_wp2_with fail
        go_roundw
        case rel => exact ⟨5, 5, by omega, rfl, rfl, (x.up.ext y1).mk⟩
        case measure => simp [intOf]
      · have Hv := Lib.hid hv
        have Hw := Lib.hid (hx.out _ hv)
        clear hv
        go_wp2_with fail
        refine ((has_any p M p _ M0 p0 p1 p0 p1).cast (by rw [Hv.out])).mono ?_
        rintro e w' ⟨rfl, y1, rfl⟩
        have ra1 := y1.lt rA
        have rb1 := y1.lt rB
        go_wp2_with fail
        refine ((has_any p M p _ M0 p0 p1 p0 p1).cast (by rw [Hw.out])).mono ?_
        rintro e w' ⟨rfl, y2, rfl⟩
        have ra2 := y2.lt ra1
        have rb2 := y2.lt rb1
        go_wp2_with fail
        go_roundw
        case rel => exact ⟨5, 5, by omega, rfl, rfl, ((x.up.ext y1).ext y2).mk⟩
        case measure => simp [intOf]
    · obtain rfl : i' = 5 := by have := hi.out; omega
      clear hi
      go_wp2_with fail
      go_ret
      exact ⟨rfl, (hup.trans (by repeat (with_reducible first | exact Up.refl _ | refine Up.ext ?_ _ | refine Up.drew ?_ | refine Up.alloc ?_ _ | refine Up.setCell ?_ (by simp) _))).mk⟩
end Go.Proofs.YtbcdeeiddpcdeaaDoor
