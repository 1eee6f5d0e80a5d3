/- DumpTexts, walked: Right, Text and Read of package dump against the reference. -/
import Derived.Test.YtgenojfbhpimgaaGreatDoorRd
import Derived.Test.YtgenojfbhpimgaaGreatDoorRt
import Derived.Test.YtgenojfbhpimgaaGreatDoorDAw
namespace Go.Proofs.YtgenojfbhpimgaaGreatDoor
open Go.RowKit Go.Ab
set_option maxHeartbeats 16000000 in
set_option maxRecDepth 100000 in
theorem texts_any (l : Ln) (s : List UInt8) (w : World) (g : GoodD w) (b : LnB l) : Gives Tryz.prog 12 #[l.val, .string ⟨s.toArray⟩] w (.bool true) := by
  by_cases h5 : 500 < s.length
  · have h5' : (500 : Int) < (s.length : Int) := by omega
    unfold Gives Ln.val
    go_enter Tryz.func12, Tryz.ntmps12
    go_wp2_with fail
    go_ret
    exact ⟨rfl, mkI⟩
  · have h5' : (s.length : Int) ≤ 500 := by omega
    have hT := fun W g => dtext_any l W g b
    have hr1 := fun W => dright_any l W b
    have hr2 := fun W => rright38_any l W b
    have hr3 := fun W h => rtext38_any l W b h
    have hRd := fun W g => dread_any s W g (by omega)
    have hRr := fun W => (rread38_any s W (by omega)).cast (rreadV_eq s)
    unfold dreadV at hRd hRr
    unfold textE at hT
    have fin : ∀ (x : Ln) (e : Int), (∀ W, GoodD W → Gives Tryz.prog 33 #[.string ⟨s.toArray⟩] W (.tuple #[x.val, .int .i64 e])) → (∀ W, Gives Tryz.prog 39 #[.string ⟨s.toArray⟩] W (.tuple #[x.val, .int .i64 e])) → Gives Tryz.prog 12 #[l.val, .string ⟨s.toArray⟩] w (.bool true) := by
      intro x e hRd hRr
      have HT := Lib.hid hT
      clear b h5 hT
      obtain ⟨x1, x2, x3, x4, x5, x6, x7, x8, x9, x10, x11⟩ := x
      unfold Ln.val at *
      cases hr : l.right
      · have hT := HT.out
        rw [hr] at hT hr1 hr2
        simp only [Bool.false_eq_true, if_false] at hT
        clear HT hr hr3
        unfold Gives
        go_enter Tryz.func12, Tryz.ntmps12
        go_upto_region 7 with (first
          | (go_at_call 32; refine (hT _ (g.up upI)).mono ?_; rintro e w' ⟨rfl, z1, rfl⟩)
          | (go_at_call 33; refine (hRd _ (g.up upI)).mono ?_; rintro e w' ⟨rfl, z2, rfl⟩)
          | (go_at_call 39; refine (hRr _).mono ?_; rintro e w' ⟨rfl, z3, rfl⟩))
        (refine wp_region_ext (by kernel_rfl) (by kernel_rfl) ?_; (repeat (go_big_quiet_step ((first | (go_at_call 34; exact (hr1 _).ext) | (go_at_call 40; exact (hr2 _).ext))))); refine wpQuiet_nil ?_; rintro _ ⟨y7, rfl⟩)
        go_wp2_with (go_at_call 40; refine (hr2 _).mono ?_; rintro e w' ⟨rfl, z4, rfl⟩)
        go_ret
        exact ⟨rfl, mkI⟩
      · have hT := HT.out
        rw [hr] at hT hr1 hr2
        simp only [if_true] at hT
        have hr3' := fun W => hr3 W hr
        clear HT hr hr3
        unfold Gives
        go_enter Tryz.func12, Tryz.ntmps12
        go_upto_region 7 with (first
          | (go_at_call 32; refine (hT _ (g.up upI)).mono ?_; rintro e w' ⟨rfl, z1, rfl⟩)
          | (go_at_call 33; refine (hRd _ (g.up upI)).mono ?_; rintro e w' ⟨rfl, z2, rfl⟩)
          | (go_at_call 39; refine (hRr _).mono ?_; rintro e w' ⟨rfl, z3, rfl⟩))
        (refine wp_region_ext (by kernel_rfl) (by kernel_rfl) ?_; (repeat (go_big_quiet_step ((first | (go_at_call 34; exact (hr1 _).ext) | (go_at_call 40; exact (hr2 _).ext))))); refine wpQuiet_nil ?_; rintro _ ⟨y7, rfl⟩)
        go_wp2_with (first
          | (go_at_call 40; refine (hr2 _).mono ?_; rintro e w' ⟨rfl, z4, rfl⟩)
          | (go_at_call 41; refine (hr3' _).mono ?_; rintro e w' ⟨rfl, z5, rfl⟩))
        go_ret
        exact ⟨rfl, mkI⟩
    cases hx : readLn s with
    | some x => rw [hx] at hRd hRr; exact fin x 0 hRd hRr
    | none => rw [hx] at hRd hRr; exact fin Ln.zero 382 hRd hRr
set_option maxHeartbeats 16000000 in
set_option maxRecDepth 100000 in
theorem dtextsL_any (l : Ln) (s : List UInt8) (w : World) (g : GoodD w) (b : LnB l) : Gives Tryz.prog 3 #[l.val, .string ⟨s.toArray⟩] w (.bool true) := by
  have hT := fun W g => texts_any l s W g b
  unfold Ln.val at *
  unfold Gives
  go_enter Tryz.func3, Tryz.ntmps3
  go_wp2_with (first
    | (go_at_call 12; refine (hT _ (g.up upI)).mono ?_; rintro e w' ⟨rfl, z1, rfl⟩)
    | (go_at_call 13; refine (dawake_any _ (g.up upI)).mono ?_; rintro e w' ⟨rfl, z2, rfl⟩))
  go_ret
  exact ⟨rfl, mkI⟩
end Go.Proofs.YtgenojfbhpimgaaGreatDoor
