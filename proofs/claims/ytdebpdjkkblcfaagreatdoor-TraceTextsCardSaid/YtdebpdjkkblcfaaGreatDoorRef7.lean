/- What the reference's Compare, ReadRange and ReadKey return: just what the program's return. -/
import Derived.Test.YtdebpdjkkblcfaaGreatDoorRef6
import Derived.Test.YtdebpdjkkblcfaaGreatDoorRefPlain2
import Derived.Test.YtdebpdjkkblcfaaGreatDoorAddr3
namespace Go.Proofs.YtdebpdjkkblcfaaGreatDoor
open Go.RowKit Go.Ab
attribute [local go_sem high] eq_key
set_option maxHeartbeats 8000000 in
set_option maxRecDepth 100000 in
theorem refReadKey_any (l : List UInt8) (w : World) (hl : l.length < 4294967281) : Gives Tryz.prog 49 #[.string ⟨l.toArray⟩] w (readKeyV l) := by
  have E0 : Hid ((0 : Int) = atOf l (some l)) := Lib.hid (by simp [atOf])
  have c1 : ∀ w, Gives Tryz.prog 74 #[.string ⟨l.toArray⟩, .int .i64 0, .int .i64 255] w (.tuple #[.int .i64 (rk1 l).1, .int .i64 (atOf l (rk1 l).2)]) := fun w => by
    rw [E0.out]; exact number_any l (some l) 255 w hl (suf_self l) (by omega) (by omega)
  have u1 : Suf l (rk1 l).2 := suf_num _ (suf_self l)
  have q1 : ∀ w, Gives Tryz.prog 75 #[.string ⟨l.toArray⟩, .int .i64 (atOf l (rk1 l).2), .int .u8 32] w (.int .i64 (atOf l (signP 32 (rk1 l).2))) := fun w => sign_any l (rk1 l).2 32 w hl u1
  have c2 : ∀ w, Gives Tryz.prog 76 #[.string ⟨l.toArray⟩, .int .i64 (atOf l (signP 32 (rk1 l).2))] w (.tuple #[.int .i64 (rk2 l).1, .int .i64 (atOf l (rk2 l).2)]) := fun w => address_any l _ w hl (suf_sign 32 u1)
  have u2 : Suf l (rk2 l).2 := suf_addr (suf_sign 32 u1)
  have q2 : ∀ w, Gives Tryz.prog 75 #[.string ⟨l.toArray⟩, .int .i64 (atOf l (rk2 l).2), .int .u8 58] w (.int .i64 (atOf l (signP 58 (rk2 l).2))) := fun w => sign_any l (rk2 l).2 58 w hl u2
  have c3 : ∀ w, Gives Tryz.prog 74 #[.string ⟨l.toArray⟩, .int .i64 (atOf l (signP 58 (rk2 l).2)), .int .i64 65535] w (.tuple #[.int .i64 (rk3 l).1, .int .i64 (atOf l (rk3 l).2)]) := fun w => number_any l _ 65535 w hl (suf_sign 58 u2) (by omega) (by omega)
  have u3 : Suf l (rk3 l).2 := suf_num _ (suf_sign 58 u2)
  have q3 : ∀ w, Gives Tryz.prog 75 #[.string ⟨l.toArray⟩, .int .i64 (atOf l (rk3 l).2), .int .u8 32] w (.int .i64 (atOf l (signP 32 (rk3 l).2))) := fun w => sign_any l (rk3 l).2 32 w hl u3
  have c4 : ∀ w, Gives Tryz.prog 76 #[.string ⟨l.toArray⟩, .int .i64 (atOf l (signP 32 (rk3 l).2))] w (.tuple #[.int .i64 (rk4 l).1, .int .i64 (atOf l (rk4 l).2)]) := fun w => address_any l _ w hl (suf_sign 32 u3)
  have u4 : Suf l (rk4 l).2 := suf_addr (suf_sign 32 u3)
  have q4 : ∀ w, Gives Tryz.prog 75 #[.string ⟨l.toArray⟩, .int .i64 (atOf l (rk4 l).2), .int .u8 58] w (.int .i64 (atOf l (signP 58 (rk4 l).2))) := fun w => sign_any l (rk4 l).2 58 w hl u4
  have c5 : ∀ w, Gives Tryz.prog 74 #[.string ⟨l.toArray⟩, .int .i64 (atOf l (signP 58 (rk4 l).2)), .int .i64 65535] w (.tuple #[.int .i64 (rk5 l).1, .int .i64 (atOf l (rk5 l).2)]) := fun w => number_any l _ 65535 w hl (suf_sign 58 u4) (by omega) (by omega)
  have b1 : 0 ≤ (rk1 l).1 ∧ (rk1 l).1 ≤ 255 := numP_bd 255 (by omega) _
  have b2 : 0 ≤ (rk2 l).1 ∧ (rk2 l).1 < 4294967296 := addrP_bd _
  have b3 : 0 ≤ (rk3 l).1 ∧ (rk3 l).1 ≤ 65535 := numP_bd 65535 (by omega) _
  have b4 : 0 ≤ (rk4 l).1 ∧ (rk4 l).1 < 4294967296 := addrP_bd _
  have b5 : 0 ≤ (rk5 l).1 ∧ (rk5 l).1 ≤ 65535 := numP_bd 65535 (by omega) _
  rw [ref_readKey l]
  obtain ⟨b1, b1'⟩ := b1; obtain ⟨b2, b2'⟩ := b2; obtain ⟨b3, b3'⟩ := b3; obtain ⟨b4, b4'⟩ := b4; obtain ⟨b5, b5'⟩ := b5
  clear E0 u1 u2 u3 u4
  generalize (rk1 l).1 = x1 at *; generalize (rk2 l).1 = x2 at *; generalize (rk3 l).1 = x3 at *; generalize (rk4 l).1 = x4 at *; generalize (rk5 l).1 = x5 at *
  generalize hy1 : (rk1 l).2 = y1 at *; generalize hy2 : (rk2 l).2 = y2 at *; generalize hy3 : (rk3 l).2 = y3 at *; generalize hy4 : (rk4 l).2 = y4 at *; generalize hy5 : (rk5 l).2 = y5 at *
  clear hy1 hy2 hy3 hy4 hy5
  generalize hz1 : signP 32 y1 = z1 at *; generalize hz2 : signP 58 y2 = z2 at *; generalize hz3 : signP 32 y3 = z3 at *; generalize hz4 : signP 58 y4 = z4 at *
  clear hz1 hz2 hz3 hz4
  unfold Gives
  by_cases h : y5 = some []
  · have t := at_eq (l := l) h
    rw [if_pos h]
    clear h
    go_enter Tryz.func49, Tryz.ntmps49
    go_wp2_with (first
      | (go_at_call 74; ((first | with_reducible refine (c1 _).mono ?_ | with_reducible refine (c3 _).mono ?_ | with_reducible refine (c5 _).mono ?_)); rintro e w' ⟨rfl, x, rfl⟩)
      | (go_at_call 76; ((first | with_reducible refine (c2 _).mono ?_ | with_reducible refine (c4 _).mono ?_)); rintro e w' ⟨rfl, x, rfl⟩)
      | (go_at_call 75; ((first | with_reducible refine (q1 _).mono ?_ | with_reducible refine (q2 _).mono ?_ | with_reducible refine (q3 _).mono ?_ | with_reducible refine (q4 _).mono ?_)); rintro e w' ⟨rfl, x, rfl⟩))
    refine bodyPost_ret (v := Value.tuple #[.agg #[.int .u8 x1, .int .u32 x2, .int .u32 x4, .int .u16 x3, .int .u16 x5], .int .i64 0]) (by simp [results, Tryz.results49, go_sem]) rfl ⟨rfl, mkI⟩
  · have t := at_ne (l := l) h
    rw [if_neg h]
    clear h
    go_enter Tryz.func49, Tryz.ntmps49
    go_wp2_with (first
      | (go_at_call 74; ((first | with_reducible refine (c1 _).mono ?_ | with_reducible refine (c3 _).mono ?_ | with_reducible refine (c5 _).mono ?_)); rintro e w' ⟨rfl, x, rfl⟩)
      | (go_at_call 76; ((first | with_reducible refine (c2 _).mono ?_ | with_reducible refine (c4 _).mono ?_)); rintro e w' ⟨rfl, x, rfl⟩)
      | (go_at_call 75; ((first | with_reducible refine (q1 _).mono ?_ | with_reducible refine (q2 _).mono ?_ | with_reducible refine (q3 _).mono ?_ | with_reducible refine (q4 _).mono ?_)); rintro e w' ⟨rfl, x, rfl⟩))
    refine bodyPost_ret (v := Value.tuple #[.agg #[.int .u8 0, .int .u32 0, .int .u32 0, .int .u16 0, .int .u16 0], .int .i64 30]) (by simp [results, Tryz.results49, go_sem]) rfl ⟨rfl, mkI⟩
end Go.Proofs.YtdebpdjkkblcfaaGreatDoor
