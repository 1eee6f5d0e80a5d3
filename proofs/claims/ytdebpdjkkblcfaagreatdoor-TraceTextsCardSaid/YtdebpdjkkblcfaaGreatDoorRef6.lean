/- What the reference's functions of prefixes, ranges and keys return: just what the program's return. -/
import Derived.Test.YtdebpdjkkblcfaaGreatDoorRefT
import Derived.Test.YtdebpdjkkblcfaaGreatDoorKeysPlain
namespace Go.Proofs.YtdebpdjkkblcfaaGreatDoor
open Go.RowKit Go.Ab
attribute [local go_sem high] eq_key
theorem szN (n : Int) (h0 : 0 ≤ n) : 1 ≤ sz n ∧ sz n ≤ 4294967296 := ⟨sz_pos n, sz_le n h0⟩
end Go.Proofs.YtdebpdjkkblcfaaGreatDoor
namespace Go.Proofs.YtdebpdjkkblcfaaGreatDoor
open Go.RowKit Go.Ab
attribute [local go_sem high] eq_key
set_option maxHeartbeats 4000000 in
set_option maxRecDepth 100000 in
theorem refKeyText_any (pr s d sp dp : Int) (w : World) (k : KeyB pr s d sp dp) : Gives Tryz.prog 33 #[.agg #[.int .u8 pr, .int .u32 s, .int .u32 d, .int .u16 sp, .int .u16 dp]] w (.string ⟨(keyTextL pr s d sp dp).toArray⟩) := by
  obtain ⟨r0, r1, s0, s1, d0, d1, sp0, sp1, dp0, dp1⟩ := k
  unfold Gives
  have l1 := textL_length s
  have l2 := textL_length d
  have l3 := dec_length pr (by omega) (by omega)
  have l4 := dec_length sp (by omega) (by omega)
  have l5 := dec_length dp (by omega) (by omega)
  go_enter Tryz.func33, Tryz.ntmps33
  go_wp2_with fail
  (refine wp_region_ext (by kernel_rfl) (by kernel_rfl) ?_; (repeat (go_big_quiet_step ((first
    | (go_at_call 59; exact (refText_any _ _ (by omega) (by omega)).ext)
    | (go_at_call 58; exact (refDecimal_any _ _ (by omega) (by omega)).ext))))); refine wpQuiet_nil ?_; rintro _ ⟨y, rfl⟩)
  go_wp2
  go_ret
  exact ⟨rfl, mkI⟩
end Go.Proofs.YtdebpdjkkblcfaaGreatDoor
