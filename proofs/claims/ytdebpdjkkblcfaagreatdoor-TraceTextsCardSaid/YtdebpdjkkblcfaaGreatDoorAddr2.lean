/- Texts of prefixes, ranges and keys; keys turned and compared: what the functions of package addr return. -/
import Derived.Test.YtdebpdjkkblcfaaGreatDoorText
import Derived.Test.YtdebpdjkkblcfaaGreatDoorAddr1
namespace Go.Ab
def prefixTextL (a n : Int) : List UInt8 := textL a ++ [47] ++ dec n
def rangeTextL (p q : Int) : List UInt8 := if p = 0 ∧ q = 65535 then [42] else if p = q then dec p else dec p ++ [45] ++ dec q
def keyTextL (pr s d sp dp : Int) : List UInt8 := dec pr ++ [32] ++ textL s ++ [58] ++ dec sp ++ [32] ++ textL d ++ [58] ++ dec dp
end Go.Ab
namespace Go.Proofs.YtdebpdjkkblcfaaGreatDoor
open Go.RowKit Go.Ab

theorem rangeTextL_two (p q : Int) (h1 : ¬ (p = 0 ∧ q = 65535)) (h2 : p ≠ q) : rangeTextL p q = dec p ++ [45] ++ dec q := by unfold rangeTextL; rw [if_neg h1, if_neg h2]
theorem rangeTextL_one (p : Int) (h1 : ¬ (p = 0 ∧ p = 65535)) : rangeTextL p p = dec p := by unfold rangeTextL; rw [if_neg h1, if_pos rfl]
set_option maxHeartbeats 400000 in
theorem keyText_any (pr s d sp dp : Int) (w : World) (g : Good w) (r0 : 0 ≤ pr) (r1 : pr < 256) (sp0 : 0 ≤ sp) (sp1 : sp < 65536) (dp0 : 0 ≤ dp) (dp1 : dp < 65536) :
    Gives Tryz.prog 39 #[.agg #[.int .u8 pr, .int .u32 s, .int .u32 d, .int .u16 sp, .int .u16 dp]] w (.string ⟨(keyTextL pr s d sp dp).toArray⟩) := by
  unfold Gives
  have l1 := textL_length s
  have l2 := textL_length d
  have l3 := dec_length pr (by omega) (by omega)
  have l4 := dec_length sp (by omega) (by omega)
  have l5 := dec_length dp (by omega) (by omega)
  go_enter Tryz.func39, Tryz.ntmps39
  go_wp2
  refine wp_region_ext (by kernel_rfl) (by kernel_rfl) ?_
  repeat (go_big_quiet_step (first
    | (go_at_call 61; exact (decimal8_any pr _ (g.up (by repeat (with_reducible first | exact Up.refl _ | refine Up.ext ?_ _ | refine Up.drew ?_ | refine Up.alloc ?_ _ | refine Up.setCell ?_ (by simp) _))) r0 r1).ext)
    | (go_at_call 62; exact (text_any _ _ (g.up (by repeat (with_reducible first | exact Up.refl _ | refine Up.ext ?_ _ | refine Up.drew ?_ | refine Up.alloc ?_ _ | refine Up.setCell ?_ (by simp) _)))).ext)
    | (go_at_call_of 63 (Value.int .u16 sp); exact (decimal16_any sp _ (g.up (by repeat (with_reducible first | exact Up.refl _ | refine Up.ext ?_ _ | refine Up.drew ?_ | refine Up.alloc ?_ _ | refine Up.setCell ?_ (by simp) _))) sp0 sp1).ext)
    | (go_at_call 63; exact (decimal16_any dp _ (g.up (by repeat (with_reducible first | exact Up.refl _ | refine Up.ext ?_ _ | refine Up.drew ?_ | refine Up.alloc ?_ _ | refine Up.setCell ?_ (by simp) _))) dp0 dp1).ext)))
  refine wpQuiet_nil ?_
  rintro _ ⟨y, rfl⟩
  go_wp2
  go_ret
  exact ⟨rfl, Up.mk (by repeat (with_reducible first | exact Up.refl _ | refine Up.ext ?_ _ | refine Up.drew ?_ | refine Up.alloc ?_ _ | refine Up.setCell ?_ (by simp) _))⟩

end Go.Proofs.YtdebpdjkkblcfaaGreatDoor
