/- What the reference's ReadPrefix returns: just what the program's returns. -/
import Derived.Test.YtbcdeeiddpcdeaaGreatDoorRef3
import Derived.Test.YtbcdeeiddpcdeaaGreatDoorStructEq
namespace Go.Proofs.YtbcdeeiddpcdeaaGreatDoor
open Go.RowKit Go.Ab
attribute [local go_sem high] eq_prefix eq_key eq_range
set_option maxHeartbeats 4000000 in
set_option maxRecDepth 100000 in
theorem refReadPrefix_any (l : List UInt8) (w : World) (hl : l.length < 4294967281) (hright : ∀ (a n : Int) (w : World), 0 ≤ n → n < 256 → 0 ≤ a → a < 4294967296 → Gives Tryz.prog 39 #[.agg #[.int .u32 a, .int .u8 n]] w (.bool (rightB a n))) :
    Gives Tryz.prog 11 #[.string ⟨l.toArray⟩] w (readPrefixV l) := by
  have E0 : Hid ((0 : Int) = atOf l (some l)) := Lib.hid (by simp [atOf])
  have ha : ∀ w, Gives Tryz.prog 48 #[.string ⟨l.toArray⟩, .int .i64 0] w (.tuple #[.int .i64 (addrP (some l)).1, .int .i64 (atOf l (addrP (some l)).2)]) := fun w => by
    rw [E0.out]; exact address_any l (some l) w hl (suf_self l)
  have hs1 := suf_addr (suf_self l)
  have hb := fun w => sign_any l (addrP (some l)).2 47 w hl hs1
  have hc : ∀ w, Gives Tryz.prog 51 #[.string ⟨l.toArray⟩, .int .i64 (atOf l (signP 47 (addrP (some l)).2)), .int .i64 32] w (.tuple #[.int .i64 (rpN l).1, .int .i64 (atOf l (rpN l).2)]) := fun w => number_any l (signP 47 (addrP (some l)).2) 32 w hl (suf_sign 47 hs1) (by omega) (by omega)
  have hv : readPrefixV l = if (rpN l).2 = some [] ∧ rightB (addrP (some l)).1 (rpN l).1 = true then .tuple #[.agg #[.int .u32 (addrP (some l)).1, .int .u8 (rpN l).1], .int .i64 0] else .tuple #[.agg #[.int .u32 0, .int .u8 0], .int .i64 30] := by
    unfold readPrefixV; rw [ref_readPrefix]; split
    · rename_i h; split at h
      · rename_i h2; cases h; rw [if_pos h2]
      · cases h
    · rename_i h; split at h
      · cases h
      · rename_i h2; rw [if_neg h2]
  obtain ⟨b0, b1⟩ := addrP_bd (some l)
  have nb : 0 ≤ (rpN l).1 ∧ (rpN l).1 ≤ 32 := numP_bd 32 (by omega) _
  obtain ⟨n0, n1⟩ := nb
  rw [hv]
  clear hv hs1 E0
  generalize hpo : (addrP (some l)).2 = o1 at *
  generalize signP 47 o1 = o2 at *
  generalize (addrP (some l)).1 = a at *
  generalize (rpN l).1 = n at *
  generalize (rpN l).2 = o at *
  clear hpo
  have hr := fun w => hright a n w n0 (by omega) b0 b1
  unfold Gives
  by_cases h : o = some []
  · have t := at_eq (l := l) h
    cases hrb : rightB a n
    · rw [if_neg (by simp)]
      rw [hrb] at hr
      clear h hrb
      go_enter Tryz.func11, Tryz.ntmps11
      go_wp2_with (first
        | (go_at_call 48; refine (ha _).mono ?_; rintro e w' ⟨rfl, x, rfl⟩)
        | (go_at_call 50; refine (hb _).mono ?_; rintro e w' ⟨rfl, x, rfl⟩)
        | (go_at_call 51; refine (hc _).mono ?_; rintro e w' ⟨rfl, x, rfl⟩)
        | (go_at_call 39; refine (hr _).mono ?_; rintro e w' ⟨rfl, x, rfl⟩))
      refine bodyPost_ret (v := Value.tuple #[.agg #[.int .u32 0, .int .u8 0], .int .i64 30]) (by simp [results, Tryz.results11, go_sem]) rfl ⟨rfl, mkI⟩
    · rw [if_pos ⟨h, rfl⟩]
      rw [hrb] at hr
      clear h hrb
      go_enter Tryz.func11, Tryz.ntmps11
      go_wp2_with (first
        | (go_at_call 48; refine (ha _).mono ?_; rintro e w' ⟨rfl, x, rfl⟩)
        | (go_at_call 50; refine (hb _).mono ?_; rintro e w' ⟨rfl, x, rfl⟩)
        | (go_at_call 51; refine (hc _).mono ?_; rintro e w' ⟨rfl, x, rfl⟩)
        | (go_at_call 39; refine (hr _).mono ?_; rintro e w' ⟨rfl, x, rfl⟩))
      refine bodyPost_ret (v := Value.tuple #[.agg #[.int .u32 a, .int .u8 n], .int .i64 0]) (by simp [results, Tryz.results11, go_sem]) rfl ⟨rfl, mkI⟩
  · have t := at_ne (l := l) h
    rw [if_neg (fun e => h e.1)]
    clear h
    go_enter Tryz.func11, Tryz.ntmps11
    go_wp2_with (first
      | (go_at_call 48; refine (ha _).mono ?_; rintro e w' ⟨rfl, x, rfl⟩)
      | (go_at_call 50; refine (hb _).mono ?_; rintro e w' ⟨rfl, x, rfl⟩)
      | (go_at_call 51; refine (hc _).mono ?_; rintro e w' ⟨rfl, x, rfl⟩))
    refine bodyPost_ret (v := Value.tuple #[.agg #[.int .u32 0, .int .u8 0], .int .i64 30]) (by simp [results, Tryz.results11, go_sem]) rfl ⟨rfl, mkI⟩
end Go.Proofs.YtbcdeeiddpcdeaaGreatDoor
