/- What the reference's reading functions return: just what the program's return. -/
import Derived.Test.YtbcdeeiddpcdeaaGreatDoorRefPlain2
namespace Go.Proofs.YtbcdeeiddpcdeaaGreatDoor
open Go.RowKit Go.Ab
theorem at_ne {l : List UInt8} {o : Option (List UInt8)} (h : o ≠ some []) : (atOf l o != (l.length : Int)) = true := by
  simp only [bne_iff_ne, ne_eq]; exact fun e => h ((atOf_len l o).1 e)
theorem at_eq {l : List UInt8} {o : Option (List UInt8)} (h : o = some []) : (atOf l o != (l.length : Int)) = false := by
  simp only [bne_eq_false_iff_eq]; exact (atOf_len l o).2 h
set_option maxHeartbeats 4000000 in
set_option maxRecDepth 100000 in
theorem refRead_any (l : List UInt8) (w : World) (hl : l.length < 4294967281) : Gives Tryz.prog 9 #[.string ⟨l.toArray⟩] w (readV l) := by
  have e0 : (0 : Int) = atOf l (some l) := by simp [atOf]
  have E0 := Lib.hid e0
  clear e0
  have ha : ∀ w, Gives Tryz.prog 48 #[.string ⟨l.toArray⟩, .int .i64 0] w (.tuple #[.int .i64 (addrP (some l)).1, .int .i64 (atOf l (addrP (some l)).2)]) := fun w => by
    rw [E0.out]; exact address_any l (some l) w hl (suf_self l)
  have hv : readV l = if (addrP (some l)).2 = some [] then .tuple #[.int .u32 (addrP (some l)).1, .int .i64 0] else .tuple #[.int .u32 0, .int .i64 30] := by
    unfold readV; rw [ref_read]; split
    · rename_i h; split at h
      · rename_i h2; cases h; rw [if_pos h2]
      · cases h
    · rename_i h; split at h
      · cases h
      · rename_i h2; rw [if_neg h2]
  obtain ⟨b0, b1⟩ := addrP_bd (some l)
  rw [hv]
  clear hv
  generalize addrP (some l) = p at *
  obtain ⟨a, o⟩ := p
  dsimp only at *
  unfold Gives
  by_cases h : o = some []
  · rw [if_pos h]
    have t := at_eq (l := l) h
    clear h
    go_enter Tryz.func9, Tryz.ntmps9
    go_wp2_with (go_at_call 48; refine (ha _).mono ?_; rintro e w' ⟨rfl, x, rfl⟩)
    go_ret2
    exact ⟨rfl, mkI⟩
  · rw [if_neg h]
    have t := at_ne (l := l) h
    clear h
    go_enter Tryz.func9, Tryz.ntmps9
    go_wp2_with (go_at_call 48; refine (ha _).mono ?_; rintro e w' ⟨rfl, x, rfl⟩)
    go_ret2
    exact ⟨rfl, mkI⟩
end Go.Proofs.YtbcdeeiddpcdeaaGreatDoor
