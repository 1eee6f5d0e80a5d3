/- Names of reasons; which events are right; words. -/
import Derived.Test.YtlbbepgfjigjpaaGreatDoorNames
import Derived.Test.YtlbbepgfjigjpaaGreatDoorCover
import Derived.Test.YtlbbepgfjigjpaaGreatDoorText
namespace Go.Ab
/-- The name of a reason, by its number. -/
def nameOf (r : Int) : List UInt8 := if 1 ≤ r ∧ r < 31 then (namesL[r.toNat]?).getD [] else []
def nameE (r : Int) : Int := if 1 ≤ r ∧ r < 31 then 0 else 6
/-- The place of a name from a number on; 31: there is none. -/
def reasonFrom (s : List UInt8) : Nat → Nat → Nat
  | 0, i => i
  | f + 1, i => if namesL[i]? = some s then i else reasonFrom s f (i + 1)
def reasonOf (s : List UInt8) : Nat := reasonFrom s 30 1
def rsN (s : List UInt8) : Int := if reasonOf s < 31 then reasonOf s else 0
def rsE (s : List UInt8) : Int := if reasonOf s < 31 then 0 else 6
theorem names_len : namesL.length = 31 := rfl
theorem names_at (i : Nat) (h : i < 31) : ∃ s, namesL[i]? = some s := ⟨_, List.getElem?_eq_getElem (by rw [names_len]; exact h)⟩
theorem names_short (i : Nat) (s : List UInt8) (h : namesL[i]? = some s) : s.length ≤ 8 := by
  have hi : i < 31 := by
    rcases Nat.lt_or_ge i 31 with h1 | h1
    · exact h1
    · rw [List.getElem?_eq_none (by rw [names_len]; exact h1)] at h; cases h
  have : ∀ j, j < 31 → ((namesL[j]?).getD []).length ≤ 8 := by decide
  have := this i hi
  rw [h] at this; exact this
theorem reasonFrom_bd (s : List UInt8) : ∀ (f i : Nat), i + f = 31 → i ≤ reasonFrom s f i ∧ reasonFrom s f i ≤ 31
  | 0, i, h => by simp [reasonFrom]; omega
  | f + 1, i, h => by
    rw [reasonFrom]
    split
    · omega
    · have := reasonFrom_bd s f (i + 1) (by omega); omega
end Go.Ab
namespace Go.Proofs.YtlbbepgfjigjpaaGreatDoor
open Go.RowKit Go.Ab
attribute [local go_sem high] eq_key
set_option maxHeartbeats 4000000 in
set_option maxRecDepth 100000 in
theorem name_any (r : Int) (w : World) (g : GoodN w) (r0 : 0 ≤ r) (r1 : r < 256) : Gives Tryz.prog 35 #[.int .u8 r] w (.tuple #[.string ⟨(nameOf r).toArray⟩, .int .i64 (nameE r)]) := by
  unfold Gives
  by_cases h : 1 ≤ r ∧ r < 31
  · obtain ⟨h1, h2⟩ := h
    obtain ⟨s, hs⟩ := names_at r.toNat (by omega)
    have e : nameOf r = s := by unfold nameOf; rw [if_pos ⟨h1, h2⟩, hs]; rfl
    have e2 : nameE r = 0 := if_pos ⟨h1, h2⟩
    rw [e, e2]
    have hc := g.names _ s hs
    obtain ⟨k, rfl⟩ := Int.eq_ofNat_of_zero_le r0
    simp only [Int.toNat_natCast] at hc
    have b0 : (((k : Nat) : Int) == 0) = false := by simp; omega
    clear e e2 hs
    go_enter Tryz.func35, Tryz.ntmps35
    go_wp2
    go_ret2
    exact ⟨rfl, mkI⟩
  · have e : nameOf r = [] := if_neg h
    have e2 : nameE r = 6 := if_neg h
    rw [e, e2]
    by_cases h0 : r = 0
    · subst h0
      go_enter Tryz.func35, Tryz.ntmps35
      go_wp2
      go_ret2
      exact ⟨rfl, mkI⟩
    · have b0 : (r == 0) = false := by simpa using h0
      have b1 : 31 ≤ r := by omega
      clear h h0 e e2
      go_enter Tryz.func35, Tryz.ntmps35
      go_wp2
      go_ret2
      exact ⟨rfl, mkI⟩
set_option maxHeartbeats 4000000 in
set_option maxRecDepth 100000 in
theorem reason_any (s : List UInt8) (w : World) (g : GoodN w) :
    Gives Tryz.prog 73 #[.string ⟨s.toArray⟩] w (.tuple #[.int .u8 (rsN s), .int .i64 (rsE s)]) := by
  unfold Gives
  have G := Lib.hid g
  clear g
  go_enter Tryz.func73, Tryz.ntmps73
  go_wp2_with fail
  go_loopw [8] (fun i wr => ∃ k : Nat, k ≤ 30 ∧ i = .int .i64 (k : Int) ∧ Hid (reasonFrom s (30 - k) (k + 1) = reasonOf s) ∧ wr = w) (fun i _ => 30 - (intOf i).toNat)
  case atStart => exact ⟨0, by omega, rfl, Lib.hid rfl, rfl⟩
  case round =>
    obtain ⟨k, hk, rfl, Hk, rfl⟩ := hrel
    by_cases hlt : k < 30
    · obtain ⟨t, ht⟩ := names_at (k + 1) (by omega)
      have hc := G.out.names _ t ht
      have hc2 : wr.cell? ⟨1, 1 + k, none⟩ = some (.string ⟨t.toArray⟩) := by rw [Nat.add_comm]; exact hc
      have hstep : reasonFrom s (30 - k) (k + 1) = if namesL[k + 1]? = some s then k + 1 else reasonFrom s (30 - (k + 1)) (k + 1 + 1) := by
        rw [show 30 - k = (30 - (k + 1)) + 1 by omega]; rfl
      by_cases he : t = s
      · subst he
        rw [if_pos ht] at hstep
        have Z : Hid (reasonOf t = k + 1) := Lib.hid (by rw [← Hk.out, hstep])
        clear hstep ht
        go_wp2_with fail
        go_ret2
        exact ⟨by unfold rsN rsE; rw [Z.out, if_pos (by omega), if_pos (by omega)]; rfl, mkI⟩
      · rw [if_neg (by rw [ht]; exact fun e => he (Option.some.inj e))] at hstep
        have hb : (t == s) = false := by simpa using he
        have Hst := Lib.hid hstep
        clear hstep ht he
        go_wp2_with fail
        go_roundw
        case rel => exact ⟨k + 1, by omega, by go_num, Lib.hid (by rw [← Hst.out]; exact Hk.out), trivial⟩
        case measure => simp [intOf]; omega
    · obtain rfl : k = 30 := by omega
      have Z : Hid (reasonOf s = 31) := Lib.hid (by rw [← Hk.out]; rfl)
      go_wp2_with fail
      go_ret2
      exact ⟨by unfold rsN rsE; rw [Z.out, if_neg (by omega), if_neg (by omega)]; rfl, mkI⟩
end Go.Proofs.YtlbbepgfjigjpaaGreatDoor
