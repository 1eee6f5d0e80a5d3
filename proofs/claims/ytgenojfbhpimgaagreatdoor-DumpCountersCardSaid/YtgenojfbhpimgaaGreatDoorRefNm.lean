/- The reference's names of reasons. -/
import Derived.Test.YtgenojfbhpimgaaGreatDoorRefA
import Derived.Test.YtgenojfbhpimgaaGreatDoorTr1
namespace Go.Proofs.YtgenojfbhpimgaaGreatDoor
open Go.RowKit Go.Ab
set_option maxHeartbeats 16000000 in
set_option maxRecDepth 100000 in
theorem rname_any (r : Int) (w : World) (r0 : 0 ≤ r) (r1 : r < 256) : Gives Tryz.prog 83 #[.int .u8 r] w (.tuple #[.string ⟨(nameOf r).toArray⟩, .int .i64 (nameE r)]) := by
  unfold Gives
  by_cases h : 1 ≤ r ∧ r < 31
  · obtain ⟨h1, h2⟩ := h
    have e2 : nameE r = 0 := if_pos ⟨h1, h2⟩
    rw [e2]
    obtain ⟨k, rfl⟩ : ∃ k : Nat, r = (k : Int) + 1 := ⟨(r - 1).toNat, by omega⟩
    have hk : k < 30 := by omega
    have hs : namesL[k + 1]? = some (nameOf ((k : Int) + 1)) := by
      obtain ⟨s, hs⟩ := names_at (k + 1) (by omega)
      have e : ((k : Int) + 1).toNat = k + 1 := by omega
      unfold nameOf
      rw [if_pos ⟨h1, h2⟩, e, hs]; rfl
    generalize nameOf ((k : Int) + 1) = nm at *
    have hc3 : ∀ h, ([Value.string ⟨#[115, 104, 111, 114, 116]⟩, .string ⟨#[118, 101, 114, 115, 105, 111, 110]⟩, .string ⟨#[104, 101, 97, 100, 101, 114]⟩, .string ⟨#[116, 111, 116, 97, 108]⟩, .string ⟨#[115, 117, 109]⟩, .string ⟨#[114, 101, 115, 101, 114, 118, 101, 100]⟩, .string ⟨#[111, 102, 102, 115, 101, 116]⟩, .string ⟨#[102, 114, 97, 103, 109, 101, 110, 116]⟩, .string ⟨#[111, 112, 116, 105, 111, 110, 115]⟩, .string ⟨#[114, 111, 117, 116, 101]⟩, .string ⟨#[116, 116, 108]⟩, .string ⟨#[97, 100, 100, 114, 101, 115, 115]⟩, .string ⟨#[112, 114, 111, 116, 111, 99, 111, 108]⟩, .string ⟨#[108, 101, 110, 103, 116, 104]⟩, .string ⟨#[102, 108, 97, 103, 115]⟩, .string ⟨#[112, 111, 114, 116]⟩, .string ⟨#[116, 121, 112, 101]⟩, .string ⟨#[113, 117, 111, 116, 101]⟩, .string ⟨#[110, 101, 115, 116, 101, 100]⟩, .string ⟨#[102, 108, 111, 119]⟩, .string ⟨#[114, 101, 108, 97, 116, 101, 100]⟩, .string ⟨#[110, 101, 119]⟩, .string ⟨#[114, 117, 108, 101]⟩, .string ⟨#[110, 111, 114, 117, 108, 101]⟩, .string ⟨#[110, 111, 116, 111, 112, 101, 110]⟩, .string ⟨#[115, 116, 97, 116, 101]⟩, .string ⟨#[115, 111, 117, 114, 99, 101]⟩, .string ⟨#[114, 97, 116, 101]⟩, .string ⟨#[102, 117, 108, 108]⟩, .string ⟨#[110, 111, 110, 101]⟩] : List Value)[k]'h = .string ⟨nm.toArray⟩ := fun h => by
      have hl : ([Value.string ⟨#[115, 104, 111, 114, 116]⟩, .string ⟨#[118, 101, 114, 115, 105, 111, 110]⟩, .string ⟨#[104, 101, 97, 100, 101, 114]⟩, .string ⟨#[116, 111, 116, 97, 108]⟩, .string ⟨#[115, 117, 109]⟩, .string ⟨#[114, 101, 115, 101, 114, 118, 101, 100]⟩, .string ⟨#[111, 102, 102, 115, 101, 116]⟩, .string ⟨#[102, 114, 97, 103, 109, 101, 110, 116]⟩, .string ⟨#[111, 112, 116, 105, 111, 110, 115]⟩, .string ⟨#[114, 111, 117, 116, 101]⟩, .string ⟨#[116, 116, 108]⟩, .string ⟨#[97, 100, 100, 114, 101, 115, 115]⟩, .string ⟨#[112, 114, 111, 116, 111, 99, 111, 108]⟩, .string ⟨#[108, 101, 110, 103, 116, 104]⟩, .string ⟨#[102, 108, 97, 103, 115]⟩, .string ⟨#[112, 111, 114, 116]⟩, .string ⟨#[116, 121, 112, 101]⟩, .string ⟨#[113, 117, 111, 116, 101]⟩, .string ⟨#[110, 101, 115, 116, 101, 100]⟩, .string ⟨#[102, 108, 111, 119]⟩, .string ⟨#[114, 101, 108, 97, 116, 101, 100]⟩, .string ⟨#[110, 101, 119]⟩, .string ⟨#[114, 117, 108, 101]⟩, .string ⟨#[110, 111, 114, 117, 108, 101]⟩, .string ⟨#[110, 111, 116, 111, 112, 101, 110]⟩, .string ⟨#[115, 116, 97, 116, 101]⟩, .string ⟨#[115, 111, 117, 114, 99, 101]⟩, .string ⟨#[114, 97, 116, 101]⟩, .string ⟨#[102, 117, 108, 108]⟩, .string ⟨#[110, 111, 110, 101]⟩] : List Value)[k]? = (namesL[k + 1]?).map fun s => Value.string ⟨s.toArray⟩ := by
        rw [show ([Value.string ⟨#[115, 104, 111, 114, 116]⟩, .string ⟨#[118, 101, 114, 115, 105, 111, 110]⟩, .string ⟨#[104, 101, 97, 100, 101, 114]⟩, .string ⟨#[116, 111, 116, 97, 108]⟩, .string ⟨#[115, 117, 109]⟩, .string ⟨#[114, 101, 115, 101, 114, 118, 101, 100]⟩, .string ⟨#[111, 102, 102, 115, 101, 116]⟩, .string ⟨#[102, 114, 97, 103, 109, 101, 110, 116]⟩, .string ⟨#[111, 112, 116, 105, 111, 110, 115]⟩, .string ⟨#[114, 111, 117, 116, 101]⟩, .string ⟨#[116, 116, 108]⟩, .string ⟨#[97, 100, 100, 114, 101, 115, 115]⟩, .string ⟨#[112, 114, 111, 116, 111, 99, 111, 108]⟩, .string ⟨#[108, 101, 110, 103, 116, 104]⟩, .string ⟨#[102, 108, 97, 103, 115]⟩, .string ⟨#[112, 111, 114, 116]⟩, .string ⟨#[116, 121, 112, 101]⟩, .string ⟨#[113, 117, 111, 116, 101]⟩, .string ⟨#[110, 101, 115, 116, 101, 100]⟩, .string ⟨#[102, 108, 111, 119]⟩, .string ⟨#[114, 101, 108, 97, 116, 101, 100]⟩, .string ⟨#[110, 101, 119]⟩, .string ⟨#[114, 117, 108, 101]⟩, .string ⟨#[110, 111, 114, 117, 108, 101]⟩, .string ⟨#[110, 111, 116, 111, 112, 101, 110]⟩, .string ⟨#[115, 116, 97, 116, 101]⟩, .string ⟨#[115, 111, 117, 114, 99, 101]⟩, .string ⟨#[114, 97, 116, 101]⟩, .string ⟨#[102, 117, 108, 108]⟩, .string ⟨#[110, 111, 110, 101]⟩] : List Value) = (namesL.drop 1).map fun s => Value.string ⟨s.toArray⟩ from rfl, List.getElem?_map, List.getElem?_drop, Nat.add_comm]
      rw [hs, List.getElem?_eq_getElem h] at hl
      exact Option.some.inj hl
    have kk0 : (0 : Int) ≤ (k : Int) := by omega
    have kk1 : (k : Int) < 30 := by omega
    clear e2 hs
    go_enter Tryz.func83, Tryz.ntmps83
    go_wp2_with fail
    go_ret2
    exact ⟨rfl, mkI⟩
  · have e : nameOf r = [] := if_neg h
    have e2 : nameE r = 6 := if_neg h
    rw [e, e2]
    by_cases h0 : r = 0
    · subst h0
      go_enter Tryz.func83, Tryz.ntmps83
      go_wp2_with fail
      go_ret2
      exact ⟨rfl, mkI⟩
    · have b1 : 30 < r := by omega
      clear h h0 e e2
      go_enter Tryz.func83, Tryz.ntmps83
      go_wp2_with fail
      go_ret2
      exact ⟨rfl, mkI⟩
end Go.Proofs.YtgenojfbhpimgaaGreatDoor
