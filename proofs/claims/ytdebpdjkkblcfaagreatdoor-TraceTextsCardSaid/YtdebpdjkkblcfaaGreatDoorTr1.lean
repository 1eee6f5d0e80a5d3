/- Names of reasons; which events are right; words. -/
import Derived.Test.YtdebpdjkkblcfaaGreatDoorNames
import Derived.Test.YtdebpdjkkblcfaaGreatDoorStructEq
import Derived.Test.YtdebpdjkkblcfaaGreatDoorText
namespace Go.Ab
/-- The name of a reason, by its number. -/
def nameOf (r : Int) : List UInt8 := if 1 ≤ r ∧ r < 31 then (namesL[r.toNat]?).getD [] else []
def nameE (r : Int) : Int := if 1 ≤ r ∧ r < 31 then 0 else 6
/-- The place of a name from a number on; 31: there is none. -/
def reasonFrom (s : List UInt8) : Nat → Nat → Nat
  | 0, i => i
  | f + 1, i => if namesL[i]? = some s then i else reasonFrom s f (i + 1)
def reasonOf (s : List UInt8) : Nat := reasonFrom s 30 1
def rsN (s : List UInt8) : Int := if reasonOf s < 31 then reasonOf s else 0
def rsE (s : List UInt8) : Int := if reasonOf s < 31 then 0 else 6
theorem names_len : namesL.length = 31 := rfl
theorem names_at (i : Nat) (h : i < 31) : ∃ s, namesL[i]? = some s := ⟨_, List.getElem?_eq_getElem (by rw [names_len]; exact h)⟩
theorem names_short (i : Nat) (s : List UInt8) (h : namesL[i]? = some s) : s.length ≤ 8 := by
  have hi : i < 31 := by
    rcases Nat.lt_or_ge i 31 with h1 | h1
    · exact h1
    · rw [List.getElem?_eq_none (by rw [names_len]; exact h1)] at h; cases h
  have : ∀ j, j < 31 → ((namesL[j]?).getD []).length ≤ 8 := by decide
  have := this i hi
  rw [h] at this; exact this
theorem reasonFrom_bd (s : List UInt8) : ∀ (f i : Nat), i + f = 31 → i ≤ reasonFrom s f i ∧ reasonFrom s f i ≤ 31
  | 0, i, h => by simp [reasonFrom]; omega
  | f + 1, i, h => by
    rw [reasonFrom]
    split
    · omega
    · have := reasonFrom_bd s f (i + 1) (by omega); omega
/-- Is an event right? -/
def rightEv (n sd r pr s d sp dp : Int) : Bool :=
  (decide (0 ≤ n) && decide (n ≤ 1099511627776)) && ((decide (sd ≤ 1) && (decide (1 ≤ r) && decide (r < 30))) && (if r < 20 then (pr == 0 && (s == 0 && (d == 0 && (sp == 0 && dp == 0)))) else (pr == 1 || (pr == 6 || pr == 17))))
def idx3 (p : Int) : Int := if p = 1 then 0 else if p = 6 then 1 else if p = 17 then 2 else -1
def passB (r : Int) : Bool := decide (20 ≤ r) && decide (r ≤ 22)
end Go.Ab
namespace Go.Proofs.YtdebpdjkkblcfaaGreatDoor
open Go.RowKit Go.Ab
attribute [local go_sem high] eq_key
set_option maxHeartbeats 4000000 in
set_option maxRecDepth 100000 in
theorem name_any (r : Int) (w : World) (g : GoodN w) (r0 : 0 ≤ r) (r1 : r < 256) : Gives Tryz.prog 38 #[.int .u8 r] w (.tuple #[.string ⟨(nameOf r).toArray⟩, .int .i64 (nameE r)]) := by
  unfold Gives
  by_cases h : 1 ≤ r ∧ r < 31
  · obtain ⟨h1, h2⟩ := h
    obtain ⟨s, hs⟩ := names_at r.toNat (by omega)
    have e : nameOf r = s := by unfold nameOf; rw [if_pos ⟨h1, h2⟩, hs]; rfl
    have e2 : nameE r = 0 := if_pos ⟨h1, h2⟩
    rw [e, e2]
    have hc := g.names _ s hs
    obtain ⟨k, rfl⟩ := Int.eq_ofNat_of_zero_le r0
    simp only [Int.toNat_natCast] at hc
    have b0 : (((k : Nat) : Int) == 0) = false := by simp; omega
    clear e e2 hs
    go_enter Tryz.func38, Tryz.ntmps38
    go_wp2
    go_ret2
    exact ⟨rfl, mkI⟩
  · have e : nameOf r = [] := if_neg h
    have e2 : nameE r = 6 := if_neg h
    rw [e, e2]
    by_cases h0 : r = 0
    · subst h0
      go_enter Tryz.func38, Tryz.ntmps38
      go_wp2
      go_ret2
      exact ⟨rfl, mkI⟩
    · have b0 : (r == 0) = false := by simpa using h0
      have b1 : 31 ≤ r := by omega
      clear h h0 e e2
      go_enter Tryz.func38, Tryz.ntmps38
      go_wp2
      go_ret2
      exact ⟨rfl, mkI⟩
set_option maxHeartbeats 4000000 in
set_option maxRecDepth 100000 in
theorem reason_any (s : List UInt8) (w : World) (g : GoodN w) :
    Gives Tryz.prog 44 #[.string ⟨s.toArray⟩] w (.tuple #[.int .u8 (rsN s), .int .i64 (rsE s)]) := by
  unfold Gives
  have G := Lib.hid g
  clear g
  go_enter Tryz.func44, Tryz.ntmps44
  go_wp2_with fail
  go_loopw [8] (fun i wr => ∃ k : Nat, k ≤ 30 ∧ i = .int .i64 (k : Int) ∧ Hid (reasonFrom s (30 - k) (k + 1) = reasonOf s) ∧ wr = w) (fun i _ => 30 - (intOf i).toNat)
  case atStart => exact ⟨0, by omega, rfl, Lib.hid rfl, rfl⟩
  case round =>
    obtain ⟨k, hk, rfl, Hk, rfl⟩ := hrel
    by_cases hlt : k < 30
    · obtain ⟨t, ht⟩ := names_at (k + 1) (by omega)
      have hc := G.out.names _ t ht
      have hc2 : wr.cell? ⟨1, 1 + k, none⟩ = some (.string ⟨t.toArray⟩) := by rw [Nat.add_comm]; exact hc
      have hstep : reasonFrom s (30 - k) (k + 1) = if namesL[k + 1]? = some s then k + 1 else reasonFrom s (30 - (k + 1)) (k + 1 + 1) := by
        rw [show 30 - k = (30 - (k + 1)) + 1 by omega]; rfl
      by_cases he : t = s
      · subst he
        rw [if_pos ht] at hstep
        have Z : Hid (reasonOf t = k + 1) := Lib.hid (by rw [← Hk.out, hstep])
        clear hstep ht
        go_wp2_with fail
        go_ret2
        exact ⟨by unfold rsN rsE; rw [Z.out, if_pos (by omega), if_pos (by omega)]; rfl, mkI⟩
      · rw [if_neg (by rw [ht]; exact fun e => he (Option.some.inj e))] at hstep
        have hb : (t == s) = false := by simpa using he
        have Hst := Lib.hid hstep
        clear hstep ht he
        go_wp2_with fail
        go_roundw
        case rel => exact ⟨k + 1, by omega, by go_num, Lib.hid (by rw [← Hst.out]; exact Hk.out), trivial⟩
        case measure => simp [intOf]; omega
    · obtain rfl : k = 30 := by omega
      have Z : Hid (reasonOf s = 31) := Lib.hid (by rw [← Hk.out]; rfl)
      go_wp2_with fail
      go_ret2
      exact ⟨by unfold rsN rsE; rw [Z.out, if_neg (by omega), if_neg (by omega)]; rfl, mkI⟩
set_option maxHeartbeats 4000000 in
set_option maxRecDepth 100000 in
theorem known_any (r : Int) (w : World) (r0 : 0 ≤ r) (r1 : r < 256) : Gives Tryz.prog 36 #[.int .u8 r] w (.bool (decide (1 ≤ r) && decide (r < 30))) := by
  unfold Gives
  go_enter Tryz.func36, Tryz.ntmps36
  go_wp2
  all_goals go_ret
  all_goals exact ⟨ret_bool (by first | rfl | (simp; omega) | simp [*]), mkI⟩
set_option maxHeartbeats 4000000 in
set_option maxRecDepth 100000 in
theorem pass_any (r : Int) (w : World) (r0 : 0 ≤ r) (r1 : r < 256) : Gives Tryz.prog 25 #[.int .u8 r] w (.bool (passB r)) := by
  unfold Gives passB
  go_enter Tryz.func25, Tryz.ntmps25
  go_wp2
  all_goals go_ret
  all_goals exact ⟨ret_bool (by first | rfl | (simp; omega) | simp [*]), mkI⟩
set_option maxHeartbeats 4000000 in
set_option maxRecDepth 100000 in
theorem contains_any (b c : Nat) (p : Int) (w : World) (c0 : w.cell? ⟨b, 0, none⟩ = some (.int .u8 1)) (c1 : w.cell? ⟨b, 1, none⟩ = some (.int .u8 6)) (c2 : w.cell? ⟨b, 2, none⟩ = some (.int .u8 17)) :
    Gives Tryz.prog 77 #[.slice (some ⟨b, 0, none⟩) 3 c, .int .u8 p] w (.int .i64 (idx3 p)) := by
  unfold Gives
  go_enter Tryz.func77, Tryz.ntmps77
  go_wp2_with fail
  go_loopw [8] (fun i wr => ∃ k : Nat, k ≤ 3 ∧ i = .int .i64 (k : Int) ∧ Hid (1 ≤ k → p ≠ 1) ∧ Hid (2 ≤ k → p ≠ 6) ∧ Hid (3 ≤ k → p ≠ 17) ∧ ∃ x : Ext w, wr = x.w) (fun i _ => 3 - (intOf i).toNat)
  case atStart => exact ⟨0, by omega, rfl, Lib.hid (by omega), Lib.hid (by omega), Lib.hid (by omega), (Up.refl w).mk⟩
  case round =>
    obtain ⟨k, hk, rfl, H1, H2, H3, x, rfl⟩ := hrel
    haveI : LtSize b w := ⟨cell_lt' c0⟩
    rcases (by omega : k = 0 ∨ k = 1 ∨ k = 2 ∨ k = 3) with rfl | rfl | rfl | rfl
    · by_cases h : p = 1
      · subst h
        go_wp2_with fail
        go_ret
        exact ⟨rfl, mkI⟩
      · have hb : (p == 1) = false := by simpa using h
        have Hn : Hid (p ≠ 1) := h
        clear h
        go_wp2_with fail
        go_roundw
        case rel => exact ⟨1, by omega, rfl, Lib.hid (fun _ => Hn.out), Lib.hid (by omega), Lib.hid (by omega), mkI⟩
        case measure => simp [intOf]
    · by_cases h : p = 6
      · subst h
        go_wp2_with fail
        go_ret
        exact ⟨rfl, mkI⟩
      · have hb : (p == 6) = false := by simpa using h
        have Hn : Hid (p ≠ 6) := h
        clear h
        go_wp2_with fail
        go_roundw
        case rel => exact ⟨2, by omega, rfl, Lib.hid (fun _ => H1.out (by omega)), Lib.hid (fun _ => Hn.out), Lib.hid (by omega), mkI⟩
        case measure => simp [intOf]
    · by_cases h : p = 17
      · subst h
        go_wp2_with fail
        go_ret
        exact ⟨rfl, mkI⟩
      · have hb : (p == 17) = false := by simpa using h
        have Hn : Hid (p ≠ 17) := h
        clear h
        go_wp2_with fail
        go_roundw
        case rel => exact ⟨3, by omega, rfl, Lib.hid (fun _ => H1.out (by omega)), Lib.hid (fun _ => H2.out (by omega)), Lib.hid (fun _ => Hn.out), mkI⟩
        case measure => simp [intOf]
    · go_wp2_with fail
      go_ret
      exact ⟨ret_int (by unfold idx3; rw [if_neg (H1.out (by omega)), if_neg (H2.out (by omega)), if_neg (H3.out (by omega))]), mkI⟩
set_option maxHeartbeats 4000000 in
set_option maxRecDepth 100000 in
theorem contains3_any (b c : Nat) (p : Int) (w : World) (c0 : w.cell? ⟨b, 0, none⟩ = some (.int .u8 1)) (c1 : w.cell? ⟨b, 1, none⟩ = some (.int .u8 6)) (c2 : w.cell? ⟨b, 2, none⟩ = some (.int .u8 17)) :
    Gives Tryz.prog 50 #[.slice (some ⟨b, 0, none⟩) 3 c, .int .u8 p] w (.bool (p == 1 || (p == 6 || p == 17))) := by
  have h := contains_any b c p w c0 c1 c2
  have e : (p == 1 || (p == 6 || p == 17)) = decide (0 ≤ idx3 p) := by
    unfold idx3
    by_cases h1 : p = 1
    · simp [h1]
    · by_cases h6 : p = 6
      · simp [h6]
      · by_cases h17 : p = 17
        · simp [h17]
        · simp [h1, h6, h17]
  have E := Lib.hid e
  generalize idx3 p = i at *
  clear e c0 c1 c2
  unfold Gives
  go_enter Tryz.func50, Tryz.ntmps50
  go_wp2_with (go_at_call 77; refine h.mono ?_; rintro e w' ⟨rfl, x, rfl⟩)
  go_ret
  exact ⟨ret_bool E.out.symm, mkI⟩
set_option maxHeartbeats 8000000 in
set_option maxRecDepth 100000 in
theorem tright_any (n sd r pr s d sp dp : Int) (w : World) (sd0 : 0 ≤ sd) (sd1 : sd < 256) (r0 : 0 ≤ r) (r1 : r < 256) :
    Gives Tryz.prog 23 #[.agg #[.int .i64 n, .int .u8 sd, .int .u8 r, .int .u8 pr, .int .u32 s, .int .u32 d, .int .u16 sp, .int .u16 dp]] w (.bool (rightEv n sd r pr s d sp dp)) := by
  have hk := fun w => known_any r w r0 r1
  unfold Gives
  by_cases h1 : 0 ≤ n
  · by_cases h2 : n ≤ 1099511627776
    · by_cases h3 : sd ≤ 1
      · by_cases h4 : 1 ≤ r ∧ r < 30
        · have hk' : ∀ w, Gives Tryz.prog 36 #[.int .u8 r] w (.bool true) := fun w => (hk w).cast (by simp [h4])
          clear hk
          by_cases h5 : r < 20
          · have E : Hid (rightEv n sd r pr s d sp dp = (pr == 0 && (s == 0 && (d == 0 && (sp == 0 && dp == 0))))) := Lib.hid (by simp [rightEv, h1, h2, h3, h4, h5])
            go_enter Tryz.func23, Tryz.ntmps23
            go_wp2_with (go_at_call 36; refine (hk' _).mono ?_; rintro e w' ⟨rfl, x, rfl⟩)
            all_goals first | (exfalso; omega) | skip
            go_ret
            exact ⟨ret_bool E.out.symm, mkI⟩
          · have E : Hid (rightEv n sd r pr s d sp dp = (pr == 1 || (pr == 6 || pr == 17))) := Lib.hid (by simp [rightEv, h1, h2, h3, h4, h5])
            go_enter Tryz.func23, Tryz.ntmps23
            go_wp2_with (first
              | (go_at_call 36; refine (hk' _).mono ?_; rintro e w' ⟨rfl, x, rfl⟩)
              | (go_at_call 50; refine (contains3_any _ _ pr _ (by simp [go_sem]) (by simp [go_sem]) (by simp [go_sem])).mono ?_; rintro e w' ⟨rfl, x, rfl⟩))
            all_goals first | (exfalso; omega) | skip
            go_ret
            exact ⟨ret_bool E.out.symm, mkI⟩
        · have E : Hid (rightEv n sd r pr s d sp dp = false) := Lib.hid (by
            unfold rightEv
            have : (decide (1 ≤ r) && decide (r < 30)) = false := by simp; omega
            simp [this])
          have hk' : ∀ w, Gives Tryz.prog 36 #[.int .u8 r] w (.bool false) := fun w => (hk w).cast (by simp; omega)
          clear hk h4
          go_enter Tryz.func23, Tryz.ntmps23
          go_wp2_with (go_at_call 36; refine (hk' _).mono ?_; rintro e w' ⟨rfl, x, rfl⟩)
          all_goals first | (exfalso; omega) | skip
          go_ret
          exact ⟨ret_bool E.out.symm, mkI⟩
      · have E : Hid (rightEv n sd r pr s d sp dp = false) := Lib.hid (by simp [rightEv, h3])
        clear hk
        go_enter Tryz.func23, Tryz.ntmps23
        go_wp2_with fail
        all_goals first | (exfalso; omega) | skip
        go_ret
        exact ⟨ret_bool E.out.symm, mkI⟩
    · have E : Hid (rightEv n sd r pr s d sp dp = false) := Lib.hid (by simp [rightEv, h2])
      clear hk
      go_enter Tryz.func23, Tryz.ntmps23
      go_wp2_with fail
      all_goals first | (exfalso; omega) | skip
      go_ret
      exact ⟨ret_bool E.out.symm, mkI⟩
  · have E : Hid (rightEv n sd r pr s d sp dp = false) := Lib.hid (by simp [rightEv, h1])
    clear hk
    go_enter Tryz.func23, Tryz.ntmps23
    go_wp2_with fail
    all_goals first | (exfalso; omega) | skip
    go_ret
    exact ⟨ret_bool E.out.symm, mkI⟩
end Go.Proofs.YtdebpdjkkblcfaaGreatDoor
