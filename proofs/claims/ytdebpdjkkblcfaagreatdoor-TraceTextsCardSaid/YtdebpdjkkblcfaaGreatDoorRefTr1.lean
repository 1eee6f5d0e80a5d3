/- The reference of layer 41: which events are right, names of reasons, texts. -/
import Derived.Test.YtdebpdjkkblcfaaGreatDoorTr2
import Derived.Test.YtdebpdjkkblcfaaGreatDoorEqual
import Derived.Test.YtdebpdjkkblcfaaGreatDoorRefT
import Derived.Test.YtdebpdjkkblcfaaGreatDoorRef6
import Derived.Test.YtdebpdjkkblcfaaGreatDoorRef2
namespace Go.Ab
theorem ba_app (a b : List UInt8) : (⟨a.toArray⟩ : ByteArray) ++ (⟨b.toArray⟩ : ByteArray) = ⟨(a ++ b).toArray⟩ := by
  apply ByteArray.ext
  simp
end Go.Ab
namespace Go.Proofs.YtdebpdjkkblcfaaGreatDoor
open Go.RowKit Go.Ab
attribute [local go_sem high] eq_key
set_option maxHeartbeats 8000000 in
set_option maxRecDepth 100000 in
theorem rright_any (n sd r pr s d sp dp : Int) (w : World) (sd0 : 0 ≤ sd) (sd1 : sd < 256) (r0 : 0 ≤ r) (r1 : r < 256) :
    Gives Tryz.prog 24 #[.agg #[.int .i64 n, .int .u8 sd, .int .u8 r, .int .u8 pr, .int .u32 s, .int .u32 d, .int .u16 sp, .int .u16 dp]] w (.bool (rightEv n sd r pr s d sp dp)) := by
  unfold Gives
  by_cases h1 : 0 ≤ n
  · by_cases h2 : n ≤ 1099511627776
    · by_cases h3 : sd ≤ 1
      · by_cases h4 : r = 0
        · subst h4
          go_enter Tryz.func24, Tryz.ntmps24
          go_wp2_with fail
          all_goals first | (exfalso; omega) | skip
          go_ret
          exact ⟨ret_bool (by simp [rightEv]), mkI⟩
        · have h4' : (r == 0) = false := by simpa using h4
          have h4'' : 1 ≤ r := by omega
          by_cases h5 : r < 30
          · by_cases h6 : r < 20
            · have E : Hid (rightEv n sd r pr s d sp dp = (pr == 0 && (s == 0 && (d == 0 && (sp == 0 && dp == 0))))) := Lib.hid (by simp [rightEv, h1, h2, h3, h4'', h5, h6])
              clear h4
              go_enter Tryz.func24, Tryz.ntmps24
              go_wp2_with fail
              all_goals first | (exfalso; omega) | skip
              go_ret
              exact ⟨ret_bool E.out.symm, mkI⟩
            · have E : rightEv n sd r pr s d sp dp = (pr == 1 || (pr == 6 || pr == 17)) := by simp [rightEv, h1, h2, h3, h4'', h5, h6]
              rw [E]
              clear h4 E
              by_cases p1 : pr = 1
              · subst p1
                go_enter Tryz.func24, Tryz.ntmps24
                go_wp2_with fail
                all_goals first | (exfalso; omega) | skip
                go_ret
                exact ⟨rfl, mkI⟩
              · by_cases p6 : pr = 6
                · subst p6
                  go_enter Tryz.func24, Tryz.ntmps24
                  go_wp2_with fail
                  all_goals first | (exfalso; omega) | skip
                  go_ret
                  exact ⟨rfl, mkI⟩
                · have b1 : (pr == 1) = false := by simpa using p1
                  have b6 : (pr == 6) = false := by simpa using p6
                  rw [b1, b6, Bool.false_or, Bool.false_or]
                  clear p1 p6
                  go_enter Tryz.func24, Tryz.ntmps24
                  go_wp2_with fail
                  all_goals first | (exfalso; omega) | skip
                  go_ret
                  exact ⟨rfl, mkI⟩
          · have E : Hid (rightEv n sd r pr s d sp dp = false) := Lib.hid (by
              unfold rightEv
              have : (decide (1 ≤ r) && decide (r < 30)) = false := by simp; omega
              simp [this])
            clear h4
            go_enter Tryz.func24, Tryz.ntmps24
            go_wp2_with fail
            all_goals first | (exfalso; omega) | skip
            go_ret
            exact ⟨ret_bool E.out.symm, mkI⟩
      · have E : Hid (rightEv n sd r pr s d sp dp = false) := Lib.hid (by simp [rightEv, h3])
        go_enter Tryz.func24, Tryz.ntmps24
        go_wp2_with fail
        all_goals first | (exfalso; omega) | skip
        go_ret
        exact ⟨ret_bool E.out.symm, mkI⟩
    · have E : Hid (rightEv n sd r pr s d sp dp = false) := Lib.hid (by simp [rightEv, h2])
      go_enter Tryz.func24, Tryz.ntmps24
      go_wp2_with fail
      all_goals first | (exfalso; omega) | skip
      go_ret
      exact ⟨ret_bool E.out.symm, mkI⟩
  · have E : Hid (rightEv n sd r pr s d sp dp = false) := Lib.hid (by simp [rightEv, h1])
    go_enter Tryz.func24, Tryz.ntmps24
    go_wp2_with fail
    all_goals first | (exfalso; omega) | skip
    go_ret
    exact ⟨ret_bool E.out.symm, mkI⟩
set_option maxHeartbeats 4000000 in
set_option maxRecDepth 100000 in
theorem rpass_any (r : Int) (w : World) : Gives Tryz.prog 26 #[.int .u8 r] w (.bool (passB r)) := by
  have E : passB r = (r == 20 || (r == 21 || r == 22)) := by
    unfold passB
    rw [Bool.eq_iff_iff]
    simp; omega
  rw [E]
  clear E
  unfold Gives
  by_cases p1 : r = 20
  · subst p1
    go_enter Tryz.func26, Tryz.ntmps26
    go_wp2
    go_ret
    exact ⟨rfl, mkI⟩
  · by_cases p2 : r = 21
    · subst p2
      go_enter Tryz.func26, Tryz.ntmps26
      go_wp2
      go_ret
      exact ⟨rfl, mkI⟩
    · have b1 : (r == 20) = false := by simpa using p1
      have b2 : (r == 21) = false := by simpa using p2
      rw [b1, b2, Bool.false_or, Bool.false_or]
      clear p1 p2
      go_enter Tryz.func26, Tryz.ntmps26
      go_wp2
      go_ret
      exact ⟨rfl, mkI⟩
set_option maxHeartbeats 16000000 in
set_option maxRecDepth 100000 in
theorem rname_any (r : Int) (w : World) (r0 : 0 ≤ r) (r1 : r < 256) : Gives Tryz.prog 11 #[.int .u8 r] w (.tuple #[.string ⟨(nameOf r).toArray⟩, .int .i64 (nameE r)]) := by
  unfold Gives
  by_cases h : 1 ≤ r ∧ r < 31
  · obtain ⟨h1, h2⟩ := h
    have e2 : nameE r = 0 := if_pos ⟨h1, h2⟩
    rw [e2]
    obtain ⟨k, rfl⟩ : ∃ k : Nat, r = (k : Int) + 1 := ⟨(r - 1).toNat, by omega⟩
    have hk : k < 30 := by omega
    have hs : namesL[k + 1]? = some (nameOf ((k : Int) + 1)) := by
      obtain ⟨s, hs⟩ := names_at (k + 1) (by omega)
      have e : ((k : Int) + 1).toNat = k + 1 := by omega
      unfold nameOf
      rw [if_pos ⟨h1, h2⟩, e, hs]; rfl
    generalize nameOf ((k : Int) + 1) = nm at *
    have hc3 : ∀ h, ([Value.string ⟨#[115, 104, 111, 114, 116]⟩, .string ⟨#[118, 101, 114, 115, 105, 111, 110]⟩, .string ⟨#[104, 101, 97, 100, 101, 114]⟩, .string ⟨#[116, 111, 116, 97, 108]⟩, .string ⟨#[115, 117, 109]⟩, .string ⟨#[114, 101, 115, 101, 114, 118, 101, 100]⟩, .string ⟨#[111, 102, 102, 115, 101, 116]⟩, .string ⟨#[102, 114, 97, 103, 109, 101, 110, 116]⟩, .string ⟨#[111, 112, 116, 105, 111, 110, 115]⟩, .string ⟨#[114, 111, 117, 116, 101]⟩, .string ⟨#[116, 116, 108]⟩, .string ⟨#[97, 100, 100, 114, 101, 115, 115]⟩, .string ⟨#[112, 114, 111, 116, 111, 99, 111, 108]⟩, .string ⟨#[108, 101, 110, 103, 116, 104]⟩, .string ⟨#[102, 108, 97, 103, 115]⟩, .string ⟨#[112, 111, 114, 116]⟩, .string ⟨#[116, 121, 112, 101]⟩, .string ⟨#[113, 117, 111, 116, 101]⟩, .string ⟨#[110, 101, 115, 116, 101, 100]⟩, .string ⟨#[102, 108, 111, 119]⟩, .string ⟨#[114, 101, 108, 97, 116, 101, 100]⟩, .string ⟨#[110, 101, 119]⟩, .string ⟨#[114, 117, 108, 101]⟩, .string ⟨#[110, 111, 114, 117, 108, 101]⟩, .string ⟨#[110, 111, 116, 111, 112, 101, 110]⟩, .string ⟨#[115, 116, 97, 116, 101]⟩, .string ⟨#[115, 111, 117, 114, 99, 101]⟩, .string ⟨#[114, 97, 116, 101]⟩, .string ⟨#[102, 117, 108, 108]⟩, .string ⟨#[110, 111, 110, 101]⟩] : List Value)[k]'h = .string ⟨nm.toArray⟩ := fun h => by
      have hl : ([Value.string ⟨#[115, 104, 111, 114, 116]⟩, .string ⟨#[118, 101, 114, 115, 105, 111, 110]⟩, .string ⟨#[104, 101, 97, 100, 101, 114]⟩, .string ⟨#[116, 111, 116, 97, 108]⟩, .string ⟨#[115, 117, 109]⟩, .string ⟨#[114, 101, 115, 101, 114, 118, 101, 100]⟩, .string ⟨#[111, 102, 102, 115, 101, 116]⟩, .string ⟨#[102, 114, 97, 103, 109, 101, 110, 116]⟩, .string ⟨#[111, 112, 116, 105, 111, 110, 115]⟩, .string ⟨#[114, 111, 117, 116, 101]⟩, .string ⟨#[116, 116, 108]⟩, .string ⟨#[97, 100, 100, 114, 101, 115, 115]⟩, .string ⟨#[112, 114, 111, 116, 111, 99, 111, 108]⟩, .string ⟨#[108, 101, 110, 103, 116, 104]⟩, .string ⟨#[102, 108, 97, 103, 115]⟩, .string ⟨#[112, 111, 114, 116]⟩, .string ⟨#[116, 121, 112, 101]⟩, .string ⟨#[113, 117, 111, 116, 101]⟩, .string ⟨#[110, 101, 115, 116, 101, 100]⟩, .string ⟨#[102, 108, 111, 119]⟩, .string ⟨#[114, 101, 108, 97, 116, 101, 100]⟩, .string ⟨#[110, 101, 119]⟩, .string ⟨#[114, 117, 108, 101]⟩, .string ⟨#[110, 111, 114, 117, 108, 101]⟩, .string ⟨#[110, 111, 116, 111, 112, 101, 110]⟩, .string ⟨#[115, 116, 97, 116, 101]⟩, .string ⟨#[115, 111, 117, 114, 99, 101]⟩, .string ⟨#[114, 97, 116, 101]⟩, .string ⟨#[102, 117, 108, 108]⟩, .string ⟨#[110, 111, 110, 101]⟩] : List Value)[k]? = (namesL[k + 1]?).map fun s => Value.string ⟨s.toArray⟩ := by
        rw [show ([Value.string ⟨#[115, 104, 111, 114, 116]⟩, .string ⟨#[118, 101, 114, 115, 105, 111, 110]⟩, .string ⟨#[104, 101, 97, 100, 101, 114]⟩, .string ⟨#[116, 111, 116, 97, 108]⟩, .string ⟨#[115, 117, 109]⟩, .string ⟨#[114, 101, 115, 101, 114, 118, 101, 100]⟩, .string ⟨#[111, 102, 102, 115, 101, 116]⟩, .string ⟨#[102, 114, 97, 103, 109, 101, 110, 116]⟩, .string ⟨#[111, 112, 116, 105, 111, 110, 115]⟩, .string ⟨#[114, 111, 117, 116, 101]⟩, .string ⟨#[116, 116, 108]⟩, .string ⟨#[97, 100, 100, 114, 101, 115, 115]⟩, .string ⟨#[112, 114, 111, 116, 111, 99, 111, 108]⟩, .string ⟨#[108, 101, 110, 103, 116, 104]⟩, .string ⟨#[102, 108, 97, 103, 115]⟩, .string ⟨#[112, 111, 114, 116]⟩, .string ⟨#[116, 121, 112, 101]⟩, .string ⟨#[113, 117, 111, 116, 101]⟩, .string ⟨#[110, 101, 115, 116, 101, 100]⟩, .string ⟨#[102, 108, 111, 119]⟩, .string ⟨#[114, 101, 108, 97, 116, 101, 100]⟩, .string ⟨#[110, 101, 119]⟩, .string ⟨#[114, 117, 108, 101]⟩, .string ⟨#[110, 111, 114, 117, 108, 101]⟩, .string ⟨#[110, 111, 116, 111, 112, 101, 110]⟩, .string ⟨#[115, 116, 97, 116, 101]⟩, .string ⟨#[115, 111, 117, 114, 99, 101]⟩, .string ⟨#[114, 97, 116, 101]⟩, .string ⟨#[102, 117, 108, 108]⟩, .string ⟨#[110, 111, 110, 101]⟩] : List Value) = (namesL.drop 1).map fun s => Value.string ⟨s.toArray⟩ from rfl, List.getElem?_map, List.getElem?_drop, Nat.add_comm]
      rw [hs, List.getElem?_eq_getElem h] at hl
      exact Option.some.inj hl
    have kk0 : (0 : Int) ≤ (k : Int) := by omega
    have kk1 : (k : Int) < 30 := by omega
    clear e2 hs
    go_enter Tryz.func11, Tryz.ntmps11
    go_wp2_with fail
    go_ret2
    exact ⟨rfl, mkI⟩
  · have e : nameOf r = [] := if_neg h
    have e2 : nameE r = 6 := if_neg h
    rw [e, e2]
    by_cases h0 : r = 0
    · subst h0
      go_enter Tryz.func11, Tryz.ntmps11
      go_wp2_with fail
      go_ret2
      exact ⟨rfl, mkI⟩
    · have b1 : 30 < r := by omega
      clear h h0 e e2
      go_enter Tryz.func11, Tryz.ntmps11
      go_wp2_with fail
      go_ret2
      exact ⟨rfl, mkI⟩
set_option maxHeartbeats 4000000 in
set_option maxRecDepth 100000 in
theorem rreason_any (s : List UInt8) (w : World) : Gives Tryz.prog 48 #[.string ⟨s.toArray⟩] w (.tuple #[.int .u8 (rsN s), .int .i64 (rsE s)]) := by
  unfold Gives
  go_enter Tryz.func48, Tryz.ntmps48
  go_wp2_with fail
  go_loopw [4] (fun i wr => ∃ k : Nat, k ≤ 30 ∧ i = .int .u8 ((k : Int) + 1) ∧ Hid (reasonFrom s (30 - k) (k + 1) = reasonOf s) ∧ ∃ x : Ext w, wr = x.w) (fun i _ => 31 - (intOf i).toNat)
  case atStart => exact ⟨0, by omega, rfl, Lib.hid rfl, mkI⟩
  case round =>
    obtain ⟨k, hk, rfl, Hk, x, rfl⟩ := hrel
    by_cases hlt : k < 30
    · obtain ⟨t, ht⟩ := names_at (k + 1) (by omega)
      have hnm : ∀ w, Gives Tryz.prog 11 #[.int .u8 ((k : Int) + 1)] w (.tuple #[.string ⟨t.toArray⟩, .int .i64 0]) := fun w => (rname_any ((k : Int) + 1) w (by omega) (by omega)).cast (by
        have e : ((k : Int) + 1).toNat = k + 1 := by omega
        unfold nameOf nameE
        rw [if_pos (by omega), if_pos (by omega), e, ht]; rfl)
      have hstep : reasonFrom s (30 - k) (k + 1) = if namesL[k + 1]? = some s then k + 1 else reasonFrom s (30 - (k + 1)) (k + 1 + 1) := by
        rw [show 30 - k = (30 - (k + 1)) + 1 by omega]; rfl
      have q0 : (0 : Int) ≤ (k : Int) + 1 := by omega
      have q1 : (k : Int) + 1 ≤ 30 := by omega
      by_cases he : t = s
      · subst he
        rw [if_pos ht] at hstep
        have Z : Hid (reasonOf t = k + 1) := Lib.hid (by rw [← Hk.out, hstep])
        clear hstep ht
        go_wp2_with (go_at_call 11; refine (hnm _).mono ?_; rintro e w' ⟨rfl, x, rfl⟩)
        go_ret2
        exact ⟨by unfold rsN rsE; rw [Z.out, if_pos (by omega), if_pos (by omega)]; rfl, mkI⟩
      · rw [if_neg (by rw [ht]; exact fun e => he (Option.some.inj e))] at hstep
        have hb : (t == s) = false := by simpa using he
        have Hst := Lib.hid hstep
        clear hstep ht he
        go_wp2_with (go_at_call 11; refine (hnm _).mono ?_; rintro e w' ⟨rfl, x, rfl⟩)
        go_roundw
        case rel => exact ⟨k + 1, by omega, by go_num, Lib.hid (by rw [← Hst.out]; exact Hk.out), mkI⟩
        case measure => simp [intOf]; omega
    · obtain rfl : k = 30 := by omega
      have Z : Hid (reasonOf s = 31) := Lib.hid (by rw [← Hk.out]; rfl)
      go_wp2_with fail
      go_ret2
      exact ⟨by unfold rsN rsE; rw [Z.out, if_neg (by omega), if_neg (by omega)]; rfl, mkI⟩
set_option maxHeartbeats 16000000 in
set_option maxRecDepth 100000 in
theorem rtext_any (n sd r pr s d sp dp : Int) (w : World) (g : Good w) (sd0 : 0 ≤ sd) (sd1 : sd < 256) (r0 : 0 ≤ r) (r1 : r < 256) (kb : KeyB pr s d sp dp) :
    Gives Tryz.prog 10 #[.agg #[.int .i64 n, .int .u8 sd, .int .u8 r, .int .u8 pr, .int .u32 s, .int .u32 d, .int .u16 sp, .int .u16 dp]] w (.tuple #[.string ⟨(evTextS n sd r pr s d sp dp).toArray⟩, .int .i64 (evTextE n sd r pr s d sp dp)]) := by
  have hri := fun w => rright_any n sd r pr s d sp dp w sd0 sd1 r0 r1
  unfold Gives
  cases h : rightEv n sd r pr s d sp dp
  · have E1 : evTextS n sd r pr s d sp dp = [] := by unfold evTextS; rw [h]; rfl
    have E2 : evTextE n sd r pr s d sp dp = 2 := by unfold evTextE; rw [h]; rfl
    rw [E1, E2]
    rw [h] at hri
    clear E1 E2 h
    go_enter Tryz.func10, Tryz.ntmps10
    go_wp2_with (go_at_call 24; refine (hri _).mono ?_; rintro e w' ⟨rfl, x, rfl⟩)
    go_ret2
    exact ⟨rfl, mkI⟩
  · have E1 : evTextS n sd r pr s d sp dp = evText n sd r pr s d sp dp := by unfold evTextS; rw [h]; rfl
    have E2 : evTextE n sd r pr s d sp dp = 0 := by unfold evTextE; rw [h]; rfl
    rw [E1, E2]
    have h2 := h
    unfold rightEv at h2
    simp only [Bool.and_eq_true, decide_eq_true_eq] at h2
    obtain ⟨⟨n0, n1⟩, ⟨s1, q0, q1⟩, _⟩ := h2
    rw [h] at hri
    have hit : ∀ w, Good w → Gives Tryz.prog 32 #[.int .i64 n] w (.string ⟨(dec n).toArray⟩) := fun w g => itoa_any n w g (by omega) (by omega)
    have hnm : ∀ w, Gives Tryz.prog 11 #[.int .u8 r] w (.tuple #[.string ⟨(nameOf r).toArray⟩, .int .i64 0]) := fun w => (rname_any r w r0 r1).cast (by unfold nameE; rw [if_pos (by omega)])
    have hps := fun w => rpass_any r w
    have hky := fun w => refKeyText_any pr s d sp dp w kb
    have EV : Hid (evText n sd r pr s d sp dp = dec n ++ 32 :: (wordOf sd ++ 32 :: (verdictOf r ++ 32 :: (nameOf r ++ 32 :: evKey r pr s d sp dp)))) := Lib.hid (by unfold evText; simp [Lib.join])
    have l1 := dec_length n (by omega) (by omega)
    have l4 : (nameOf r).length ≤ 8 := by
      unfold nameOf; rw [if_pos (by omega)]
      obtain ⟨t, ht⟩ := names_at r.toNat (by omega)
      rw [ht]; exact names_short _ _ ht
    have l5 := keyTextL_len pr s d sp dp kb.r0 kb.r1 kb.sp0 kb.sp1 kb.dp0 kb.dp1
    clear E1 E2 h
    unfold verdictOf evKey at EV
    generalize keyTextL pr s d sp dp = kt at *
    generalize dec n = dn at *
    generalize nameOf r = nm at *
    generalize passB r = pb at *
    cases pb <;> by_cases hr : r < 20 <;> rcases (by omega : sd = 0 ∨ sd = 1) with rfl | rfl
    all_goals
      have hr' := hr
      go_enter Tryz.func10, Tryz.ntmps10
      go_wp2_with (first
        | (go_at_call 24; refine (hri _).mono ?_; rintro e w' ⟨rfl, x, rfl⟩)
        | (go_at_call 32; refine (hit _ (g.up upI)).mono ?_; rintro e w' ⟨rfl, x, rfl⟩)
        | (go_at_call 26; refine (hps _).mono ?_; rintro e w' ⟨rfl, x, rfl⟩)
        | (go_at_call 11; refine (hnm _).mono ?_; rintro e w' ⟨rfl, x, rfl⟩)
        | (go_at_call 33; refine (hky _).mono ?_; rintro e w' ⟨rfl, x, rfl⟩))
      all_goals first | (exfalso; omega) | skip
      go_ret2
      refine ⟨?_, mkI⟩
      rw [EV.out]
      simp only [ba_app]
      first
        | (simp [wordOf, show r < 20 from by omega]; done)
        | (simp [wordOf, show ¬ r < 20 from by omega]; done)
end Go.Proofs.YtdebpdjkkblcfaaGreatDoor
namespace Go.Ab
theorem ba_take (l : List UInt8) (k : Nat) : (⟨l.toArray⟩ : ByteArray).extract 0 k = ⟨(l.take k).toArray⟩ := by
  apply ByteArray.ext
  simp [ByteArray.data_extract]
theorem ba_drop (l : List UInt8) (k : Nat) : (⟨l.toArray⟩ : ByteArray).extract k l.length = ⟨(l.drop k).toArray⟩ := by
  apply ByteArray.ext
  simp [ByteArray.data_extract]
  exact List.take_of_length_le (by simp)
end Go.Ab
namespace Go.Proofs.YtdebpdjkkblcfaaGreatDoor
open Go.RowKit Go.Ab
attribute [local go_sem] mk_get
set_option maxHeartbeats 8000000 in
set_option maxRecDepth 100000 in
theorem rcut_any (l : List UInt8) (w : World) (hl : l.length < 4294967281) :
    Gives Tryz.prog 46 #[.string ⟨l.toArray⟩] w (.tuple #[.string ⟨(cutC 32 l).1.toArray⟩, .string ⟨(cutC 32 l).2.1.toArray⟩, .bool (cutC 32 l).2.2]) := by
  unfold Gives
  go_enter Tryz.func46, Tryz.ntmps46
  go_wp2_with fail
  go_loopw [5] (fun i wr => ∃ k : Nat, k ≤ l.length ∧ i = .int .i64 (k : Int) ∧ Hid ((32 : UInt8) ∉ l.take k) ∧ wr = w) (fun i _ => l.length - (intOf i).toNat)
  case atStart => exact ⟨0, Nat.zero_le _, rfl, Lib.hid (by simp), rfl⟩
  case round =>
    obtain ⟨k, hk, rfl, Hk, rfl⟩ := hrel
    by_cases hlt : k < l.length
    · obtain ⟨b, hb⟩ : ∃ b, l[k] = b := ⟨_, rfl⟩
      have hlt' : (k : Int) < (l.length : Int) := by omega
      have hsn : l.take (k + 1) = l.take k ++ [b] := by rw [List.take_succ_eq_append_getElem hlt, hb]
      have hdr : l = l.take k ++ b :: l.drop (k + 1) := by rw [← hb, ← List.drop_eq_getElem_cons hlt, List.take_append_drop]
      by_cases h32 : b = 32
      · subst h32
        have Z := Lib.hid (show cutC 32 l = (l.take k, l.drop (k + 1), true) by
          have := cutC_app 32 (l.drop (k + 1)) (l.take k) Hk.out
          rwa [← hdr] at this)
        have HB := Lib.hid hb
        have hbn : (l[k].toNat : Int) = 32 := by rw [hb]; rfl
        clear hsn hdr
        have hkb : (k : Int) ≤ 4294967281 := by omega
        go_wp2_with fail
        (refine wp_region_ext (by kernel_rfl) (by kernel_rfl) ?_; (repeat (go_big_quiet_step (fail))); refine wpQuiet_nil ?_; rintro _ ⟨y, rfl⟩)
        go_wp2_with fail
        go_ret3
        exact ⟨by rw [Z.out, ← ba_take, ← ba_drop]; rfl, mkI⟩
      · have hbn : ((b.toNat : Int) == 32) = false := by
          simp
          intro e
          exact h32 (UInt8.toNat_inj.1 (by simpa using Int.ofNat.inj e))
        have Hsn := Lib.hid hsn
        have H32 := Lib.hid h32
        clear hsn hdr h32
        go_wp2_with fail
        go_roundw
        case rel => exact ⟨k + 1, by omega, by go_num, Lib.hid (by rw [Hsn.out]; simp; exact ⟨Hk.out, fun e => H32.out e.symm⟩), trivial⟩
        case measure => simp [intOf]; omega
    · obtain rfl : k = l.length := by omega
      have Z := Lib.hid (show cutC 32 l = (l, [], false) from cutC_no 32 l (by have := Hk.out; rwa [List.take_length] at this))
      go_wp2_with fail
      go_ret3
      exact ⟨by rw [Z.out]; rfl, mkI⟩
theorem wrap64_bd (x : Int) : -9223372036854775808 ≤ wrap64 x ∧ wrap64 x ≤ 9223372036854775807 := by unfold wrap64; omega
theorem wrap64_id (x : Int) (h0 : -9223372036854775808 ≤ x) (h1 : x ≤ 9223372036854775807) : wrap64 x = x := IntWalk.wrap64_in x ⟨h0, h1⟩
/-- What decimal returns: of a numeral, its number. -/
def DecIs (l : List UInt8) (D : Int) : Prop := (-9223372036854775808 ≤ D ∧ D ≤ 9223372036854775807) ∧ ∀ m : Int, 0 ≤ m → m ≤ 1099511627776 → l = dec m → D = m
set_option maxHeartbeats 8000000 in
set_option maxRecDepth 100000 in
theorem rdecimal_any (l : List UInt8) (w : World) (hl : l.length < 4294967281) :
    Calls Tryz.prog 47 #[.string ⟨l.toArray⟩] w fun e w' => ∃ D, e = .returned (.int .i64 D) ∧ DecIs l D ∧ ∃ x : Ext w, w' = x.w := by
  go_enter Tryz.func47, Tryz.ntmps47
  go_wp2_with fail
  go_loopw [3, 4] (fun n i wr => ∃ (k : Nat) (v : Int), k ≤ l.length ∧ i = .int .i64 (k : Int) ∧ n = .int .i64 v ∧ -9223372036854775808 ≤ v ∧ v ≤ 9223372036854775807 ∧ Hid (∀ m : Int, 0 ≤ m → m ≤ 1099511627776 → l = dec m → v = valL (l.take k)) ∧ wr = w) (fun _ i _ => l.length - (intOf i).toNat)
  case atStart => exact ⟨0, 0, Nat.zero_le _, rfl, rfl, by omega, by omega, Lib.hid (by simp [valL]), rfl⟩
  case round =>
    obtain ⟨k, v, hk, rfl, rfl, v0, v1, Hk, rfl⟩ := hrel
    by_cases hlt : k < l.length
    · obtain ⟨b, hb⟩ : ∃ b, l[k] = b := ⟨_, rfl⟩
      have hlt' : (k : Int) < (l.length : Int) := by omega
      have hsn : l.take (k + 1) = l.take k ++ [b] := by rw [List.take_succ_eq_append_getElem hlt, hb]
      have Hsn := Lib.hid hsn
      have hdig : ∀ m : Int, 0 ≤ m → l = dec m → 48 ≤ b.toNat ∧ b.toNat ≤ 57 := fun m h0 h => by
        have := dec_isDig m h0 b (by rw [← h, ← hb]; exact List.getElem_mem _)
        unfold isDig at this
        simpa using this
      have Hd := Lib.hid hdig
      have hbb : b.toNat < 256 := b.toNat_lt
      clear hsn hdig
      by_cases hneg : k = 0 ∧ b = 45
      · obtain ⟨rfl, rfl⟩ := hneg
        have hbn : ((l[0].toNat : Int) == 45) = true := by rw [hb]; rfl
        have hno := Lib.hid (show ∀ m : Int, 0 ≤ m → ¬ l = dec m from fun m h0 h => by have := Hd.out m h0 h; simp at this)
        clear hb
        go_wp2_with fail
        go_roundw
        case rel => exact ⟨1, v, by omega, by go_num, rfl, v0, v1, Lib.hid (fun m h0 _ h => absurd h (hno.out m h0)), trivial⟩
        case measure => simp [intOf]; omega
      · have hfirst : ¬ ((k : Int) = 0 ∧ (b.toNat : Int) = 45) := fun h => hneg ⟨by omega, UInt8.toNat_inj.1 (by have := h.2; simp; omega)⟩
        clear hneg
        by_cases hd : 48 ≤ b.toNat ∧ b.toNat ≤ 57
        · obtain ⟨hd1, hd2⟩ := hd
          obtain ⟨v', hv'⟩ : ∃ v', v' = wrap64 (wrap64 (10 * v) + ((b.toNat : Int) - 48)) := ⟨_, rfl⟩
          have hb0 := wrap64_bd (wrap64 (10 * v) + ((b.toNat : Int) - 48))
          have hval := Lib.hid (show ∀ m : Int, 0 ≤ m → m ≤ 1099511627776 → l = dec m → wrap64 (wrap64 (10 * v) + ((b.toNat : Int) - 48)) = valL (l.take (k + 1)) from fun m h0 h1 h => by
            have e1 := Hk.out m h0 h1 h
            have hdg : ∀ c ∈ l, isDig c = true := by rw [h]; exact dec_isDig m h0
            have hm : valL l = m := by rw [h]; exact val_dec m h0
            have hmono : valL (l.take (k + 1)) ≤ valL l := by
              have := valL_mono (l.take (k + 1)) (l.drop (k + 1)) (by rw [List.take_append_drop]; exact hdg)
              rwa [List.take_append_drop] at this
            have hnn : 0 ≤ valL (l.take k) := valL_nonneg _ (fun c hc => hdg c (List.mem_of_mem_take hc))
            rw [Hsn.out, valL_snoc] at hmono ⊢
            rw [e1]
            rw [wrap64_id (10 * valL (l.take k)) (by omega) (by omega), wrap64_id _ (by omega) (by omega)])
          have hk45 : ((k : Int) == 0 && (b.toNat : Int) == 45) = false := by simp; omega
          clear hv'
          by_cases hk0 : k = 0
          · subst hk0
            have hbn : ((l[0].toNat : Int) == 45) = false := by rw [hb]; simp; omega
            go_wp2_with fail
            all_goals first | (exfalso; omega) | skip
            go_roundw
            case rel => exact ⟨1, _, by omega, by go_num, rfl, hb0.1, hb0.2, hval, trivial⟩
            case measure => simp [intOf]; omega
          · have hkb : ((k : Int) == 0) = false := by simp; omega
            clear hk45
            go_wp2_with fail
            all_goals first | (exfalso; omega) | skip
            go_roundw
            case rel => exact ⟨k + 1, _, by omega, by go_num, rfl, hb0.1, hb0.2, hval, trivial⟩
            case measure => simp [intOf]; omega
        · have hno := Lib.hid (show ∀ m : Int, 0 ≤ m → ¬ l = dec m from fun m h0 h => hd (Hd.out m h0 h))
          have hz := Lib.hid (show DecIs l 0 from ⟨⟨by omega, by omega⟩, fun m h0 _ h => absurd h (hno.out m h0)⟩)
          by_cases hk0 : k = 0
          · subst hk0
            have hbn : ((l[0].toNat : Int) == 45) = false := by rw [hb]; simp; omega
            by_cases h48 : (b.toNat : Int) < 48
            · go_wp2_with fail
              all_goals first | (exfalso; omega) | skip
              go_ret
              exact ⟨0, rfl, hz.out, mkI⟩
            · have h57 : 57 < (b.toNat : Int) := by omega
              go_wp2_with fail
              all_goals first | (exfalso; omega) | skip
              go_ret
              exact ⟨0, rfl, hz.out, mkI⟩
          · have hkb : ((k : Int) == 0) = false := by simp; omega
            by_cases h48 : (b.toNat : Int) < 48
            · go_wp2_with fail
              all_goals first | (exfalso; omega) | skip
              go_ret
              exact ⟨0, rfl, hz.out, mkI⟩
            · have h57 : 57 < (b.toNat : Int) := by omega
              go_wp2_with fail
              all_goals first | (exfalso; omega) | skip
              go_ret
              exact ⟨0, rfl, hz.out, mkI⟩
    · obtain rfl : k = l.length := by omega
      rw [List.take_length] at Hk
      have hv := Lib.hid (show DecIs l v from ⟨⟨v0, v1⟩, fun m h0 h1 h => by rw [Hk.out m h0 h1 h, h]; exact val_dec m h0⟩)
      by_cases h0 : 0 < l.length
      · obtain ⟨b, hb⟩ : ∃ b, l[0] = b := ⟨_, rfl⟩
        by_cases hbn : b = 45
        · subst hbn
          have hb1 : ((l[0].toNat : Int) == 45) = true := by rw [hb]; rfl
          have hno := Lib.hid (show ∀ m : Int, 0 ≤ m → ¬ l = dec m from fun m h0' h => by
            have := dec_isDig m h0' 45 (by rw [← h, ← hb]; exact List.getElem_mem _)
            unfold isDig at this
            simp at this)
          have hbd := wrap64_bd (-v)
          clear hb
          go_wp2_with fail
          all_goals first | (exfalso; omega) | skip
          all_goals go_ret
          all_goals exact ⟨_, rfl, ⟨⟨by first | exact hbd.1 | omega, by first | exact hbd.2 | omega⟩, fun m h0 _ h => absurd h (hno.out m h0)⟩, mkI⟩
        · have hb1 : ((l[0].toNat : Int) == 45) = false := by
            rw [hb]; simp
            intro e
            exact hbn (UInt8.toNat_inj.1 (by simpa using Int.ofNat.inj e))
          clear hb hbn
          go_wp2_with fail
          all_goals first | (exfalso; omega) | skip
          go_ret
          exact ⟨v, rfl, hv.out, mkI⟩
      · have h0' : l.length = 0 := by omega
        have hl0 : (l.length : Int) = 0 := by omega
        have Hl0 := Lib.hid h0'
        clear h0'
        go_wp2_with fail
        all_goals first | (exfalso; omega) | skip
        go_ret
        exact ⟨v, rfl, hv.out, mkI⟩
end Go.Proofs.YtdebpdjkkblcfaaGreatDoor
