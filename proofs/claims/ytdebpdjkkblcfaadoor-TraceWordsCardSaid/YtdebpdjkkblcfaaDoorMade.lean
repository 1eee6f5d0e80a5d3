/- The laws' own events, out of small numbers. -/
import Derived.Test.YtdebpdjkkblcfaaDoorRing4
import Derived.RegionTactic
import Derived.ChangeAlike
namespace Go.Ab
open Go.RowKit
/-- An event in small numbers. -/
structure Sm where
  a : Int
  sd : Int
  r : Int
  p : Int
  s : Int
  d : Int
  sp : Int
  dp : Int
structure SmB (x : Sm) : Prop where
  a0 : 0 ≤ x.a
  a1 : x.a < 256
  sd0 : 0 ≤ x.sd
  sd1 : x.sd < 256
  r0 : 0 ≤ x.r
  r1 : x.r < 256
  p0 : 0 ≤ x.p
  p1 : x.p < 256
  s0 : 0 ≤ x.s
  s1 : x.s < 4294967296
  d0 : 0 ≤ x.d
  d1 : x.d < 4294967296
  sp0 : 0 ≤ x.sp
  sp1 : x.sp < 65536
  dp0 : 0 ≤ x.dp
  dp1 : x.dp < 65536
def prOf (p : Int) : Int := if p % 3 = 0 then 1 else if p % 3 = 1 then 6 else 17
/-- The event of small numbers at a time. -/
def madeE (now : Int) (x : Sm) : Ev :=
  if 20 ≤ 1 + x.r % 29 then ⟨now + x.a % 4, x.sd % 2, 1 + x.r % 29, prOf x.p, x.s, x.d, x.sp, x.dp⟩ else ⟨now + x.a % 4, x.sd % 2, 1 + x.r % 29, 0, 0, 0, 0, 0⟩
theorem madeE_n (now : Int) (x : Sm) : (madeE now x).n = now + x.a % 4 := by unfold madeE; split <;> rfl
theorem prOf_cases (p : Int) : prOf p = 1 ∨ prOf p = 6 ∨ prOf p = 17 := by
  unfold prOf
  split
  · exact .inl rfl
  · split
    · exact .inr (.inl rfl)
    · exact .inr (.inr rfl)
theorem madeE_b (now : Int) (x : Sm) (hx : SmB x) (h0 : -4611686018427387904 ≤ now) (h1 : now ≤ 4611686018427387904) : EvB (madeE now x) := by
  have := prOf_cases x.p
  unfold madeE
  split
  · exact ⟨by simp only; omega, by simp only; omega, by simp only; omega, by simp only; omega, by simp only; omega, by simp only; omega, ⟨by simp only; omega, by simp only; omega, hx.s0, hx.s1, hx.d0, hx.d1, hx.sp0, hx.sp1, hx.dp0, hx.dp1⟩⟩
  · exact ⟨by simp only; omega, by simp only; omega, by simp only; omega, by simp only; omega, by simp only; omega, by simp only; omega, ⟨by show (0 : Int) ≤ 0; omega, by show (0 : Int) < 256; omega, by show (0 : Int) ≤ 0; omega, by show (0 : Int) < 4294967296; omega, by show (0 : Int) ≤ 0; omega, by show (0 : Int) < 4294967296; omega, by show (0 : Int) ≤ 0; omega, by show (0 : Int) < 65536; omega, by show (0 : Int) ≤ 0; omega, by show (0 : Int) < 65536; omega⟩⟩
theorem madeE_r (now : Int) (x : Sm) (h0 : 0 ≤ now) (h1 : now ≤ 1099511627773) : (madeE now x).right = true := by
  have h2 := prOf_cases x.p
  unfold madeE Ev.right rightEv
  split
  · rename_i h
    simp only
    rw [if_neg (by omega)]
    simp only [Bool.and_eq_true, Bool.or_eq_true, decide_eq_true_eq, beq_iff_eq]
    omega
  · rename_i h
    simp only
    rw [if_pos (by omega)]
    simp only [Bool.and_eq_true, decide_eq_true_eq, beq_iff_eq]
    exact ⟨⟨by omega, by omega⟩, ⟨by omega, by omega, by omega⟩, by simp, by simp, by simp, by simp, by simp⟩
end Go.Ab
namespace Go.Proofs.YtdebpdjkkblcfaaDoor
open Go.RowKit Go.Ab
set_option maxHeartbeats 4000000 in
theorem modulo_any (n by' : Int) (w : World) (h0 : 0 < by') (h1 : by' ≤ 4611686018427387904) :
    Gives Tryd.prog 10 #[.int .i64 n, .int .i64 by'] w (.int .i64 (n % by')) := by
  have b0 : (by' == 0) = false := by simp; omega
  have hne : by' ≠ 0 := by omega
  obtain ⟨m, hm⟩ : ∃ m, n.tmod by' = m := ⟨_, rfl⟩
  have hmb : -by' < m ∧ m < by' := by
    rw [← hm]
    have h2 := Int.tmod_lt_of_pos n h0
    have h3 := Int.lt_tmod_of_pos n h0
    omega
  obtain ⟨m0, m1⟩ := hmb
  have e : (m + by') % by' = n % by' := by
    have h2 := Int.mul_tdiv_add_tmod n by'
    rw [hm] at h2
    rw [← h2, Int.add_emod_right, Int.mul_add_emod_self_left]
  have E := Lib.hid e
  clear e
  unfold Gives
  go_enter Tryd.func10, Tryd.ntmps10
  go_wp2_with fail
  go_ret
  exact ⟨ret_int (by rw [← E.out]), mkI⟩
set_option maxHeartbeats 4000000 in
set_option maxRecDepth 100000 in
theorem made_low (now : Int) (x : Sm) (w : World) (hx : SmB x) (h0 : -4611686018427387904 ≤ now) (h1 : now ≤ 4611686018427387904) (hr : 1 + x.r % 29 < 20) :
    Gives Tryd.prog 11 #[.int .i64 now, .agg #[.int .u8 x.a, .int .u8 x.sd, .int .u8 x.r, .int .u8 x.p, .int .u32 x.s, .int .u32 x.d, .int .u16 x.sp, .int .u16 x.dp]] w
      (.agg #[.int .i64 (now + x.a % 4), .int .u8 (x.sd % 2), .int .u8 (1 + x.r % 29), .int .u8 0, .int .u32 0, .int .u32 0, .int .u16 0, .int .u16 0]) := by
  obtain ⟨a, sd, r, p, s, d, sp, dp⟩ := x
  obtain ⟨a0, a1, sd0, sd1, r0, r1, p0, p1, _, _, _, _, _, _, _, _⟩ := hx
  simp only at hr a0 a1 sd0 sd1 r0 r1 p0 p1 ⊢
  have ha : a.tmod 4 = a % 4 := Int.tmod_eq_emod_of_nonneg a0
  have hsd : sd.tmod 2 = sd % 2 := Int.tmod_eq_emod_of_nonneg sd0
  have hrr : r.tmod 29 = r % 29 := Int.tmod_eq_emod_of_nonneg r0
  have qa : 0 ≤ a % 4 ∧ a % 4 < 4 := by omega
  have qs : 0 ≤ sd % 2 ∧ sd % 2 < 2 := by omega
  have qr : 0 ≤ r % 29 ∧ r % 29 < 29 := by omega
  generalize a % 4 = a' at *
  generalize sd % 2 = sd' at *
  generalize r % 29 = r' at *
  obtain ⟨qa0, qa1⟩ := qa
  obtain ⟨qs0, qs1⟩ := qs
  obtain ⟨qr0, qr1⟩ := qr
  unfold Gives
  go_enter Tryd.func11, Tryd.ntmps11
  go_wp2_with fail
  all_goals first | (exfalso; omega) | skip
  refine bodyPost_ret (v := Value.agg #[.int .i64 (now + a'), .int .u8 sd', .int .u8 (1 + r'), .int .u8 0, .int .u32 0, .int .u32 0, .int .u16 0, .int .u16 0]) (by simp [results, Tryd.results11, go_sem]) rfl ⟨rfl, mkI⟩
set_option maxHeartbeats 8000000 in
set_option maxRecDepth 100000 in
theorem made_high (now : Int) (x : Sm) (w : World) (hx : SmB x) (h0 : -4611686018427387904 ≤ now) (h1 : now ≤ 4611686018427387904) (hr : 20 ≤ 1 + x.r % 29) :
    Gives Tryd.prog 11 #[.int .i64 now, .agg #[.int .u8 x.a, .int .u8 x.sd, .int .u8 x.r, .int .u8 x.p, .int .u32 x.s, .int .u32 x.d, .int .u16 x.sp, .int .u16 x.dp]] w
      (.agg #[.int .i64 (now + x.a % 4), .int .u8 (x.sd % 2), .int .u8 (1 + x.r % 29), .int .u8 (prOf x.p), .int .u32 x.s, .int .u32 x.d, .int .u16 x.sp, .int .u16 x.dp]) := by
  obtain ⟨a, sd, r, p, s, d, sp, dp⟩ := x
  obtain ⟨a0, a1, sd0, sd1, r0, r1, p0, p1, _, _, _, _, _, _, _, _⟩ := hx
  simp only at hr a0 a1 sd0 sd1 r0 r1 p0 p1 ⊢
  have ha : a.tmod 4 = a % 4 := Int.tmod_eq_emod_of_nonneg a0
  have hsd : sd.tmod 2 = sd % 2 := Int.tmod_eq_emod_of_nonneg sd0
  have hrr : r.tmod 29 = r % 29 := Int.tmod_eq_emod_of_nonneg r0
  have qa : 0 ≤ a % 4 ∧ a % 4 < 4 := by omega
  have qs : 0 ≤ sd % 2 ∧ sd % 2 < 2 := by omega
  have qr : 0 ≤ r % 29 ∧ r % 29 < 29 := by omega
  generalize a % 4 = a' at *
  generalize sd % 2 = sd' at *
  generalize r % 29 = r' at *
  obtain ⟨qa0, qa1⟩ := qa
  obtain ⟨qs0, qs1⟩ := qs
  obtain ⟨qr0, qr1⟩ := qr
  have hp : p.tmod 3 = p % 3 := Int.tmod_eq_emod_of_nonneg p0
  unfold Gives
  obtain ⟨k, hk⟩ : ∃ k : Nat, p % 3 = (k : Int) := ⟨(p % 3).toNat, by omega⟩
  have hk3 : k < 3 := by omega
  obtain ⟨c, hc1, hc2⟩ : ∃ c : Int, prOf p = c ∧ ([Value.int .u8 1, .int .u8 6, .int .u8 17] : List Value)[k]? = some (.int .u8 c) := by
    refine ⟨_, rfl, ?_⟩
    rcases (by omega : k = 0 ∨ k = 1 ∨ k = 2) with rfl | rfl | rfl
    · rw [show prOf p = 1 from by unfold prOf; rw [if_pos (by omega)]]; rfl
    · rw [show prOf p = 6 from by unfold prOf; rw [if_neg (by omega), if_pos (by omega)]]; rfl
    · rw [show prOf p = 17 from by unfold prOf; rw [if_neg (by omega), if_neg (by omega)]]; rfl
  rw [hc1]
  rw [hk] at hp
  have kk0 : (0 : Int) ≤ (k : Int) := by omega
  have kk1 : (k : Int) < 3 := by omega
  have hc3 : ∀ h, ([Value.int .u8 1, .int .u8 6, .int .u8 17] : List Value)[k]'h = .int .u8 c := fun h => by rw [List.getElem?_eq_getElem h] at hc2; exact Option.some.inj hc2
  clear hc1 hk hc2
  go_enter Tryd.func11, Tryd.ntmps11
  go_wp2_with fail
  all_goals first | (exfalso; omega) | skip
  go_region
  all_goals go_wp2_with fail
  all_goals refine bodyPost_ret (v := Value.agg #[.int .i64 (now + a'), .int .u8 sd', .int .u8 (1 + r'), .int .u8 c, .int .u32 s, .int .u32 d, .int .u16 sp, .int .u16 dp]) (by simp [results, Tryd.results11, go_sem]) rfl ⟨rfl, mkI⟩
theorem made_any (now : Int) (x : Sm) (w : World) (hx : SmB x) (h0 : -4611686018427387904 ≤ now) (h1 : now ≤ 4611686018427387904) :
    Gives Tryd.prog 11 #[.int .i64 now, .agg #[.int .u8 x.a, .int .u8 x.sd, .int .u8 x.r, .int .u8 x.p, .int .u32 x.s, .int .u32 x.d, .int .u16 x.sp, .int .u16 x.dp]] w (madeE now x).val := by
  by_cases hr : 20 ≤ 1 + x.r % 29
  · exact (made_high now x w hx h0 h1 hr).cast (by unfold madeE Ev.val; rw [if_pos hr])
  · exact (made_low now x w hx h0 h1 (by omega)).cast (by unfold madeE Ev.val; rw [if_neg hr])
end Go.Proofs.YtdebpdjkkblcfaaDoor
