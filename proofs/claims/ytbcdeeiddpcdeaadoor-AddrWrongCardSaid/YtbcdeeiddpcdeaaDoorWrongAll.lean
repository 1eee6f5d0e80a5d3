/- The law of wrong prefixes and ranges: the walk of AddrWrong. -/
import Derived.Test.YtbcdeeiddpcdeaaDoorAwake
import Derived.Test.YtbcdeeiddpcdeaaDoorNestPlain
namespace Go.Ab
theorem or_pow (c N K : Int) (c0 : 0 ≤ c) (c1 : c < 4294967296) (N0 : 0 ≤ N) (hc : c % sz N = 0) (K0 : 0 ≤ K) (K1 : K < 32 - N) :
    bits .or .u32 c (2 ^ K.toNat % 4294967296) = c + 2 ^ K.toNat ∧ c + 2 ^ K.toNat < 4294967296 ∧ (c + 2 ^ K.toNat) % sz N ≠ 0 := by
  obtain ⟨k, hk, hk2, h⟩ := sz_nat N
  obtain ⟨m, rfl⟩ := Int.eq_ofNat_of_zero_le c0
  obtain ⟨j, rfl⟩ := Int.eq_ofNat_of_zero_le K0
  simp only [Int.toNat_natCast]
  have hjk : j < k := by omega
  have hlt : 2 ^ j < 2 ^ k := Nat.pow_lt_pow_right (by decide) hjk
  have hle : 2 ^ k ≤ 2 ^ 32 := Nat.pow_le_pow_right (by decide) (by omega)
  have hj0 := Nat.two_pow_pos j
  have e : ((2 : Int) ^ j) = ((2 ^ j : Nat) : Int) := by first | exact (Int.natCast_pow 2 j).symm | simp
  have hd : m % 2 ^ k = 0 := by rw [h] at hc; exact_mod_cast hc
  have hm : m < 2 ^ 32 := by omega
  obtain ⟨q, hq⟩ : ∃ q, m = 2 ^ k * q := ⟨m / 2 ^ k, by have := Nat.div_add_mod m (2 ^ k); omega⟩
  have hsum : m + 2 ^ j < 4294967296 := by
    obtain ⟨r, hr⟩ : ∃ r, 2 ^ 32 = 2 ^ k * r := ⟨2 ^ (32 - k), by rw [← Nat.pow_add]; congr 1; omega⟩
    have hqr : q < r := by
      rw [hq, hr] at hm
      exact Nat.lt_of_mul_lt_mul_left hm
    have : 2 ^ k * (q + 1) ≤ 2 ^ k * r := Nat.mul_le_mul_left _ hqr
    rw [Nat.mul_add] at this
    omega
  have hmod : (m + 2 ^ j) % 2 ^ k = 2 ^ j := by
    rw [hq, Nat.mul_add_mod, Nat.mod_eq_of_lt hlt]
  refine ⟨?_, by rw [e]; omega, ?_⟩
  · rw [e, show ((2 ^ j : Nat) : Int) % 4294967296 = ((2 ^ j : Nat) : Int) by omega, u32_or_nat m _ (by omega) (by omega), nat_join k m _ hd hlt]
    omega
  · rw [e, h]
    intro hh
    have : (m + 2 ^ j) % 2 ^ k = 0 := by exact_mod_cast hh
    omega
theorem has_wrong {p l : Int} (x : Int) (h : rightB p l = false) : hasB p l x = false := by unfold hasB; rw [h]; rfl
theorem inside_wrong {p l : Int} (q k : Int) (h : rightB p l = false) : insideB p l q k = false := by unfold insideB; rw [h]; rfl
theorem inside_in_wrong {p l : Int} (q k : Int) (h : rightB p l = false) : insideB q k p l = false := by unfold insideB; rw [has_wrong _ h]; simp
theorem meet_wrong {p l : Int} (q k : Int) (h : rightB p l = false) : meetB p l q k = false := by unfold meetB; rw [inside_wrong _ _ h, inside_in_wrong _ _ h]; rfl
theorem meet_wrong' {p l : Int} (q k : Int) (h : rightB p l = false) : meetB q k p l = false := by unfold meetB; rw [inside_wrong _ _ h, inside_in_wrong _ _ h]; rfl
end Go.Ab
namespace Go.Proofs.YtbcdeeiddpcdeaaDoor
open Go.RowKit Go.Ab
theorem prefixText_wrong (a n : Int) (w : World) (g : Good w) (h0 : 0 ≤ n) (hn : n < 256) (a0 : 0 ≤ a) (a1 : a < 4294967296) (h : rightB a n = false) :
    Gives Tryd.prog 19 #[.agg #[.int .u32 a, .int .u8 n]] w (.tuple #[.string ⟨#[]⟩, .int .i64 31]) := (prefixText_any a n w g h0 hn a0 a1).cast (by rw [h]; rfl)
theorem bounds_wrong (a n : Int) (w : World) (h0 : 0 ≤ n) (a0 : 0 ≤ a) (a1 : a < 4294967296) (h : rightB a n = false) :
    Gives Tryd.prog 12 #[.agg #[.int .u32 a, .int .u8 n]] w (.tuple #[.int .u32 0, .int .u32 0, .int .i64 31]) := (bounds_any a n w h0 a0 a1).cast (by rw [h]; rfl)
theorem rangeText_wrong (p q : Int) (w : World) (g : Good w) (p0 : 0 ≤ p) (p1 : p < 65536) (q0 : 0 ≤ q) (q1 : q < 65536) (h : q < p) :
    Gives Tryd.prog 20 #[.agg #[.int .u16 p, .int .u16 q]] w (.tuple #[.string ⟨#[]⟩, .int .i64 32]) := (rangeText_any p q w g p0 p1 q0 q1).cast (by rw [if_neg (by omega)])
theorem rightRange_wrong (p q : Int) (w : World) (h : q < p) : Gives Tryd.prog 21 #[.agg #[.int .u16 p, .int .u16 q]] w (.bool false) := (rightRange_any p q w).cast (by simp; omega)
theorem in_wrong (p q x : Int) (w : World) (h : q < p) : Gives Tryd.prog 22 #[.agg #[.int .u16 p, .int .u16 q], .int .u16 x] w (.bool false) := (in_any p q x w).cast (by congr 1; simp; omega)

set_option maxRecDepth 20000 in
set_option maxHeartbeats 8000000 in
theorem wrong_walk (a n b f t N c bad : Int) (w : World) (g : Good w) (a0 : 0 ≤ a) (a1 : a < 4294967296) (b0 : 0 ≤ b) (m0 : 0 ≤ n) (m1 : n < 256) (f0 : 0 ≤ f) (f1 : f < 65536) (t0 : 0 ≤ t) (t1 : t < 65536) (N0 : 0 ≤ N) (N1 : N < 32) (hN : Hid (n % 32 = N)) (hc : Hid (a - a % sz N = c)) (hN2 : (32 - N == 0) = false)
    (c0 : 0 ≤ c) (c1 : c < 4294967296) (hbad : Hid (bits .or .u32 c (2 ^ (b % (32 - n % 32)).toNat % 4294967296) = bad)) (bad0 : 0 ≤ bad) (bad1 : bad < 4294967296) (hw1 : Hid (rightB bad N = false)) (hw2 : Hid (rightB a (max n 33) = false)) :
    Gives Tryd.prog 6 #[.int .u32 a, .int .u8 n, .int .u8 b, .int .u16 f, .int .u16 t] w (.bool true) := by
  unfold Gives
  go_enter Tryd.func6, Tryd.ntmps6
  go_wp2_with fail
  refine (awake_any _ (g.up (by repeat (with_reducible first | exact Up.refl _ | refine Up.ext ?_ _ | refine Up.drew ?_ | refine Up.alloc ?_ _ | refine Up.setCell ?_ (by simp) _)))).mono ?_
  rintro e w' ⟨rfl, x1, rfl⟩
  go_wp2_with fail
  rw [hN.out]
  refine ((cut_any a N _ N0 (by omega) a0 a1).cast (by rw [hc.out])).mono ?_
  rintro e w' ⟨rfl, x2, rfl⟩
  go_wp2_with fail
  have hN3 : (32 - n % 32 == 0) = false := by rw [hN.out]; exact hN2
  have h5 : 0 ≤ b % (32 - n % 32) := by have := hN.out; exact Int.emod_nonneg _ (by omega)
  have h6 : b % (32 - n % 32) < 32 := by have := hN.out; have := Int.emod_lt_of_pos b (show 0 < 32 - n % 32 by omega); omega
  have h7 : ¬ (b % (32 - n % 32) < 0) := by omega
  have h8 : decide (b % (32 - n % 32) < 0) = false := by simp; omega
  go_region
  go_wp2_with fail
  rw [hbad.out]
  clear h5 h6 h7 h8 hN3
  have gx : Good x2.w := g.up (by repeat (with_reducible first | exact Up.refl _ | refine Up.ext ?_ _ | refine Up.drew ?_ | refine Up.alloc ?_ _ | refine Up.setCell ?_ (by simp) _))
  have hup2 : Up w x2.w := (by repeat (with_reducible first | exact Up.refl _ | refine Up.ext ?_ _ | refine Up.drew ?_ | refine Up.alloc ?_ _ | refine Up.setCell ?_ (by simp) _))
  generalize x2.w = wo at gx hup2 ⊢
  clear x2 x1
  go_loopw [56] (fun i wr => ∃ (k : Nat) (i' : Int), k ≤ 2 ∧ i = .int .i64 i' ∧ Hid (i' = k) ∧ ∃ x : Ext ((((wo.alloc (.cells #[.int .u32 c, .int .u8 N] 30)).alloc (.cells #[.int .u32 bad, .int .u8 N] 30)).alloc (.cells #[.int .u32 a, .int .u8 (max n 33)] 30)).alloc (.cells #[.int .u32 bad, .int .u8 N, .int .u32 a, .int .u8 (max n 33)] 30)), wr = x.w) (fun i _ => 2 - (intOf i).toNat)
  case atStart => exact ⟨0, 0, by omega, rfl, rfl, (Up.drew (Up.refl _)).mk⟩
  case round =>
    obtain ⟨k, i', hk4, rfl, hi, x, rfl⟩ := hrel
    have r0 : wo.heap.size < x.w.heap.size := x.lt (by simp; omega)
    have r3 : wo.heap.size + 1 + 1 + 1 < x.w.heap.size := x.lt (by simp)
    rcases (by omega : k = 0 ∨ k = 1 ∨ k = 2) with rfl | rfl | rfl
    · obtain rfl : i' = 0 := by have := hi.out; omega
      clear hi
      go_wp2_with fail
      refine (prefixText_wrong bad N _ (gx.up (by repeat (with_reducible first | exact Up.refl _ | refine Up.ext ?_ _ | refine Up.drew ?_ | refine Up.alloc ?_ _ | refine Up.setCell ?_ (by simp) _))) N0 (by omega) bad0 bad1 hw1.out).mono ?_
      rintro e w' ⟨rfl, y0, rfl⟩
      have s0 : x.w.heap.size < y0.w.heap.size := y0.lt (by simp)
      have u0 : wo.heap.size < y0.w.heap.size := y0.lt (by simp; omega)
      go_wp2_with fail
      refine (bounds_wrong bad N _ N0 bad0 bad1 hw1.out).mono ?_
      rintro e w' ⟨rfl, y1, rfl⟩
      have s1 := y1.lt s0
      have u1 := y1.lt u0
      go_wp2_with fail
      refine ((right_any bad N _ N0 bad0 bad1).cast (by rw [hw1.out])).mono ?_
      rintro e w' ⟨rfl, y2, rfl⟩
      have s2 := y2.lt s1
      have u2 := y2.lt u1
      go_wp2_with fail
      refine ((has_any bad N bad _ N0 bad0 bad1 bad0 bad1).cast (by rw [has_wrong _ hw1.out])).mono ?_
      rintro e w' ⟨rfl, y3, rfl⟩
      have s3 := y3.lt s2
      have u3 := y3.lt u2
      go_wp2_with fail
      refine ((inside_any bad N c N _ N0 bad0 bad1 N0 c0 c1).cast (by rw [inside_wrong _ _ hw1.out])).mono ?_
      rintro e w' ⟨rfl, y4, rfl⟩
      have s4 := y4.lt s3
      have u4 := y4.lt u3
      go_wp2_with fail
      refine ((inside_any c N bad N _ N0 c0 c1 N0 bad0 bad1).cast (by rw [inside_in_wrong _ _ hw1.out])).mono ?_
      rintro e w' ⟨rfl, y5, rfl⟩
      have s5 := y5.lt s4
      have u5 := y5.lt u4
      go_wp2_with fail
      refine ((inside_any bad N bad N _ N0 bad0 bad1 N0 bad0 bad1).cast (by rw [inside_wrong _ _ hw1.out])).mono ?_
      rintro e w' ⟨rfl, y6, rfl⟩
      have s6 := y6.lt s5
      have u6 := y6.lt u5
      go_wp2_with fail
      refine ((meet_any bad N c N _ N0 bad0 bad1 N0 c0 c1).cast (by rw [meet_wrong _ _ hw1.out])).mono ?_
      rintro e w' ⟨rfl, y7, rfl⟩
      have s7 := y7.lt s6
      have u7 := y7.lt u6
      go_wp2_with fail
      refine ((meet_any c N bad N _ N0 c0 c1 N0 bad0 bad1).cast (by rw [meet_wrong' _ _ hw1.out])).mono ?_
      rintro e w' ⟨rfl, y8, rfl⟩
      have s8 := y8.lt s7
      have u8 := y8.lt u7
      go_wp2_with fail
      refine ((meet_any bad N bad N _ N0 bad0 bad1 N0 bad0 bad1).cast (by rw [meet_wrong _ _ hw1.out])).mono ?_
      rintro e w' ⟨rfl, y9, rfl⟩
      have s9 := y9.lt s8
      have u9 := y9.lt u8
      go_wp2_with fail
      go_roundw
      case rel => exact ⟨1, 1, by omega, rfl, rfl, (Up.trans (x.up.alloc _) (by repeat (with_reducible first | exact Up.refl _ | refine Up.ext ?_ _ | refine Up.drew ?_ | refine Up.alloc ?_ _ | refine Up.setCell ?_ (by simp) _))).mk⟩
      case measure => simp [intOf]
    · obtain rfl : i' = 1 := by have := hi.out; omega
      clear hi
      go_wp2_with fail
      refine (prefixText_wrong a (max n 33) _ (gx.up (by repeat (with_reducible first | exact Up.refl _ | refine Up.ext ?_ _ | refine Up.drew ?_ | refine Up.alloc ?_ _ | refine Up.setCell ?_ (by simp) _))) (by omega) (by omega) a0 a1 hw2.out).mono ?_
      rintro e w' ⟨rfl, y0, rfl⟩
      have s0 : x.w.heap.size < y0.w.heap.size := y0.lt (by simp)
      have u0 : wo.heap.size < y0.w.heap.size := y0.lt (by simp; omega)
      go_wp2_with fail
      refine (bounds_wrong a (max n 33) _ (by omega) a0 a1 hw2.out).mono ?_
      rintro e w' ⟨rfl, y1, rfl⟩
      have s1 := y1.lt s0
      have u1 := y1.lt u0
      go_wp2_with fail
      refine ((right_any a (max n 33) _ (by omega) a0 a1).cast (by rw [hw2.out])).mono ?_
      rintro e w' ⟨rfl, y2, rfl⟩
      have s2 := y2.lt s1
      have u2 := y2.lt u1
      go_wp2_with fail
      refine ((has_any a (max n 33) a _ (by omega) a0 a1 a0 a1).cast (by rw [has_wrong _ hw2.out])).mono ?_
      rintro e w' ⟨rfl, y3, rfl⟩
      have s3 := y3.lt s2
      have u3 := y3.lt u2
      go_wp2_with fail
      refine ((inside_any a (max n 33) c N _ (by omega) a0 a1 N0 c0 c1).cast (by rw [inside_wrong _ _ hw2.out])).mono ?_
      rintro e w' ⟨rfl, y4, rfl⟩
      have s4 := y4.lt s3
      have u4 := y4.lt u3
      go_wp2_with fail
      refine ((inside_any c N a (max n 33) _ N0 c0 c1 (by omega) a0 a1).cast (by rw [inside_in_wrong _ _ hw2.out])).mono ?_
      rintro e w' ⟨rfl, y5, rfl⟩
      have s5 := y5.lt s4
      have u5 := y5.lt u4
      go_wp2_with fail
      refine ((inside_any a (max n 33) a (max n 33) _ (by omega) a0 a1 (by omega) a0 a1).cast (by rw [inside_wrong _ _ hw2.out])).mono ?_
      rintro e w' ⟨rfl, y6, rfl⟩
      have s6 := y6.lt s5
      have u6 := y6.lt u5
      go_wp2_with fail
      refine ((meet_any a (max n 33) c N _ (by omega) a0 a1 N0 c0 c1).cast (by rw [meet_wrong _ _ hw2.out])).mono ?_
      rintro e w' ⟨rfl, y7, rfl⟩
      have s7 := y7.lt s6
      have u7 := y7.lt u6
      go_wp2_with fail
      refine ((meet_any c N a (max n 33) _ N0 c0 c1 (by omega) a0 a1).cast (by rw [meet_wrong' _ _ hw2.out])).mono ?_
      rintro e w' ⟨rfl, y8, rfl⟩
      have s8 := y8.lt s7
      have u8 := y8.lt u7
      go_wp2_with fail
      refine ((meet_any a (max n 33) a (max n 33) _ (by omega) a0 a1 (by omega) a0 a1).cast (by rw [meet_wrong _ _ hw2.out])).mono ?_
      rintro e w' ⟨rfl, y9, rfl⟩
      have s9 := y9.lt s8
      have u9 := y9.lt u8
      go_wp2_with fail
      go_roundw
      case rel => exact ⟨2, 2, by omega, rfl, rfl, (Up.trans (x.up.alloc _) (by repeat (with_reducible first | exact Up.refl _ | refine Up.ext ?_ _ | refine Up.drew ?_ | refine Up.alloc ?_ _ | refine Up.setCell ?_ (by simp) _))).mk⟩
      case measure => simp [intOf]
    · obtain rfl : i' = 2 := by have := hi.out; omega
      clear hi
      go_wp2_with fail
      refine (cut_wrong a (max n 33) _ (by omega)).mono ?_
      rintro e w' ⟨rfl, z1, rfl⟩
      by_cases hft : f = t
      · have hft' : (f == t) = true := by simpa using hft
        clear hft
        go_wp2_with fail
        go_ret
        exact ⟨rfl, (hup2.trans (Up.trans (by repeat (with_reducible first | exact Up.refl _ | refine Up.ext ?_ _ | refine Up.drew ?_ | refine Up.alloc ?_ _ | refine Up.setCell ?_ (by simp) _)) (Up.trans x.up (by repeat (with_reducible first | exact Up.refl _ | refine Up.ext ?_ _ | refine Up.drew ?_ | refine Up.alloc ?_ _ | refine Up.setCell ?_ (by simp) _))))).mk⟩
      · have hft' : (f == t) = false := by simpa using hft
        go_wp2_with fail
        refine (rangeText_wrong (max f t) (min f t) _ (gx.up (by repeat (with_reducible first | exact Up.refl _ | refine Up.ext ?_ _ | refine Up.drew ?_ | refine Up.alloc ?_ _ | refine Up.setCell ?_ (by simp) _))) (by omega) (by omega) (by omega) (by omega) (by omega)).mono ?_
        rintro e w' ⟨rfl, z2, rfl⟩
        have v2 : z1.w.heap.size + 1 < z2.w.heap.size := z2.lt (by simp)
        go_wp2_with fail
        refine (rightRange_wrong (max f t) (min f t) _ (by omega)).mono ?_
        rintro e w' ⟨rfl, z3, rfl⟩
        have v3 := z3.lt v2
        go_wp2_with fail
        refine (in_wrong (max f t) (min f t) _ _ (by omega)).mono ?_
        rintro e w' ⟨rfl, z4, rfl⟩
        have v4 := z4.lt v3
        go_wp2_with fail
        refine (in_wrong (max f t) (min f t) _ _ (by omega)).mono ?_
        rintro e w' ⟨rfl, z5, rfl⟩
        have v5 := z5.lt v4
        go_wp2_with fail
        refine (in_wrong (max f t) (min f t) _ _ (by omega)).mono ?_
        rintro e w' ⟨rfl, z6, rfl⟩
        go_wp2_with fail
        go_ret
        exact ⟨rfl, (hup2.trans (Up.trans (by repeat (with_reducible first | exact Up.refl _ | refine Up.ext ?_ _ | refine Up.drew ?_ | refine Up.alloc ?_ _ | refine Up.setCell ?_ (by simp) _)) (Up.trans x.up (by repeat (with_reducible first | exact Up.refl _ | refine Up.ext ?_ _ | refine Up.drew ?_ | refine Up.alloc ?_ _ | refine Up.setCell ?_ (by simp) _))))).mk⟩
theorem wrong_any (a n b f t : Int) (w : World) (g : Good w) (a0 : 0 ≤ a) (a1 : a < 4294967296) (m0 : 0 ≤ n) (m1 : n < 256) (b0 : 0 ≤ b) (_ : b < 256) (f0 : 0 ≤ f) (f1 : f < 65536) (t0 : 0 ≤ t) (t1 : t < 65536) :
    Gives Tryd.prog 6 #[.int .u32 a, .int .u8 n, .int .u8 b, .int .u16 f, .int .u16 t] w (.bool true) := by
  obtain ⟨N, hN⟩ : ∃ N, n % 32 = N := ⟨_, rfl⟩
  have N0 : 0 ≤ N := by omega
  have N1 : N < 32 := by omega
  have hr := right_cut a N (by omega)
  have h := sz_pos N
  have h1 := Int.emod_nonneg a (show sz N ≠ 0 by omega)
  have h2 := Int.emod_add_mul_ediv a (sz N)
  have h3 : 0 ≤ sz N * (a / sz N) := Int.mul_nonneg (by omega) (Int.ediv_nonneg a0 (by omega))
  have c0 : 0 ≤ a - a % sz N := by omega
  have c1 : a - a % sz N < 4294967296 := by omega
  obtain ⟨e1, e2, e3⟩ := or_pow (a - a % sz N) N (b % (32 - n % 32)) c0 c1 N0 (right_mod hr).2 (Int.emod_nonneg _ (by omega)) (by have := Int.emod_lt_of_pos b (show 0 < 32 - n % 32 by omega); omega)
  have hp : (0 : Int) < 2 ^ (b % (32 - n % 32)).toNat := Int.pow_pos (by omega)
  exact wrong_walk a n b f t N _ _ w g a0 a1 b0 m0 m1 f0 f1 t0 t1 N0 N1 hN rfl (by simp; omega) c0 c1 e1 (by omega) e2 (by unfold Hid rightB; simp [e3]) (by unfold Hid rightB; simp; omega)
end Go.Proofs.YtbcdeeiddpcdeaaDoor
