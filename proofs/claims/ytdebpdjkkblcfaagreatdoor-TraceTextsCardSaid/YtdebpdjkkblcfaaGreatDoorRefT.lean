/- The reference's text of an address; prefixes by their bounds. -/
import Derived.Test.YtdebpdjkkblcfaaGreatDoorRef1
import Derived.Test.YtdebpdjkkblcfaaGreatDoorStructEq
import Derived.Test.YtdebpdjkkblcfaaGreatDoorCoversPlain
namespace Go.Ab
open Go.Proofs.YtdebpdjkkblcfaaGreatDoor
theorem refText_eq (a : Int) (a0 : 0 ≤ a) (a1 : a < 4294967296) : dec (a / 16777216) ++ [46] ++ dec (a / 65536 % 256) ++ [46] ++ dec (a / 256 % 256) ++ [46] ++ dec (a % 256) = textL a := by
  have o0 : oct a 0 = a / 16777216 % 256 := rfl
  have o1 : oct a 1 = a / 65536 % 256 := rfl
  have o2 : oct a 2 = a / 256 % 256 := rfl
  have o3 : oct a 3 = a / 1 % 256 := rfl
  unfold textL
  rw [o0, o1, o2, o3, Int.ediv_one, show a / 16777216 % 256 = a / 16777216 by omega]
  simp [Lib.join]
theorem dvd_le_mult {a s b : Int} (hs : 0 < s) (ha : a % s = 0) (hb : b % s = 0) (h : a < b) : a + s ≤ b := by
  obtain ⟨p, rfl⟩ := Int.dvd_of_emod_eq_zero ha
  obtain ⟨q, rfl⟩ := Int.dvd_of_emod_eq_zero hb
  have h1 : p < q := by
    rcases Int.lt_or_le p q with h1 | h1
    · exact h1
    · have := Int.mul_le_mul_of_nonneg_left h1 (Int.le_of_lt hs); omega
  have := Int.mul_le_mul_of_nonneg_left (show p + 1 ≤ q by omega) (Int.le_of_lt hs)
  rw [Int.mul_add, Int.mul_one] at this; omega
theorem sz_dvd {n m : Int} (h0 : 0 ≤ m) (h : m ≤ n) : sz n ∣ sz m := by
  unfold sz; exact pow_dvd (by omega)
theorem sz_lt {n m : Int} (h0 : 0 ≤ n) (h : n < m) (hm : m ≤ 32) : sz m < sz n := by
  have h1 := sz_half m (by omega) hm
  have h2 := sz_pos m
  have h3 := Int.le_of_dvd (by have := sz_pos n; omega) (sz_dvd (n := m - 1) (m := n) h0 (by omega))
  omega
theorem right_parts {a n : Int} (h : rightB a n = true) : n ≤ 32 ∧ a % sz n = 0 := by simpa [rightB] using h
theorem ref_inside {a n b m : Int} (n0 : 0 ≤ n) (m0 : 0 ≤ m) (h : rightB a n = true) : (hasB b m a && hasB b m (a + (sz n - 1))) = insideB a n b m := by
  unfold insideB
  rw [h, Bool.true_and]
  cases hb : rightB b m
  · have : ∀ x, hasB b m x = false := fun x => by unfold hasB; rw [hb]; rfl
    rw [this, this]; simp
  · obtain ⟨hn, ha⟩ := right_parts h
    obtain ⟨hm, hbm⟩ := right_parts hb
    have hs := sz_pos n; have ht := sz_pos m
    rw [hasB_iff hb, hasB_iff hb, Bool.eq_iff_iff]
    simp only [Bool.and_eq_true, decide_eq_true_eq]
    constructor
    · rintro ⟨⟨h1, h2⟩, h3, h4⟩
      refine ⟨?_, h1, h2⟩
      rcases Int.lt_or_le n m with hlt | hle
      · have := sz_lt n0 hlt hm; omega
      · exact hle
    · rintro ⟨hle, h1, h2⟩
      refine ⟨⟨h1, h2⟩, by omega, ?_⟩
      have hd := sz_dvd m0 hle
      have hb2 : (b + sz m) % sz n = 0 := Int.emod_eq_zero_of_dvd (Int.dvd_add (Int.dvd_trans hd (Int.dvd_of_emod_eq_zero hbm)) hd)
      have := dvd_le_mult (by omega) ha hb2 (by omega)
      omega
theorem ref_meet {a n b m : Int} (n0 : 0 ≤ n) (m0 : 0 ≤ m) (h : rightB a n = true) (hb : rightB b m = true) : (decide (a ≤ b + (sz m - 1)) && decide (b ≤ a + (sz n - 1))) = meetB a n b m := by
  unfold meetB insideB
  rw [h, hb, Bool.true_and, Bool.true_and, hasB_iff hb, hasB_iff h, Bool.eq_iff_iff]
  simp only [Bool.and_eq_true, Bool.or_eq_true, decide_eq_true_eq]
  obtain ⟨hn, ha⟩ := right_parts h
  obtain ⟨hm, hbm⟩ := right_parts hb
  have hs := sz_pos n; have ht := sz_pos m
  constructor
  · rintro ⟨h1, h2⟩
    rcases Int.le_total m n with hle | hle
    · left
      refine ⟨hle, ?_, h1⟩
      rcases Int.lt_or_le a b with hlt | hge
      · have := dvd_le_mult (by omega) ha (Int.emod_eq_zero_of_dvd (Int.dvd_trans (sz_dvd m0 hle) (Int.dvd_of_emod_eq_zero hbm))) hlt; omega
      · exact hge
    · right
      refine ⟨hle, ?_, h2⟩
      rcases Int.lt_or_le b a with hlt | hge
      · have := dvd_le_mult (by omega) hbm (Int.emod_eq_zero_of_dvd (Int.dvd_trans (sz_dvd n0 hle) (Int.dvd_of_emod_eq_zero ha))) hlt; omega
      · exact hge
  · rintro (⟨_, h1, h2⟩ | ⟨_, h1, h2⟩) <;> omega
end Go.Ab
namespace Go.Proofs.YtdebpdjkkblcfaaGreatDoor
open Go.RowKit Go.Ab
attribute [local go_sem high] eq_key
set_option maxHeartbeats 4000000 in
set_option maxRecDepth 100000 in
theorem refText_any (a : Int) (w : World) (a0 : 0 ≤ a) (a1 : a < 4294967296) : Gives Tryz.prog 59 #[.int .i64 a] w (.string ⟨(textL a).toArray⟩) := by
  have l1 := dec_length (a / 16777216) (by omega) (by omega)
  have l2 := dec_length (a / 65536 % 256) (by omega) (by omega)
  have l3 := dec_length (a / 256 % 256) (by omega) (by omega)
  have l4 := dec_length (a % 256) (by omega) (by omega)
  unfold Gives
  go_enter Tryz.func59, Tryz.ntmps59
  go_wp2_with (go_at_call 58; refine (refDecimal_any _ _ (by omega) (by omega)).mono ?_; rintro e w' ⟨rfl, x, rfl⟩)
  go_ret
  exact ⟨by rw [← refText_eq a a0 a1]; rfl, mkI⟩
end Go.Proofs.YtdebpdjkkblcfaaGreatDoor
