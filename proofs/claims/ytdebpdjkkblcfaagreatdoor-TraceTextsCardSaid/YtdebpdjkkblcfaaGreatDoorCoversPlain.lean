/- The prefixes that cover a range: they follow one another, no two neighbours are one prefix, there are at most 62: plain lists, no program in sight. -/
import Derived.Test.YtdebpdjkkblcfaaGreatDoorCover
namespace Go.Ab
theorem sz_half (n : Int) (h0 : 1 ≤ n) (h : n ≤ 32) : sz (n - 1) = 2 * sz n := by
  unfold sz
  rw [show (32 - (n - 1)).toNat = (32 - n).toNat + 1 by omega, Int.pow_succ, Int.mul_comm]
theorem sz_pow {n : Int} (h0 : 0 ≤ n) (h : n ≤ 32) : ∃ k : Nat, (k : Int) + n = 32 ∧ sz n = (2 : Int) ^ k := ⟨(32 - n).toNat, by omega, rfl⟩
theorem cnFrom_min (a b : Int) : ∀ (f : Nat) (n m : Int), n ≤ m → m < cnFrom a b f n → fitsB a b m = false
  | 0, n, m, h1, h2 => by simp [cnFrom] at h2; omega
  | f + 1, n, m, h1, h2 => by
    rw [cnFrom] at h2
    split at h2
    · omega
    · rename_i hf
      by_cases e : n = m
      · subst e; simpa using hf
      · exact cnFrom_min a b f (n + 1) m (by omega) h2
/-- No wider prefix fits. -/
theorem cn_min (a b m : Int) (h0 : 0 ≤ m) (h : m < cn a b) : fitsB a b m = false := cnFrom_min a b 32 0 m h0 h
theorem fits_mk {a b n : Int} (h1 : a % sz n = 0) (h2 : a + (sz n - 1) ≤ b) : fitsB a b n = true := by unfold fitsB; simp [h1, h2]
theorem emod_zero_dvd {a b c : Int} (h : a % b = 0) (hd : c ∣ b) : a % c = 0 := Int.emod_eq_zero_of_dvd (Int.dvd_trans hd (Int.dvd_of_emod_eq_zero h))
theorem pow_dvd {j k : Nat} (h : j ≤ k) : (2 : Int) ^ j ∣ 2 ^ k := ⟨2 ^ (k - j), by rw [← Int.pow_add, show j + (k - j) = k by omega]⟩
theorem pow_pos (k : Nat) : (0 : Int) < 2 ^ k := Int.pow_pos (by decide)
theorem pow_lt_of {j k : Nat} (h : (2 : Int) ^ j < 2 ^ k) : j < k := by
  rcases Nat.lt_or_ge j k with h1 | h1
  · exact h1
  · have h2 := Nat.pow_le_pow_right (n := 2) (by decide) h1
    have : ((2 ^ k : Nat) : Int) ≤ ((2 ^ j : Nat) : Int) := by exact_mod_cast h2
    simp at this; omega
theorem coverL_none (b : Int) (f : Nat) (a : Int) : (coverFrom b f a).length = 0 ∨ 0 < (coverFrom b f a).length := by omega
/-- Near the end: a range shorter than the block of numbers at whose beginning it stands. -/
theorem cover_end (b : Int) : ∀ (f : Nat) (a : Int) (j : Nat), 0 ≤ a → a ≤ b → j ≤ 32 → a % 2 ^ j = 0 → b - a + 1 < 2 ^ j → (coverFrom b f a).length ≤ j
  | 0, _, _, _, _, _, _, _ => by simp [coverFrom]
  | f + 1, a, j, h0, hab, hj, hd, hm => by
    obtain ⟨hf, c0, c1⟩ := cn_spec a b hab
    obtain ⟨f1, f2⟩ := fits_parts hf
    obtain ⟨k, hk, hs⟩ := sz_pow c0 c1
    have hkj : k < j := pow_lt_of (by rw [hs] at f2; omega)
    have hl : lastOf a b = a + (2 ^ k - 1) := by unfold lastOf; rw [hs]
    rw [coverFrom]
    split
    · simp; omega
    · rename_i hne
      have hp := pow_pos k
      have hmin := cn_min a b (cn a b - 1) (by omega) (by omega)
      have hh := sz_half (cn a b) (by omega) c1
      have hd2 : a % sz (cn a b - 1) = 0 := by
        rw [hh, hs, ← Int.mul_comm, ← Int.pow_succ]
        exact emod_zero_dvd hd (pow_dvd (by omega))
      have hgt : ¬ a + (sz (cn a b - 1) - 1) ≤ b := fun h => by rw [fits_mk hd2 h] at hmin; cases hmin
      rw [hh, hs] at hgt
      rw [hs] at f2
      have ih := cover_end b f (lastOf a b + 1) k (by omega) (by omega) (by omega) (by
        rw [hl, show a + (2 ^ k - 1) + 1 = a + (2 : Int) ^ k by omega, Int.add_emod_right]
        rw [hs] at f1; exact f1) (by rw [hl]; omega)
      rw [List.length_cons]; omega
theorem dvd_small {a : Int} {j : Nat} (h0 : 0 < a) (h1 : a < 4294967296) (hd : a % 2 ^ j = 0) : j ≤ 31 := by
  have h2 := Int.le_of_dvd h0 (Int.dvd_of_emod_eq_zero hd)
  have : j < 32 := pow_lt_of (by have : (2 : Int) ^ 32 = 4294967296 := by decide
                                 omega)
  omega
/-- There are at most 62 prefixes (62 - j if 2^j divides the first address). -/
theorem cover_62 (b : Int) (hb : b < 4294967296) : ∀ (f : Nat) (a : Int) (j : Nat), 0 < a → a ≤ b → a % 2 ^ j = 0 → (coverFrom b f a).length + j ≤ 62
  | 0, a, j, h0, hab, hd => by have := dvd_small h0 (by omega) hd; simp [coverFrom]; omega
  | f + 1, a, j, h0, hab, hd => by
    have hj := dvd_small h0 (by omega) hd
    obtain ⟨hf, c0, c1⟩ := cn_spec a b hab
    obtain ⟨f1, f2⟩ := fits_parts hf
    obtain ⟨k, hk, hs⟩ := sz_pow c0 c1
    have hp := pow_pos k
    have hl : lastOf a b = a + (2 ^ k - 1) := by unfold lastOf; rw [hs]
    rw [hs] at f1 f2
    have hk31 := dvd_small h0 (by omega) f1
    have hmin := cn_min a b (cn a b - 1) (by omega) (by omega)
    have hh := sz_half (cn a b) (by omega) c1
    rw [hs] at hh
    by_cases hd2 : a % 2 ^ (k + 1) = 0
    · have hk1 := dvd_small h0 (by omega) hd2
      have hd3 : a % sz (cn a b - 1) = 0 := by rw [hh, ← Int.mul_comm, ← Int.pow_succ]; exact hd2
      have hgt : ¬ a + (sz (cn a b - 1) - 1) ≤ b := fun h => by rw [fits_mk hd3 h] at hmin; cases hmin
      rw [hh] at hgt
      have := cover_end b (f + 1) a (k + 1) (by omega) hab (by omega) hd2 (by rw [Int.pow_succ]; omega)
      omega
    · have hjk : j ≤ k := by
        rcases Nat.lt_or_ge k j with h | h
        · exact absurd (emod_zero_dvd hd (pow_dvd h)) hd2
        · exact h
      rw [coverFrom]
      split
      · simp; omega
      · rename_i hne
        have hd4 : (lastOf a b + 1) % 2 ^ (k + 1) = 0 := by
          rw [hl, show a + (2 ^ k - 1) + 1 = a + (2 : Int) ^ k by omega]
          obtain ⟨q, hq⟩ := Int.dvd_of_emod_eq_zero f1
          have hodd : q % 2 = 1 := by
            rcases Int.emod_two_eq q with h | h
            · exfalso
              obtain ⟨r, hr⟩ := Int.dvd_of_emod_eq_zero h
              exact hd2 (Int.emod_eq_zero_of_dvd ⟨r, by rw [hq, hr, Int.pow_succ, Int.mul_assoc]⟩)
            · exact h
          have : a + (2 : Int) ^ k = 2 ^ (k + 1) * (q / 2 + 1) := by
            have e : q = 2 * (q / 2) + 1 := by omega
            rw [hq, Int.pow_succ]
            conv => lhs; rw [e]
            rw [Int.mul_add, Int.mul_add, Int.mul_assoc, Int.mul_one, Int.mul_one]
            omega
          rw [this]; exact Int.mul_emod_right _ _
        have := cover_62 b hb f (lastOf a b + 1) (k + 1) (by omega) (by omega) hd4
        rw [List.length_cons]; omega
theorem coverL_62 (a b : Int) (h0 : 0 ≤ a) (hab : a ≤ b) (hb : b < 4294967296) : (coverL a b).length ≤ 62 := by
  by_cases e : a = 0
  · subst e
    by_cases hw : b = 4294967295
    · subst hw
      have : cn 0 4294967295 = 0 := cnFrom_yes _ _ _ _ (by decide)
      rw [coverL_step 0 _ hab]
      have hl : lastOf 0 4294967295 = 4294967295 := by unfold lastOf; rw [this]; decide
      rw [if_pos hl]; simp
    · have := cover_end b ((b - 0).toNat + 1) 0 32 (by omega) hab (by omega) (by omega) (by
        have : (2 : Int) ^ 32 = 4294967296 := by decide
        omega)
      unfold coverL; omega
  · have := cover_62 b hb ((b - a).toNat + 1) a 0 (by omega) hab (by simp [Int.emod_one])
    unfold coverL; omega

/-- The number behind the first i prefixes. -/
def nx (a : Int) (l : List (Int × Int)) : Nat → Int
  | 0 => a
  | i + 1 => match l[i]? with | some p => p.1 + sz p.2 | none => 0
/-- What is said of each prefix of a cover: it begins where the one before ends, it is the widest one. -/
structure Steps (a b : Int) (l : List (Int × Int)) : Prop where
  at_ : ∀ i p, l[i]? = some p → p.1 = nx a l i ∧ a ≤ p.1 ∧ p.1 ≤ b ∧ p.2 = cn p.1 b
  ends : nx a l l.length = b + 1
theorem steps_from (b : Int) : ∀ (f : Nat) (a : Int), a ≤ b → (b - a).toNat < f → Steps a b (coverFrom b f a)
  | 0, a, h, hf => by omega
  | f + 1, a, h, hf => by
    have hlast := last_bd a b h
    have he : lastOf a b = a + (sz (cn a b) - 1) := rfl
    rw [coverFrom]
    split
    · rename_i hl
      refine ⟨fun i p hp => ?_, ?_⟩
      · rcases i with _ | i
        · simp at hp; subst hp; exact ⟨rfl, Int.le_refl _, h, rfl⟩
        · simp at hp
      · show nx a [(a, cn a b)] 1 = b + 1
        simp [nx]; omega
    · rename_i hl
      have hs := sz_pos (cn a b)
      have ih := steps_from b f (lastOf a b + 1) (by omega) (by omega)
      have hnx : ∀ i, nx a ((a, cn a b) :: coverFrom b f (lastOf a b + 1)) (i + 1) = nx (lastOf a b + 1) (coverFrom b f (lastOf a b + 1)) i := by
        intro i
        rcases i with _ | i
        · simp [nx]; omega
        · simp [nx]
      refine ⟨fun i p hp => ?_, ?_⟩
      · rcases i with _ | i
        · simp at hp; subst hp; exact ⟨rfl, Int.le_refl _, h, rfl⟩
        · simp only [List.getElem?_cons_succ] at hp
          obtain ⟨i1, i2, i3, i4⟩ := ih.at_ i p hp
          exact ⟨by rw [hnx]; exact i1, by omega, i3, i4⟩
      · rw [List.length_cons, hnx]; exact ih.ends
theorem steps (a b : Int) (h : a ≤ b) : Steps a b (coverL a b) := steps_from b _ a h (by omega)
theorem hasB_iff {a n x : Int} (hr : rightB a n = true) : hasB a n x = decide (a ≤ x ∧ x ≤ a + (sz n - 1)) := by
  have hd : a % sz n = 0 := by simp [rightB] at hr; exact hr.2
  have hs := sz_pos n
  unfold hasB
  rw [hr, Bool.true_and, Bool.eq_iff_iff]
  simp only [beq_iff_eq, decide_eq_true_eq]
  obtain ⟨q, hq⟩ := Int.dvd_of_emod_eq_zero hd
  constructor
  · intro h
    have := Int.emod_lt_of_pos x (show 0 < sz n by omega)
    have := Int.emod_nonneg x (show sz n ≠ 0 by omega)
    omega
  · rintro ⟨h1, h2⟩
    have : x % sz n = x - a := by
      have e : x = (x - a) + sz n * q := by omega
      rw [e, Int.add_mul_emod_self_left]
      have : (x - a) + sz n * q - a = x - a := by omega
      rw [Int.emod_eq_of_lt (by omega) (by omega)]; omega
    omega
/-- Two neighbours of one length are not together one prefix. -/
theorem not_one {a b : Int} (h : a ≤ b) (hn : cn (a + sz (cn a b)) b = cn a b) (h2 : a + sz (cn a b) ≤ b) (h1 : 1 ≤ cn a b) :
    insideB a (cn a b) ((a + sz (cn a b)) - (a + sz (cn a b)) % sz (cn a b - 1)) (cn a b - 1) = false := by
  obtain ⟨hf, c0, c1⟩ := cn_spec a b h
  obtain ⟨f1, f2⟩ := fits_parts hf
  obtain ⟨hg, _, _⟩ := cn_spec (a + sz (cn a b)) b h2
  rw [hn] at hg
  obtain ⟨g1, g2⟩ := fits_parts hg
  have hmin := cn_min a b (cn a b - 1) (by omega) (by omega)
  have hh := sz_half (cn a b) h1 c1
  have hs := sz_pos (cn a b)
  cases hi : insideB a (cn a b) ((a + sz (cn a b)) - (a + sz (cn a b)) % sz (cn a b - 1)) (cn a b - 1)
  · rfl
  · exfalso
    unfold insideB hasB at hi
    simp only [Bool.and_eq_true, beq_iff_eq] at hi
    obtain ⟨_, _, hi⟩ := hi
    rw [hh] at hi
    have hgt : a % (2 * sz (cn a b)) = 0 → False := fun hd => by
      have := fits_mk (a := a) (b := b) (n := cn a b - 1) (by rw [hh]; exact hd) (by rw [hh]; omega)
      rw [this] at hmin; cases hmin
    apply hgt
    clear hgt
    generalize sz (cn a b) = s at *
    have m1 := Int.emod_nonneg a (show 2 * s ≠ 0 by omega)
    have m2 := Int.emod_lt_of_pos a (show 0 < 2 * s by omega)
    have n1 := Int.emod_nonneg (a + s) (show 2 * s ≠ 0 by omega)
    have n2 := Int.emod_lt_of_pos (a + s) (show 0 < 2 * s by omega)
    have e1 := Int.mul_ediv_add_emod a (2 * s)
    obtain ⟨q, hq⟩ := Int.dvd_of_emod_eq_zero f1
    -- a % (2 s) is 0 or s
    rcases Int.emod_two_eq q with hq2 | hq2
    · obtain ⟨r, hr⟩ := Int.dvd_of_emod_eq_zero hq2
      exact Int.emod_eq_zero_of_dvd ⟨r, by rw [hq, hr, ← Int.mul_assoc, Int.mul_comm s 2]⟩
    · exfalso
      have e : q = 2 * (q / 2) + 1 := by omega
      have ha : a = s + 2 * s * (q / 2) := by
        rw [hq]
        conv => lhs; rw [e]
        rw [Int.mul_add, Int.mul_one, ← Int.mul_assoc, Int.mul_comm s 2]; omega
      have m3 : a % (2 * s) = s := by rw [ha, Int.add_mul_emod_self_left]; exact Int.emod_eq_of_lt (by omega) (by omega)
      have m4 : (a + s) % (2 * s) = 0 := by
        rw [ha, show s + 2 * s * (q / 2) + s = 0 + 2 * s * (q / 2 + 1) by rw [Int.mul_add, Int.mul_one]; omega, Int.add_mul_emod_self_left]; simp
      omega
end Go.Ab
