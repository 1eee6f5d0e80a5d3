/- The reference's cover: it halves where no prefix has just the addresses; the same prefixes as the program's. -/
import Derived.Test.YtdiiicnjbgimmaaGreatDoorRef6
import Derived.Laws.AppendOwnNone
import Derived.OwnWalk
namespace Go.Ab
open Go.RowKit
/-- The prefixes of a range within the block of 2^f numbers at a place. -/
def coverR (a b : Int) : Nat → Int → List (Int × Int)
  | 0, x => if x + 2 ^ 0 - 1 < a ∨ b < x then [] else if a ≤ x ∧ x + 2 ^ 0 - 1 ≤ b then [(x, 32 - ((0 : Nat) : Int))] else []
  | f + 1, x => if x + 2 ^ (f + 1) - 1 < a ∨ b < x then [] else if a ≤ x ∧ x + 2 ^ (f + 1) - 1 ≤ b then [(x, 32 - ((f + 1 : Nat) : Int))] else coverR a b f x ++ coverR a b f (x + 2 ^ f)
theorem coverR_no {a b x : Int} {f : Nat} (h : x + 2 ^ f - 1 < a ∨ b < x) : coverR a b f x = [] := by cases f <;> (unfold coverR; rw [if_pos h])
theorem coverR_one {a b x : Int} {f : Nat} (h : ¬ (x + 2 ^ f - 1 < a ∨ b < x)) (h2 : a ≤ x ∧ x + 2 ^ f - 1 ≤ b) : coverR a b f x = [(x, 32 - (f : Int))] := by cases f <;> (unfold coverR; rw [if_neg h, if_pos h2])
theorem coverR_two {a b x : Int} {f : Nat} (h : ¬ (x + 2 ^ (f + 1) - 1 < a ∨ b < x)) (h2 : ¬ (a ≤ x ∧ x + 2 ^ (f + 1) - 1 ≤ b)) : coverR a b (f + 1) x = coverR a b f x ++ coverR a b f (x + 2 ^ f) := by
  rw [coverR]; rw [if_neg h, if_neg h2]
theorem cnFrom_congr {a b b' : Int} : ∀ (f : Nat) (n : Int), (∀ m, n ≤ m → m < n + f → fitsB a b m = fitsB a b' m) → cnFrom a b f n = cnFrom a b' f n
  | 0, _, _ => rfl
  | f + 1, n, h => by
    rw [cnFrom, cnFrom, h n (by omega) (by omega), cnFrom_congr f (n + 1) (fun m h1 h2 => h m (by omega) (by omega))]
theorem coverL_single {a b : Int} (h : a ≤ b) (e : lastOf a b = b) : coverL a b = [(a, cn a b)] := by rw [coverL_step a b h, if_pos e]
/-- A range that is not the whole block is parted at the block's middle. -/
theorem cover_split (x : Int) (f : Nat) (hf : f < 32) (hx : x % 2 ^ (f + 1) = 0) (hi : Int) (h1 : x + 2 ^ f ≤ hi) (h2 : hi ≤ x + 2 ^ (f + 1) - 1) :
    ∀ (k : Nat) (lo : Int), (x + 2 ^ f - lo).toNat ≤ k → x ≤ lo → lo < x + 2 ^ f → ¬ (lo = x ∧ hi = x + 2 ^ (f + 1) - 1) → coverL lo hi = coverL lo (x + 2 ^ f - 1) ++ coverL (x + 2 ^ f) hi
  | 0, lo, hk, h0, hl, _ => by omega
  | k + 1, lo, hk, h0, hl, hw => by
    have hp := pow_pos f
    have hp2 : (2 : Int) ^ (f + 1) = 2 * 2 ^ f := by rw [Int.pow_succ, Int.mul_comm]
    have hm : (x + 2 ^ f) % 2 ^ f = 0 := by
      rw [Int.add_emod_right]; exact emod_zero_dvd hx (pow_dvd (by omega))
    have hfit : ∀ m : Int, 0 ≤ m → m < 32 → fitsB lo hi m = fitsB lo (x + 2 ^ f - 1) m := by
      intro m m0 m1
      obtain ⟨j, hj, hs⟩ := sz_pow m0 (by omega)
      unfold fitsB
      rw [hs]
      by_cases hd : lo % 2 ^ j = 0
      · simp only [hd, beq_self_eq_true, Bool.true_and, decide_eq_decide]
        constructor
        · intro h
          rcases Nat.lt_or_ge f j with hfj | hfj
          · exfalso
            have hd2 : lo % 2 ^ (f + 1) = 0 := emod_zero_dvd hd (pow_dvd (by omega))
            have e : lo = x := by
              rcases Int.lt_or_le x lo with h3 | h3
              · have := dvd_le_mult (pow_pos (f + 1)) hx hd2 h3; omega
              · omega
            have h4 : (2 : Int) ^ (f + 1) ≤ 2 ^ j := Int.le_of_dvd (pow_pos j) (pow_dvd (by omega))
            omega
          · have := dvd_le_mult (b := x + 2 ^ f) (pow_pos j) hd (by exact emod_zero_dvd hm (pow_dvd hfj)) hl
            omega
        · intro h; omega
      · have : (lo % 2 ^ j == 0) = false := by simpa using hd
        rw [this]; simp
    have hcn : cn lo hi = cn lo (x + 2 ^ f - 1) := cnFrom_congr 32 0 (fun m m0 m1 => hfit m m0 (by simpa using m1))
    have hla : lastOf lo hi = lastOf lo (x + 2 ^ f - 1) := by unfold lastOf; rw [hcn]
    have hb := last_bd lo (x + 2 ^ f - 1) (by omega)
    rw [coverL_step lo hi (by omega), coverL_step lo (x + 2 ^ f - 1) (by omega), hcn, hla, if_neg (by omega)]
    split
    · rename_i e
      rw [e, show x + 2 ^ f - 1 + 1 = x + (2 : Int) ^ f by omega]; rfl
    · rename_i e
      rw [List.cons_append, cover_split x f hf hx hi h1 h2 k _ (by omega) (by omega) (by omega) (by omega)]
theorem coverR_eq (a b : Int) : ∀ (f : Nat) (x : Int), f ≤ 32 → x % 2 ^ f = 0 → coverR a b f x = if max a x ≤ min b (x + 2 ^ f - 1) then coverL (max a x) (min b (x + 2 ^ f - 1)) else [] := by
  intro f
  induction f with
  | zero =>
    intro x hf hx
    have hp : (2 : Int) ^ 0 = 1 := by decide
    by_cases h : x + 2 ^ 0 - 1 < a ∨ b < x
    · rw [coverR_no h, if_neg (by omega)]
    · rw [coverR_one h (by omega), if_pos (by omega)]
      have e1 : max a x = x := by omega
      have e2 : min b (x + 2 ^ 0 - 1) = x := by omega
      rw [e1, e2]
      obtain ⟨hft, c0, c1⟩ := cn_spec x x (Int.le_refl x)
      obtain ⟨f1, f2⟩ := fits_parts hft
      have hcn : cn x x = 32 := by
        rcases Int.lt_or_le (cn x x) 32 with h1 | h1
        · have := sz_lt c0 h1 (by omega)
          rw [sz_big 32 (by omega)] at this; omega
        · omega
      have hs := sz_big 32 (by omega)
      rw [coverL_single (Int.le_refl x) (by unfold lastOf; rw [hcn, hs]; omega), hcn]; rfl
  | succ f ih =>
    intro x hf hx
    have hp := pow_pos f
    have hp2 : (2 : Int) ^ (f + 1) = 2 * 2 ^ f := by rw [Int.pow_succ, Int.mul_comm]
    have hx1 : x % 2 ^ f = 0 := emod_zero_dvd hx (pow_dvd (by omega))
    have hx2 : (x + 2 ^ f) % 2 ^ f = 0 := by rw [Int.add_emod_right]; exact hx1
    by_cases h : x + 2 ^ (f + 1) - 1 < a ∨ b < x
    · rw [coverR_no h, if_neg (by omega)]
    · by_cases h2 : a ≤ x ∧ x + 2 ^ (f + 1) - 1 ≤ b
      · rw [coverR_one h h2, if_pos (by omega)]
        have e1 : max a x = x := by omega
        have e2 : min b (x + 2 ^ (f + 1) - 1) = x + 2 ^ (f + 1) - 1 := by omega
        rw [e1, e2]
        have hle : x ≤ x + 2 ^ (f + 1) - 1 := by omega
        have hs : sz (32 - ((f + 1 : Nat) : Int)) = 2 ^ (f + 1) := by unfold sz; congr 1; omega
        have hft : fitsB x (x + 2 ^ (f + 1) - 1) (32 - ((f + 1 : Nat) : Int)) = true := fits_mk (by rw [hs]; exact hx) (by rw [hs]; omega)
        obtain ⟨hft2, c0, c1⟩ := cn_spec x _ hle
        obtain ⟨f1, f2⟩ := fits_parts hft2
        have hcn : cn x (x + 2 ^ (f + 1) - 1) = 32 - ((f + 1 : Nat) : Int) := by
          rcases Int.lt_or_le (cn x (x + 2 ^ (f + 1) - 1)) (32 - ((f + 1 : Nat) : Int)) with h1 | h1
          · have := sz_lt c0 h1 (by omega); rw [hs] at this; omega
          · rcases Int.lt_or_le (32 - ((f + 1 : Nat) : Int)) (cn x (x + 2 ^ (f + 1) - 1)) with h3 | h3
            · have := cn_min x _ _ (by omega) h3; rw [hft] at this; cases this
            · omega
        rw [coverL_single hle (by unfold lastOf; rw [hcn, hs]; omega), hcn]
      · rw [coverR_two h h2, ih x (by omega) hx1, ih (x + 2 ^ f) (by omega) hx2]
        by_cases hA : max a x ≤ min b (x + 2 ^ f - 1)
        · by_cases hB : max a (x + 2 ^ f) ≤ min b (x + 2 ^ f + 2 ^ f - 1)
          · rw [if_pos hA, if_pos hB, if_pos (by omega)]
            have e1 : min b (x + 2 ^ f - 1) = x + 2 ^ f - 1 := by omega
            have e2 : max a (x + 2 ^ f) = x + 2 ^ f := by omega
            have e3 : min b (x + 2 ^ f + 2 ^ f - 1) = min b (x + 2 ^ (f + 1) - 1) := by rw [hp2]; congr 1; omega
            rw [e1, e2, e3]
            exact (cover_split x f (by omega) hx _ (by omega) (by omega) _ _ (Nat.le_refl _) (by omega) (by omega) (by omega)).symm
          · rw [if_pos hA, if_neg hB, if_pos (by omega), List.append_nil]
            congr 1; omega
        · by_cases hB : max a (x + 2 ^ f) ≤ min b (x + 2 ^ f + 2 ^ f - 1)
          · rw [if_neg hA, if_pos hB, if_pos (by omega), List.nil_append]
            congr 1 <;> omega
          · rw [if_neg hA, if_neg hB, if_neg (by omega)]; rfl
theorem coverR_all (a b : Int) (a0 : 0 ≤ a) (h : a ≤ b) (b1 : b < 4294967296) : coverR a b 32 0 = coverL a b := by
  have hp : (2 : Int) ^ 32 = 4294967296 := by decide
  rw [coverR_eq a b 32 0 (by omega) (by simp), if_pos (by rw [hp]; omega)]
  congr 1
  · omega
  · rw [hp]; omega
theorem coverR_length (a b : Int) : ∀ (f : Nat) (x : Int), (coverR a b f x).length ≤ 2 ^ f
  | 0, x => by rw [coverR]; split; · simp
               · split <;> simp
  | f + 1, x => by
    rw [coverR]
    split
    · simp
    · split
      · have := Nat.two_pow_pos (f + 1); simp; omega
      · have h1 := coverR_length a b f x
        have h2 := coverR_length a b f (x + 2 ^ f)
        simp only [List.length_append]; rw [Nat.pow_succ]; omega
end Go.Ab
