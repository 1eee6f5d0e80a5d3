/- Prefixes within prefixes: the plain law behind AddrNests. -/
import Derived.Test.YtbcdeeiddpcdeaaDoorAddrPlain
namespace Go.Ab
theorem sz_fold (M N : Int) (hN : 0 ≤ N) (h : N ≤ M) (hM : M ≤ 32) : ∃ k : Int, 0 < k ∧ sz N = sz M * k := by
  refine ⟨(2 : Int) ^ (M - N).toNat, Int.pow_pos (by omega), ?_⟩
  unfold sz
  rw [← Int.pow_add, show (32 - M).toNat + (M - N).toNat = (32 - N).toNat by omega]
theorem mod_mul (x s k : Int) (hs : 0 < s) : (x - x % s) - (x - x % s) % (s * k) = x - x % (s * k) := by
  have e1 : x - x % s = s * (x / s) := by have := Int.emod_add_mul_ediv x s; omega
  have e2 : ∀ y : Int, y - y % (s * k) = (s * k) * (y / (s * k)) := fun y => by have := Int.emod_add_mul_ediv y (s * k); omega
  rw [e2, e2, e1]
  congr 1
  rw [Int.mul_ediv_mul_of_pos _ _ hs]
  first | exact Int.ediv_ediv_of_nonneg (by omega) | exact Int.ediv_ediv (by omega) | exact (Int.ediv_mul (by omega)).symm | exact?
theorem cut_cut (x M N : Int) (hN : 0 ≤ N) (h : N ≤ M) (hM : M ≤ 32) : (x - x % sz M) - (x - x % sz M) % sz N = x - x % sz N := by
  obtain ⟨k, _, e⟩ := sz_fold M N hN h hM
  rw [e]
  exact mod_mul x (sz M) k (by have := sz_pos M; omega)
theorem right_cut (a M : Int) (hM : M ≤ 32) : rightB (a - a % sz M) M = true := by
  have h : (a - a % sz M) % sz M = 0 := by
    have := Int.emod_add_mul_ediv a (sz M)
    rw [show a - a % sz M = sz M * (a / sz M) by omega]
    exact Int.mul_emod_right _ _
  unfold rightB; simp [hM, h]
theorem has_cut (a M : Int) (hM : M ≤ 32) : hasB (a - a % sz M) M a = true := by unfold hasB; rw [right_cut a M hM]; simp
theorem has_iff {p M x : Int} (hr : rightB p M = true) : hasB p M x = true ↔ x - x % sz M = p := by unfold hasB; rw [hr]; simp
theorem inside_iff {p M q N : Int} (hr : rightB p M = true) (hq : rightB q N = true) : insideB p M q N = true ↔ N ≤ M ∧ p - p % sz N = q := by
  unfold insideB; rw [hr]; simp [has_iff hq]
theorem right_mod {p M : Int} (hr : rightB p M = true) : M ≤ 32 ∧ p % sz M = 0 := by unfold rightB at hr; simpa using hr
theorem inside_self {p M : Int} (hr : rightB p M = true) : insideB p M p M = true := (inside_iff hr hr).2 ⟨by omega, by rw [(right_mod hr).2]; omega⟩
theorem inside_both {p M q N : Int} (hr : rightB p M = true) (hq : rightB q N = true) (h1 : insideB p M q N = true) (h2 : insideB q N p M = true) : p = q ∧ M = N := by
  obtain ⟨a1, a2⟩ := (inside_iff hr hq).1 h1
  obtain ⟨b1, b2⟩ := (inside_iff hq hr).1 h2
  obtain rfl : M = N := by omega
  refine ⟨?_, rfl⟩
  rw [(right_mod hr).2] at a2; omega
theorem inside_has {p M q N x : Int} (hN : 0 ≤ N) (hr : rightB p M = true) (hq : rightB q N = true) (h : insideB p M q N = true) (hx : hasB p M x = true) : hasB q N x = true := by
  obtain ⟨a1, a2⟩ := (inside_iff hr hq).1 h
  rw [has_iff hr] at hx
  rw [has_iff hq, ← a2, ← hx, cut_cut x M N hN a1 (right_mod hr).1]
theorem apart_has {p M q N x : Int} (hM : 0 ≤ M) (hN : 0 ≤ N) (hr : rightB p M = true) (hq : rightB q N = true) (h1 : insideB p M q N = false) (h2 : insideB q N p M = false) (hx : hasB p M x = true) : hasB q N x = false := by
  cases hy : hasB q N x
  · rfl
  · exfalso
    rw [has_iff hr] at hx
    rw [has_iff hq] at hy
    rcases Int.le_total N M with h | h
    · have := (inside_iff hr hq).2 ⟨h, by rw [← hx, cut_cut x M N hN h (right_mod hr).1, hy]⟩
      rw [h1] at this; cases this
    · have := (inside_iff hq hr).2 ⟨h, by rw [← hy, cut_cut x N M hM h (right_mod hq).1, hx]⟩
      rw [h2] at this; cases this
end Go.Ab
