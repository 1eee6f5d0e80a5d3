/- The law of nested addresses: the arms of the walk of AddrNests joined. -/
import Derived.Test.YtbcdeeiddpcdeaaDoorNestsTT
import Derived.Test.YtbcdeeiddpcdeaaDoorNestsTF
import Derived.Test.YtbcdeeiddpcdeaaDoorNestsFT
import Derived.Test.YtbcdeeiddpcdeaaDoorNestsFF
namespace Go.Proofs.YtbcdeeiddpcdeaaDoor
open Go.RowKit Go.Ab
theorem cut_bd (a M : Int) (a0 : 0 ≤ a) (a1 : a < 4294967296) : 0 ≤ a - a % sz M ∧ a - a % sz M < 4294967296 := by
  have h := sz_pos M
  have h1 := Int.emod_nonneg a (show sz M ≠ 0 by omega)
  have h2 := Int.emod_add_mul_ediv a (sz M)
  have h3 : 0 ≤ sz M * (a / sz M) := Int.mul_nonneg (by omega) (Int.ediv_nonneg a0 (by omega))
  omega
theorem nests_any (a b c m n : Int) (w : World) (g : Good w) (a0 : 0 ≤ a) (a1 : a < 4294967296) (b0 : 0 ≤ b) (b1 : b < 4294967296) (c0 : 0 ≤ c) (c1 : c < 4294967296) (m0 : 0 ≤ m) (_ : m < 256) (n0 : 0 ≤ n) (_ : n < 256) :
    Gives Tryd.prog 5 #[.int .u32 a, .int .u32 b, .int .u32 c, .int .u8 m, .int .u8 n] w (.bool true) := by
  obtain ⟨M, hM⟩ : ∃ M, m % 33 = M := ⟨_, rfl⟩
  obtain ⟨N, hN⟩ : ∃ N, n % 33 = N := ⟨_, rfl⟩
  have M0 : 0 ≤ M := by omega
  have M1 : M ≤ 32 := by omega
  have N0 : 0 ≤ N := by omega
  have N1 : N ≤ 32 := by omega
  have hr := right_cut a M M1
  have hs := right_cut b N N1
  have hpa := has_cut a M M1
  have hqb := has_cut b N N1
  obtain ⟨p0, p1⟩ := cut_bd a M a0 a1
  obtain ⟨q0, q1⟩ := cut_bd b N b0 b1
  generalize hp : a - a % sz M = p at *
  generalize hq : b - b % sz N = q at *
  cases hi : insideB p M q N <;> cases ho : insideB q N p M
  · exact nests_FF a b c m n p M q N w g hM hN hp hq M0 M1 N0 N1 p0 p1 q0 q1 b0 b1 a0 a1 c0 c1 m0 n0 hr hi ho hpa hqb (fun x hx => apart_has M0 N0 hr hs hi ho hx)
  · exact nests_FT a b c m n p M q N w g hM hN hp hq M0 M1 N0 N1 p0 p1 q0 q1 b0 b1 a0 a1 c0 c1 m0 n0 hr hi ho hpa hqb
  · exact nests_TF a b c m n p M q N w g hM hN hp hq M0 M1 N0 N1 p0 p1 q0 q1 b0 b1 a0 a1 c0 c1 m0 n0 hr hi ho hpa hqb (by have := ((inside_iff hr hs).1 hi).1; simp; omega) (fun x hx => inside_has N0 hr hs hi hx)
  · obtain ⟨rfl, rfl⟩ := inside_both hr hs hi ho
    exact nests_TT a b c m n p M w g hM hN hp hq M0 M1 p0 p1 b0 b1 a0 a1 c0 c1 m0 n0 hr hi ho hpa hqb (by simp) (fun x hx => hx)
end Go.Proofs.YtbcdeeiddpcdeaaDoor
