/- The arithmetic of prefixes: no program in sight. -/
import Derived.Laws.BitsAllLaws
import Derived.IntWalk
namespace Go.Ab

/-- The number of addresses of a prefix. -/
def sz (n : Int) : Int := (2 : Int) ^ (32 - n).toNat
def maskI (n : Int) : Int := 4294967296 - sz n
def rightB (a n : Int) : Bool := decide (n ≤ 32) && (a % sz n == 0)
def hasB (a n x : Int) : Bool := rightB a n && (x - x % sz n == a)
def insideB (a n b m : Int) : Bool := rightB a n && decide (m ≤ n) && hasB b m a
def meetB (a n b m : Int) : Bool := insideB a n b m || insideB b m a n

theorem sz_nat (n : Int) : ∃ k : Nat, (0 ≤ n → k ≤ 32) ∧ (32 - n).toNat = k ∧ sz n = ((2 ^ k : Nat) : Int) := ⟨(32 - n).toNat, by omega, rfl, by simp [sz]⟩
theorem sz_pos (n : Int) : 1 ≤ sz n := by
  obtain ⟨k, _, _, h⟩ := sz_nat n
  have := Nat.two_pow_pos k
  rw [h]; omega
theorem sz_le (n : Int) (h : 0 ≤ n) : sz n ≤ 4294967296 := by
  obtain ⟨k, hk, _, h⟩ := sz_nat n
  have hp : 2 ^ k ≤ 2 ^ 32 := Nat.pow_le_pow_right (by decide) (hk (by omega))
  rw [h]; omega
theorem sz_big (n : Int) (h : 32 ≤ n) : sz n = 1 := by
  unfold sz; rw [show (32 - n).toNat = 0 by omega]; rfl
theorem sz_mul (n : Int) (h0 : 0 ≤ n) (h : n ≤ 32) : sz n * (2 : Int) ^ n.toNat = 4294967296 := by
  unfold sz; rw [← Int.pow_add, show (32 - n).toNat + n.toNat = 32 by omega]; rfl

theorem nat_andNot_low (a k : Nat) (hk : k ≤ 32) (_ha : a < 4294967296) : a &&& (4294967295 - (4294967296 - 2 ^ k)) = a % 2 ^ k := by
  have hp : 2 ^ k ≤ 2 ^ 32 := Nat.pow_le_pow_right (by decide) hk
  have h1 := Nat.two_pow_pos k
  rw [show 4294967295 - (4294967296 - 2 ^ k) = 2 ^ k - 1 by omega, Nat.and_two_pow_sub_one_eq_mod]
theorem nat_and_high (a k : Nat) (hk : k ≤ 32) (ha : a < 4294967296) : a &&& (4294967296 - 2 ^ k) = a - a % 2 ^ k := by
  have e1 : 4294967296 - 2 ^ k = (2 ^ (32 - k) - 1) <<< k := by
    rw [Nat.shiftLeft_eq, Nat.sub_mul, ← Nat.pow_add, show 32 - k + k = 32 by omega]; simp
  have e2 : a - a % 2 ^ k = (a >>> k) <<< k := by
    rw [Nat.shiftLeft_eq, Nat.shiftRight_eq_div_pow]
    have := Nat.div_add_mod a (2 ^ k)
    rw [Nat.mul_comm] at this; omega
  rw [e1, e2]
  apply Nat.eq_of_testBit_eq
  intro i
  rw [Nat.testBit_and, Nat.testBit_shiftLeft, Nat.testBit_shiftLeft, Nat.testBit_two_pow_sub_one, Nat.testBit_shiftRight]
  by_cases hi : k ≤ i
  · rw [show k + (i - k) = i by omega]
    by_cases h32 : i < 32
    · simp [hi, show i - k < 32 - k by omega]
    · have : a.testBit i = false := Nat.testBit_lt_two_pow (Nat.lt_of_lt_of_le ha (by
        have : 2 ^ 32 ≤ 2 ^ i := Nat.pow_le_pow_right (by omega) (by omega)
        simpa using this))
      simp [this]
  · simp [hi]

theorem andNot_mask (a n : Int) (h0 : 0 ≤ a) (h1 : a < 4294967296) (hn : 0 ≤ n) : bits .andNot .u32 a (maskI n) = a % sz n := by
  obtain ⟨k, hk, _, h⟩ := sz_nat n
  obtain ⟨m, rfl⟩ := Int.eq_ofNat_of_zero_le h0
  have hp : 2 ^ k ≤ 2 ^ 32 := Nat.pow_le_pow_right (by decide) (by omega)
  have hq := Nat.two_pow_pos k
  have e : maskI n = ((4294967296 - 2 ^ k : Nat) : Int) := by unfold maskI; rw [h]; omega
  rw [e, u32_andNot_nat m _ (by omega) (by omega), nat_andNot_low m k (by omega) (by omega), h]
  simp
theorem and_mask (a n : Int) (h0 : 0 ≤ a) (h1 : a < 4294967296) (hn : 0 ≤ n) : bits .and .u32 a (maskI n) = a - a % sz n := by
  obtain ⟨k, hk, _, h⟩ := sz_nat n
  obtain ⟨m, rfl⟩ := Int.eq_ofNat_of_zero_le h0
  have hp : 2 ^ k ≤ 2 ^ 32 := Nat.pow_le_pow_right (by decide) (by omega)
  have hq := Nat.two_pow_pos k
  have e : maskI n = ((4294967296 - 2 ^ k : Nat) : Int) := by unfold maskI; rw [h]; omega
  rw [e, u32_and_nat m _ (by omega) (by omega), nat_and_high m k (by omega) (by omega), h]
  have := Nat.mod_le m (2 ^ k)
  rw [Int.ofNat_sub this]; simp
theorem xor_max (x : Int) (h0 : 0 ≤ x) (h1 : x < 4294967296) : bits .xor .u32 IntKind.u32.max x = 4294967295 - x := by
  obtain ⟨m, rfl⟩ := Int.eq_ofNat_of_zero_le h0
  rw [show IntKind.u32.max = ((4294967295 : Nat) : Int) by decide, u32_xor_nat _ _ (by omega) (by omega)]
  have : 4294967295 ^^^ m = 4294967295 - m := by
    have := Nat.testBit_two_pow_sub_succ (x := m) (n := 32) (by omega)
    apply Nat.eq_of_testBit_eq
    intro i
    rw [Nat.testBit_xor, show (4294967295 - m) = 2 ^ 32 - (m + 1) by omega, this, show 4294967295 = 2 ^ 32 - 1 by decide, Nat.testBit_two_pow_sub_one]
    by_cases hi : i < 32
    · simp [hi]
    · have : m.testBit i = false := Nat.testBit_lt_two_pow (Nat.lt_of_lt_of_le (by omega : m < 2 ^ 32) (Nat.pow_le_pow_right (by omega) (by omega)))
      simp [hi, this]
  rw [this]; omega
theorem shr_max (n : Int) (h0 : 0 ≤ n) (h : n ≤ 32) : (4294967295 : Int) / 2 ^ n.toNat = sz n - 1 := by
  have h1 := sz_mul n h0 h
  have hp : (0 : Int) < 2 ^ n.toNat := Int.pow_pos (by decide)
  generalize (2 : Int) ^ n.toNat = p at *
  generalize sz n = s at *
  have e : (4294967295 : Int) = (p - 1) + (s - 1) * p := by rw [Int.sub_mul, h1]; omega
  rw [e, Int.add_mul_ediv_right _ _ (by omega), Int.ediv_eq_zero_of_lt (by omega) (by omega)]; omega
theorem or_low (a n : Int) (h0 : 0 ≤ a) (h1 : a < 4294967296) (hn : 0 ≤ n) (hd : a % sz n = 0) : bits .or .u32 a (sz n - 1) = a + (sz n - 1) := by
  obtain ⟨k, hk, _, h⟩ := sz_nat n
  obtain ⟨m, rfl⟩ := Int.eq_ofNat_of_zero_le h0
  have hp : 2 ^ k ≤ 2 ^ 32 := Nat.pow_le_pow_right (by decide) (by omega)
  have hq := Nat.two_pow_pos k
  have e : sz n - 1 = ((2 ^ k - 1 : Nat) : Int) := by rw [h]; omega
  rw [e, u32_or_nat m _ (by omega) (by omega), nat_join k m _ (by rw [h] at hd; exact_mod_cast hd) (by omega)]
  omega
theorem maskI_nn (n : Int) (hn : 0 ≤ n) : 0 ≤ maskI n ∧ maskI n < 4294967296 := by
  have := sz_pos n; have := sz_le n hn; unfold maskI; omega
theorem xor_mask (n : Int) (hn : 0 ≤ n) : bits .xor .u32 IntKind.u32.max (maskI n) = sz n - 1 := by
  obtain ⟨h0, h1⟩ := maskI_nn n hn
  rw [xor_max _ h0 h1]; unfold maskI; omega
theorem xor_shr (n : Int) (h0 : 0 ≤ n) (h : n ≤ 32) : bits .xor .u32 IntKind.u32.max (4294967295 / 2 ^ n.toNat) = maskI n := by
  rw [shr_max n h0 h]
  have := sz_pos n; have := sz_le n h0
  rw [xor_max _ (by omega) (by omega)]; unfold maskI; omega
end Go.Ab
