/- The law of the keys: the arms of the walk of AddrKeys joined. -/
import Derived.Test.YtbcdeeiddpcdeaaDoorKeysA
import Derived.Test.YtbcdeeiddpcdeaaDoorKeysB
import Derived.Test.YtbcdeeiddpcdeaaDoorKeysC
namespace Go.Ab
theorem keyCmp_self (pr s d sp dp : Int) : keyCmp pr s d sp dp pr s d sp dp = 0 := keyCmp_eq _ _ (fun _ _ => rfl)
theorem keyCmp_ne {pr s d sp dp pr' s' d' sp' dp' : Int} (h : ¬ (pr = pr' ∧ s = s' ∧ d = d' ∧ sp = sp' ∧ dp = dp')) : keyCmp pr s d sp dp pr' s' d' sp' dp' ≠ 0 := fun e => by
  have := (keyCmpFrom_zero _ _ 5 0).1 e
  have h0 := this 0 (by omega); have h1 := this 1 (by omega); have h2 := this 2 (by omega); have h3 := this 3 (by omega); have h4 := this 4 (by omega)
  simp only [partI] at h0 h1 h2 h3 h4
  exact h ⟨h0, h1, h3, h2, h4⟩
theorem keyCmp_neg (pr s d sp dp pr' s' d' sp' dp' : Int) : keyCmp pr' s' d' sp' dp' pr s d sp dp = - keyCmp pr s d sp dp pr' s' d' sp' dp' := keyCmpFrom_neg _ _ _ _
theorem keyCmp_bd (pr s d sp dp pr' s' d' sp' dp' : Int) : -1 ≤ keyCmp pr s d sp dp pr' s' d' sp' dp' ∧ keyCmp pr s d sp dp pr' s' d' sp' dp' ≤ 1 := keyCmpFrom_bd _ _ _ _
theorem keyCmp_trans (pr s d sp dp pr' s' d' sp' dp' pr'' s'' d'' sp'' dp'' : Int) : keyCmp pr s d sp dp pr' s' d' sp' dp' ≤ 0 → keyCmp pr' s' d' sp' dp' pr'' s'' d'' sp'' dp'' ≤ 0 →
    keyCmp pr s d sp dp pr'' s'' d'' sp'' dp'' ≤ 0 ∧ (keyCmp pr s d sp dp pr'' s'' d'' sp'' dp'' = 0 → keyCmp pr s d sp dp pr' s' d' sp' dp' = 0 ∧ keyCmp pr' s' d' sp' dp' pr'' s'' d'' sp'' dp'' = 0) := keyCmpFrom_trans _ _ _ _ _
end Go.Ab
namespace Go.Proofs.YtbcdeeiddpcdeaaDoor
open Go.RowKit Go.Ab
theorem keys_A (pr s d sp dp pr' s' d' sp' dp' pr'' s'' d'' sp'' dp'' : Int) (w : World) (g : Good w) (k : KeyB pr s d sp dp) (k' : KeyB pr' s' d' sp' dp') (k'' : KeyB pr'' s'' d'' sp'' dp'') (hs : (s == d) = false) (hs' : (d == s) = false) :
    Gives Tryd.prog 9 #[.agg #[.int .u8 pr, .int .u32 s, .int .u32 d, .int .u16 sp, .int .u16 dp], .agg #[.int .u8 pr', .int .u32 s', .int .u32 d', .int .u16 sp', .int .u16 dp'], .agg #[.int .u8 pr'', .int .u32 s'', .int .u32 d'', .int .u16 sp'', .int .u16 dp'']] w (.bool true) := by
  have b1 := keyCmp_bd pr s d sp dp pr' s' d' sp' dp'
  have b3 := keyCmp_bd pr' s' d' sp' dp' pr'' s'' d'' sp'' dp''
  have n1 := keyCmp_neg pr s d sp dp pr' s' d' sp' dp'
  have tr := keyCmp_trans pr s d sp dp pr' s' d' sp' dp' pr'' s'' d'' sp'' dp''
  by_cases heq : pr = pr' ∧ s = s' ∧ d = d' ∧ sp = sp' ∧ dp = dp'
  · obtain ⟨h0, h1, h2, h3, h4⟩ := heq
    subst h0; subst h1; subst h2; subst h3; subst h4
    exact keys_AE pr s d sp dp pr'' s'' d'' sp'' dp'' _ w g k k'' (keyCmp_self pr s d sp dp) rfl hs hs'
  · have hz := keyCmp_ne heq
    generalize h1 : keyCmp pr s d sp dp pr' s' d' sp' dp' = C1 at *
    generalize h2 : keyCmp pr' s' d' sp' dp' pr s d sp dp = C2 at *
    generalize h3 : keyCmp pr' s' d' sp' dp' pr'' s'' d'' sp'' dp'' = C3 at *
    generalize h4 : keyCmp pr s d sp dp pr'' s'' d'' sp'' dp'' = C4 at *
    rcases (by omega : C1 = 1 ∨ C1 = -1) with rfl | rfl
    · obtain rfl : C2 = -1 := by omega
      exact keys_AP pr s d sp dp pr' s' d' sp' dp' pr'' s'' d'' sp'' dp'' C3 C4 w g k k' k'' h1 h2 h3 h4 hs hs' heq
    · obtain rfl : C2 = 1 := by omega
      by_cases h0 : 0 < C3
      · obtain rfl : C3 = 1 := by omega
        exact keys_AMa pr s d sp dp pr' s' d' sp' dp' pr'' s'' d'' sp'' dp'' C4 w g k k' k'' h1 h2 h3 h4 hs hs' heq
      · have t := tr (by omega) (by omega)
        have b4 := keyCmp_bd pr s d sp dp pr'' s'' d'' sp'' dp''
        rw [h4] at b4
        obtain rfl : C4 = -1 := by omega
        exact keys_AMb pr s d sp dp pr' s' d' sp' dp' pr'' s'' d'' sp'' dp'' C3 w g k k' k'' h1 h2 h3 h4 hs hs' (by simp; omega) heq
theorem keys_B (pr s sp dp pr' s' d' sp' dp' pr'' s'' d'' sp'' dp'' : Int) (w : World) (g : Good w) (k : KeyB pr s s sp dp) (k' : KeyB pr' s' d' sp' dp') (k'' : KeyB pr'' s'' d'' sp'' dp'') (hs : (sp == dp) = false) (hs' : (dp == sp) = false) :
    Gives Tryd.prog 9 #[.agg #[.int .u8 pr, .int .u32 s, .int .u32 s, .int .u16 sp, .int .u16 dp], .agg #[.int .u8 pr', .int .u32 s', .int .u32 d', .int .u16 sp', .int .u16 dp'], .agg #[.int .u8 pr'', .int .u32 s'', .int .u32 d'', .int .u16 sp'', .int .u16 dp'']] w (.bool true) := by
  have b1 := keyCmp_bd pr s s sp dp pr' s' d' sp' dp'
  have b3 := keyCmp_bd pr' s' d' sp' dp' pr'' s'' d'' sp'' dp''
  have n1 := keyCmp_neg pr s s sp dp pr' s' d' sp' dp'
  have tr := keyCmp_trans pr s s sp dp pr' s' d' sp' dp' pr'' s'' d'' sp'' dp''
  by_cases heq : pr = pr' ∧ s = s' ∧ s = d' ∧ sp = sp' ∧ dp = dp'
  · obtain ⟨h0, h1, h2, h3, h4⟩ := heq
    subst h0; subst h1; subst h2; subst h3; subst h4
    exact keys_BE pr s sp dp pr'' s'' d'' sp'' dp'' _ w g k k'' (keyCmp_self pr s s sp dp) rfl hs hs'
  · have hz := keyCmp_ne heq
    generalize h1 : keyCmp pr s s sp dp pr' s' d' sp' dp' = C1 at *
    generalize h2 : keyCmp pr' s' d' sp' dp' pr s s sp dp = C2 at *
    generalize h3 : keyCmp pr' s' d' sp' dp' pr'' s'' d'' sp'' dp'' = C3 at *
    generalize h4 : keyCmp pr s s sp dp pr'' s'' d'' sp'' dp'' = C4 at *
    rcases (by omega : C1 = 1 ∨ C1 = -1) with rfl | rfl
    · obtain rfl : C2 = -1 := by omega
      exact keys_BP pr s sp dp pr' s' d' sp' dp' pr'' s'' d'' sp'' dp'' C3 C4 w g k k' k'' h1 h2 h3 h4 hs hs' heq
    · obtain rfl : C2 = 1 := by omega
      by_cases h0 : 0 < C3
      · obtain rfl : C3 = 1 := by omega
        exact keys_BMa pr s sp dp pr' s' d' sp' dp' pr'' s'' d'' sp'' dp'' C4 w g k k' k'' h1 h2 h3 h4 hs hs' heq
      · have t := tr (by omega) (by omega)
        have b4 := keyCmp_bd pr s s sp dp pr'' s'' d'' sp'' dp''
        rw [h4] at b4
        obtain rfl : C4 = -1 := by omega
        exact keys_BMb pr s sp dp pr' s' d' sp' dp' pr'' s'' d'' sp'' dp'' C3 w g k k' k'' h1 h2 h3 h4 hs hs' (by simp; omega) heq
theorem keys_C (pr s sp pr' s' d' sp' dp' pr'' s'' d'' sp'' dp'' : Int) (w : World) (g : Good w) (k : KeyB pr s s sp sp) (k' : KeyB pr' s' d' sp' dp') (k'' : KeyB pr'' s'' d'' sp'' dp'') :
    Gives Tryd.prog 9 #[.agg #[.int .u8 pr, .int .u32 s, .int .u32 s, .int .u16 sp, .int .u16 sp], .agg #[.int .u8 pr', .int .u32 s', .int .u32 d', .int .u16 sp', .int .u16 dp'], .agg #[.int .u8 pr'', .int .u32 s'', .int .u32 d'', .int .u16 sp'', .int .u16 dp'']] w (.bool true) := by
  have b1 := keyCmp_bd pr s s sp sp pr' s' d' sp' dp'
  have b3 := keyCmp_bd pr' s' d' sp' dp' pr'' s'' d'' sp'' dp''
  have n1 := keyCmp_neg pr s s sp sp pr' s' d' sp' dp'
  have tr := keyCmp_trans pr s s sp sp pr' s' d' sp' dp' pr'' s'' d'' sp'' dp''
  by_cases heq : pr = pr' ∧ s = s' ∧ s = d' ∧ sp = sp' ∧ sp = dp'
  · obtain ⟨h0, h1, h2, h3, h4⟩ := heq
    subst h0; subst h1; subst h2; subst h3; subst h4
    exact keys_CE pr s sp pr'' s'' d'' sp'' dp'' _ w g k k'' (keyCmp_self pr s s sp sp) rfl
  · have hz := keyCmp_ne heq
    generalize h1 : keyCmp pr s s sp sp pr' s' d' sp' dp' = C1 at *
    generalize h2 : keyCmp pr' s' d' sp' dp' pr s s sp sp = C2 at *
    generalize h3 : keyCmp pr' s' d' sp' dp' pr'' s'' d'' sp'' dp'' = C3 at *
    generalize h4 : keyCmp pr s s sp sp pr'' s'' d'' sp'' dp'' = C4 at *
    rcases (by omega : C1 = 1 ∨ C1 = -1) with rfl | rfl
    · obtain rfl : C2 = -1 := by omega
      exact keys_CP pr s sp pr' s' d' sp' dp' pr'' s'' d'' sp'' dp'' C3 C4 w g k k' k'' h1 h2 h3 h4 heq
    · obtain rfl : C2 = 1 := by omega
      by_cases h0 : 0 < C3
      · obtain rfl : C3 = 1 := by omega
        exact keys_CMa pr s sp pr' s' d' sp' dp' pr'' s'' d'' sp'' dp'' C4 w g k k' k'' h1 h2 h3 h4 heq
      · have t := tr (by omega) (by omega)
        have b4 := keyCmp_bd pr s s sp sp pr'' s'' d'' sp'' dp''
        rw [h4] at b4
        obtain rfl : C4 = -1 := by omega
        exact keys_CMb pr s sp pr' s' d' sp' dp' pr'' s'' d'' sp'' dp'' C3 w g k k' k'' h1 h2 h3 h4 (by simp; omega) heq
theorem keys_any (pr s d sp dp pr' s' d' sp' dp' pr'' s'' d'' sp'' dp'' : Int) (w : World) (g : Good w) (k : KeyB pr s d sp dp) (k' : KeyB pr' s' d' sp' dp') (k'' : KeyB pr'' s'' d'' sp'' dp'') :
    Gives Tryd.prog 9 #[.agg #[.int .u8 pr, .int .u32 s, .int .u32 d, .int .u16 sp, .int .u16 dp], .agg #[.int .u8 pr', .int .u32 s', .int .u32 d', .int .u16 sp', .int .u16 dp'], .agg #[.int .u8 pr'', .int .u32 s'', .int .u32 d'', .int .u16 sp'', .int .u16 dp'']] w (.bool true) := by
  by_cases hs : s = d
  · subst hs
    by_cases hp : sp = dp
    · subst hp
      exact keys_C pr s sp _ _ _ _ _ _ _ _ _ _ w g k k' k''
    · exact keys_B pr s sp dp _ _ _ _ _ _ _ _ _ _ w g k k' k'' (by simpa using hp) (by simpa using Ne.symm hp)
  · exact keys_A pr s d sp dp _ _ _ _ _ _ _ _ _ _ w g k k' k'' (by simpa using hs) (by simpa using Ne.symm hs)
end Go.Proofs.YtbcdeeiddpcdeaaDoor
