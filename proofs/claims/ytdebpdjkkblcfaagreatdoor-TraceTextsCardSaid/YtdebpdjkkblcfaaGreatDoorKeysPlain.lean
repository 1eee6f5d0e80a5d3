/- The law of the keys: what AddrKeys answers. -/
import Derived.Test.YtdebpdjkkblcfaaGreatDoorKeyB
import Derived.Test.YtdebpdjkkblcfaaGreatDoorAddr3
namespace Go.Ab
theorem cmpI_bd (x y : Int) : -1 ≤ cmpI x y ∧ cmpI x y ≤ 1 := by unfold cmpI; split <;> (try split) <;> omega
theorem keyCmpFrom_bd (f g : Nat → Int) : ∀ n i, -1 ≤ keyCmpFrom f g n i ∧ keyCmpFrom f g n i ≤ 1
  | 0, _ => by simp [keyCmpFrom]
  | n + 1, i => by
    rw [keyCmpFrom]; split
    · exact keyCmpFrom_bd f g n (i + 1)
    · exact cmpI_bd _ _
theorem cmpI_neg (x y : Int) : cmpI x y = - cmpI y x := by unfold cmpI; split <;> split <;> omega
theorem keyCmpFrom_neg (f g : Nat → Int) : ∀ n i, keyCmpFrom f g n i = - keyCmpFrom g f n i
  | 0, _ => by simp [keyCmpFrom]
  | n + 1, i => by
    rw [keyCmpFrom, keyCmpFrom]
    by_cases h : f i = g i
    · rw [if_pos h, if_pos h.symm, keyCmpFrom_neg]
    · rw [if_neg h, if_neg (fun e => h e.symm), cmpI_neg]
theorem keyCmpFrom_zero (f g : Nat → Int) : ∀ n i, keyCmpFrom f g n i = 0 ↔ ∀ j, j < n → f (i + j) = g (i + j)
  | 0, _ => by simp [keyCmpFrom]
  | n + 1, i => by
    rw [keyCmpFrom]
    by_cases h : f i = g i
    · rw [if_pos h, keyCmpFrom_zero]
      constructor
      · intro hh j hj
        rcases j with _ | j
        · exact h
        · have := hh j (by omega); rwa [Nat.add_right_comm] at this
      · intro hh j hj
        have := hh (j + 1) (by omega); rwa [Nat.add_right_comm]
    · rw [if_neg h]
      constructor
      · intro e; exfalso; unfold cmpI at e; split at e <;> (try split at e) <;> omega
      · intro hh; exact (h (hh 0 (by omega))).elim
theorem cmpI_le {x y : Int} (h : cmpI x y ≤ 0) : x ≤ y := by unfold cmpI at h; split at h <;> (try split at h) <;> omega
theorem cmpI_of_lt {x y : Int} (h : x < y) : cmpI x y = -1 := by unfold cmpI; rw [if_pos h]
theorem keyCmpFrom_trans (f g h : Nat → Int) : ∀ n i, keyCmpFrom f g n i ≤ 0 → keyCmpFrom g h n i ≤ 0 → keyCmpFrom f h n i ≤ 0 ∧ (keyCmpFrom f h n i = 0 → keyCmpFrom f g n i = 0 ∧ keyCmpFrom g h n i = 0)
  | 0, _ => by simp [keyCmpFrom]
  | n + 1, i => by
    rw [keyCmpFrom, keyCmpFrom, keyCmpFrom]
    by_cases h1 : f i = g i
    · by_cases h2 : g i = h i
      · rw [if_pos h1, if_pos h2, if_pos (h1.trans h2)]; exact keyCmpFrom_trans f g h n (i + 1)
      · rw [if_pos h1, if_neg h2, if_neg (by rw [h1]; exact h2)]
        intro a b
        have := cmpI_le b
        rw [h1]
        have := cmpI_of_lt (x := g i) (y := h i) (by omega)
        omega
    · by_cases h2 : g i = h i
      · rw [if_neg h1, if_pos h2, if_neg (by rw [← h2]; exact h1)]
        intro a b
        have := cmpI_le a
        rw [← h2]
        have := cmpI_of_lt (x := f i) (y := g i) (by omega)
        omega
      · rw [if_neg h1, if_neg h2]
        intro a b
        have := cmpI_le a
        have := cmpI_le b
        rw [if_neg (by omega), cmpI_of_lt (x := f i) (y := h i) (by omega)]
        omega
end Go.Ab
namespace Go.Proofs.YtdebpdjkkblcfaaGreatDoor
open Go.RowKit Go.Ab
end Go.Proofs.YtdebpdjkkblcfaaGreatDoor
