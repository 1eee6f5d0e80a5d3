/- Keys compared: what Compare of package addr returns. -/
import Derived.Test.YtdebpdjkkblcfaaGreatDoorAddr2
namespace Go.Ab
def cmpI (x y : Int) : Int := if x < y then -1 else if y < x then 1 else 0
def partI (pr s d sp dp : Int) (i : Nat) : Int := match i with | 0 => pr | 1 => s | 2 => sp | 3 => d | _ => dp
/-- The first part that differs decides. -/
def keyCmpFrom (f g : Nat → Int) : Nat → Nat → Int
  | 0, _ => 0
  | n + 1, i => if f i = g i then keyCmpFrom f g n (i + 1) else cmpI (f i) (g i)
def keyCmp (pr s d sp dp pr' s' d' sp' dp' : Int) : Int := keyCmpFrom (partI pr s d sp dp) (partI pr' s' d' sp' dp') 5 0
theorem keyCmpFrom_skip (f g : Nat → Int) : ∀ (m k : Nat), (∀ j, j < m → f j = g j) → keyCmpFrom f g (m + k) 0 = keyCmpFrom f g k m
  | 0, k, _ => by simp
  | m + 1, k, h => by
    have h1 := keyCmpFrom_skip f g m (k + 1) (fun j hj => h j (by omega))
    rw [show m + 1 + k = m + (k + 1) by omega, h1, keyCmpFrom, if_pos (h m (by omega))]
theorem keyCmp_at (f g : Nat → Int) (m : Nat) (hm : m < 5) (h : ∀ j, j < m → f j = g j) (hne : f m ≠ g m) : keyCmpFrom f g 5 0 = cmpI (f m) (g m) := by
  have := keyCmpFrom_skip f g m (5 - m) h
  rw [show m + (5 - m) = 5 by omega] at this
  rw [this, show 5 - m = (4 - m) + 1 by omega, keyCmpFrom, if_neg hne]
theorem keyCmp_eq (f g : Nat → Int) (h : ∀ j, j < 5 → f j = g j) : keyCmpFrom f g 5 0 = 0 := by
  have := keyCmpFrom_skip f g 5 0 h
  rwa [keyCmpFrom] at this
theorem cmpI_self (x : Int) : cmpI x x = 0 := by unfold cmpI; simp
theorem cmpI_ne {x y : Int} (h : x ≠ y) : (cmpI x y != 0) = true := by
  unfold cmpI
  by_cases h1 : x < y
  · simp [h1]
  · have : y < x := by omega
    simp [h1, this]
end Go.Ab
namespace Go.Proofs.YtdebpdjkkblcfaaGreatDoor
open Go.RowKit Go.Ab

end Go.Proofs.YtdebpdjkkblcfaaGreatDoor
