/- What ReadKey returns, as one tuple of parts. -/
import Derived.Test.YtdebpdjkkblcfaaGreatDoorAddr7
import Derived.Test.YtdebpdjkkblcfaaGreatDoorKeyB
namespace Go.Ab
open Go.Proofs.YtdebpdjkkblcfaaGreatDoor
def kv (b : Bool) (n : Int) : Int := if b then n else 0
def kvE (b : Bool) : Int := if b then 0 else 30
def kvB (l : List UInt8) : Bool := kText l == l
theorem kv_eq (l : List UInt8) : readKeyV l = .tuple #[.agg #[.int .u8 (kv (kvB l) (kPr l)), .int .u32 (kv (kvB l) (kS l)), .int .u32 (kv (kvB l) (kD l)), .int .u16 (kv (kvB l) (kSp l)), .int .u16 (kv (kvB l) (kDp l))], .int .i64 (kvE (kvB l))] := by
  unfold readKeyV kv kvE kvB
  by_cases h : kText l = l
  · have h' : (kText l == l) = true := by simpa using h
    rw [if_pos h, h']; rfl
  · have h' : (kText l == l) = false := by simpa using h
    rw [if_neg h, h']; rfl
theorem kv_bounds (l : List UInt8) : KeyB (kv (kvB l) (kPr l)) (kv (kvB l) (kS l)) (kv (kvB l) (kD l)) (kv (kvB l) (kSp l)) (kv (kvB l) (kDp l)) := by
  have h1 : 0 ≤ kPr l ∧ kPr l < 256 := by unfold kPr numV; omega
  have h2 := readI_bd (cutC 58 (kSrc l)).1
  have h3 := readI_bd (cutC 58 (kDst l)).1
  have h4 : 0 ≤ kSp l ∧ kSp l < 65536 := by unfold kSp numV; omega
  have h5 : 0 ≤ kDp l ∧ kDp l < 65536 := by unfold kDp numV; omega
  have h2' : 0 ≤ kS l ∧ kS l < 4294967296 := h2
  have h3' : 0 ≤ kD l ∧ kD l < 4294967296 := h3
  unfold kv
  cases kvB l
  · exact ⟨by simp, by simp, by simp, by simp, by simp, by simp, by simp, by simp, by simp, by simp⟩
  · exact ⟨h1.1, h1.2, h2'.1, h2'.2, h3'.1, h3'.2, h4.1, h4.2, h5.1, h5.2⟩
end Go.Ab
