/- The prefixes that cover a range of addresses: what covers and Cover of package addr do. -/
import Derived.Test.YtdebpdjkkblcfaaGreatDoorRange
import Derived.Test.YtdebpdjkkblcfaaGreatDoorAddr1
import Derived.Deep.DeepCutAuto
namespace Go.Ab
open Go.RowKit
/-- Does the widest prefix that begins at a end behind b at length n? -/
def fitsB (a b n : Int) : Bool := (a % sz n == 0) && decide (a + (sz n - 1) ≤ b)
def cnFrom (a b : Int) : Nat → Int → Int
  | 0, n => n
  | f + 1, n => if fitsB a b n then n else cnFrom a b f (n + 1)
/-- The length of the widest prefix that begins at a and does not end behind b. -/
def cn (a b : Int) : Int := cnFrom a b 32 0
def lastOf (a b : Int) : Int := a + (sz (cn a b) - 1)
def coverFrom (b : Int) : Nat → Int → List (Int × Int)
  | 0, _ => []
  | f + 1, a => (a, cn a b) :: (if lastOf a b = b then [] else coverFrom b f (lastOf a b + 1))
/-- The prefixes that cover a range. -/
def coverL (a b : Int) : List (Int × Int) := coverFrom b ((b - a).toNat + 1) a

theorem fits_32 (a b : Int) (h : a ≤ b) : fitsB a b 32 = true := by
  unfold fitsB; rw [sz_big 32 (by omega)]
  simp; omega
theorem cnFrom_spec (a b : Int) (h : a ≤ b) : ∀ (f : Nat) (n : Int), n + f = 32 → 0 ≤ n → fitsB a b (cnFrom a b f n) = true ∧ 0 ≤ cnFrom a b f n ∧ cnFrom a b f n ≤ 32
  | 0, n, hn, h0 => by
    have : n = 32 := by omega
    subst this
    exact ⟨fits_32 a b h, by simp [cnFrom], by simp [cnFrom]⟩
  | f + 1, n, hn, h0 => by
    rw [cnFrom]
    split
    · rename_i hf; exact ⟨hf, h0, by omega⟩
    · exact cnFrom_spec a b h f (n + 1) (by omega) (by omega)
theorem cn_spec (a b : Int) (h : a ≤ b) : fitsB a b (cn a b) = true ∧ 0 ≤ cn a b ∧ cn a b ≤ 32 := cnFrom_spec a b h 32 0 rfl (by omega)
theorem fits_parts {a b n : Int} (h : fitsB a b n = true) : a % sz n = 0 ∧ a + (sz n - 1) ≤ b := by
  unfold fitsB at h; simpa using h
theorem last_bd (a b : Int) (h : a ≤ b) : a ≤ lastOf a b ∧ lastOf a b ≤ b := by
  have := (fits_parts (cn_spec a b h).1).2
  have := sz_pos (cn a b)
  unfold lastOf; omega
/-- More fuel changes nothing. -/
theorem coverFrom_fuel (b : Int) : ∀ (f g : Nat) (a : Int), a ≤ b → (b - a).toNat < f → (b - a).toNat < g → coverFrom b f a = coverFrom b g a
  | 0, _, _, _, h, _ => by omega
  | _ + 1, 0, _, _, _, h => by omega
  | f + 1, g + 1, a, hab, hf, hg => by
    rw [coverFrom, coverFrom]
    by_cases h : lastOf a b = b
    · rw [if_pos h, if_pos h]
    · have := last_bd a b hab
      rw [if_neg h, if_neg h, coverFrom_fuel b f g (lastOf a b + 1) (by omega) (by omega) (by omega)]
theorem coverFrom_length (b : Int) : ∀ (f : Nat) (a : Int), (coverFrom b f a).length ≤ f
  | 0, _ => by simp [coverFrom]
  | f + 1, a => by
    rw [coverFrom, List.length_cons]
    split
    · simp
    · have := coverFrom_length b f (lastOf a b + 1); omega
theorem coverL_length (a b : Int) : (coverL a b).length ≤ (b - a).toNat + 1 := coverFrom_length b _ a
theorem coverL_step (a b : Int) (h : a ≤ b) : coverL a b = (a, cn a b) :: (if lastOf a b = b then [] else coverL (lastOf a b + 1) b) := by
  have hb := last_bd a b h
  unfold coverL
  rw [coverFrom]
  by_cases hl : lastOf a b = b
  · rw [if_pos hl, if_pos hl]
  · rw [if_neg hl, if_neg hl, coverFrom_fuel b ((b - a).toNat) ((b - (lastOf a b + 1)).toNat + 1) (lastOf a b + 1) (by omega) (by omega) (by omega)]
theorem cnFrom_no (a b n : Int) (f : Nat) (h : fitsB a b n = false) : cnFrom a b (f + 1) n = cnFrom a b f (n + 1) := by rw [cnFrom, h]; simp
theorem cnFrom_yes (a b n : Int) (f : Nat) (h : fitsB a b n = true) : cnFrom a b f n = n := by
  cases f with
  | zero => rfl
  | succ f => rw [cnFrom, if_pos h]
theorem Turn.of_up {p : Nat → Prop} {A B : World} (h : Up A B) : Turn p A B := ⟨none, ⟨h.os, h.tape, h.output, h.size, fun k hk _ => h.block k hk⟩, fun _ e => by cases e⟩
theorem Turn.of_setCell {p : Nat → Prop} (A : World) (a : Addr) (v : Value) (h : p a.block) : Turn p A (A.setCell a v) :=
  ⟨some a.block, ⟨rfl, rfl, rfl, by simp, fun k _ hk => Below.heap_setCell A a v k (fun e => hk (by rw [e]))⟩, fun _ e => by cases e; exact h⟩
theorem Kept.cell {p : Nat → Prop} {A B : World} (h : Kept p A B) {a : Addr} {v : Value} (hc : A.cell? a = some v) (hp : p a.block) : B.cell? a = some v :=
  (World.cell?_of_block (h.2 _ hp (cell_lt' hc))).trans hc
theorem Kept.frozen {p : Nat → Prop} {A B : World} (h : Kept p A B) {a : Addr} {v : Value} (hc : A.cell? a = some v) (hp : p a.block) : B.frozen? a = A.frozen? a :=
  World.frozen?_of_block (h.2 _ hp (cell_lt' hc))
end Go.Ab
namespace Go.Proofs.YtdebpdjkkblcfaaGreatDoor
open Go.RowKit Go.Ab
attribute [local go_sem] Oper.semAt_some

def coverOwn (bf bt : Nat) (_ : Nat) (b : Nat) : Prop := b = bf ∨ b = bt
def encPrefix (p : Int × Int) : Array Value := #[.agg #[.int .u32 p.1, .int .u8 p.2]]

/-- The cells of a row of prefixes. -/
def prefixCells (l : List (Int × Int)) : List Value := l.flatMap fun p => [.int .u32 p.1, .int .u8 p.2]
theorem prefixCells_snoc (l : List (Int × Int)) (p : Int × Int) : prefixCells (l ++ [p]) = prefixCells l ++ [.int .u32 p.1, .int .u8 p.2] := by simp [prefixCells]
end Go.Proofs.YtdebpdjkkblcfaaGreatDoor
