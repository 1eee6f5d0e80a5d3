/- Dumps, their changes, and counters (plain definitions and laws). -/
import Derived.Test.YteciigbonaecoaaGreatDoorDLine
import Derived.Test.YteciigbonaecoaaGreatDoorKeysPlain
import Derived.Test.YteciigbonaecoaaGreatDoorNames
namespace Go.Ab
open Go.Proofs.YteciigbonaecoaaGreatDoor
def Ln.cmp (a b : Ln) : Int := keyCmp a.pr a.s a.d a.sp a.dp b.pr b.s b.d b.sp b.dp
/-- Is a line right, and does its key come after the one ahead of it? -/
def okAt (l : List Ln) (k : Nat) : Bool :=
  match l[k]? with
  | none => false
  | some x => x.right && (match k with | 0 => true | j + 1 => match l[j]? with | some y => decide (y.cmp x < 0) | none => false)
def orderedL (l : List Ln) : Bool := (List.range l.length).all (okAt l)
theorem okAt_zero (l : List Ln) (x : Ln) (h : l[0]? = some x) : okAt l 0 = x.right := by simp [okAt, h]
theorem okAt_succ (l : List Ln) (k : Nat) (x y : Ln) (h : l[k + 1]? = some x) (hy : l[k]? = some y) : okAt l (k + 1) = (x.right && decide (y.cmp x < 0)) := by simp [okAt, h, hy]
theorem ordered_no {l : List Ln} {k : Nat} (hk : k < l.length) (h : okAt l k = false) : orderedL l = false := by
  unfold orderedL
  rw [List.all_eq_false]
  exact ⟨k, List.mem_range.2 hk, by rw [h]; simp⟩
theorem ordered_yes {l : List Ln} (h : ∀ k, k < l.length → okAt l k = true) : orderedL l = true := by
  unfold orderedL
  rw [List.all_eq_true]
  exact fun k hk => h k (List.mem_range.1 hk)
theorem ordered_at {l : List Ln} (h : orderedL l = true) {k : Nat} (hk : k < l.length) : okAt l k = true := by
  unfold orderedL at h
  rw [List.all_eq_true] at h
  exact h k (List.mem_range.2 hk)
theorem ordered_right {l : List Ln} (h : orderedL l = true) {x : Ln} (hx : x ∈ l) : x.right = true := by
  obtain ⟨k, hk⟩ := List.getElem?_of_mem hx
  have := ordered_at h (List.getElem?_eq_some_iff.1 hk).1
  unfold okAt at this
  rw [hk] at this
  simp only [Bool.and_eq_true] at this
  exact this.1
structure Ch where
  kind : Int
  old : Ln
  new : Ln
  deriving DecidableEq
def Ln.cells (l : Ln) : List Value := [.int .u8 l.pr, .int .u32 l.s, .int .u32 l.d, .int .u16 l.sp, .int .u16 l.dp, .int .u8 l.sd, .int .u8 l.cl, .bool l.rp, .bool l.ss, .int .i64 l.dl, .int .i64 l.sn]
def Ch.cells (c : Ch) : List Value := .int .u8 c.kind :: (c.old.cells ++ c.new.cells)
def Ch.val (c : Ch) : Value := .agg c.cells.toArray
theorem Ln.cells_length (l : Ln) : l.cells.length = 11 := rfl
theorem Ch.cells_length (c : Ch) : c.cells.length = 23 := rfl
/-- Two dumps gone through together by keys. -/
def pairsL : Nat → List Ln → List Ln → List (Option Ln × Option Ln)
  | 0, _, _ => []
  | _ + 1, [], [] => []
  | n + 1, a :: us, [] => (some a, none) :: pairsL n us []
  | n + 1, [], b :: bs => (none, some b) :: pairsL n [] bs
  | n + 1, a :: us, b :: bs => if a.cmp b < 0 then (some a, none) :: pairsL n us (b :: bs) else if 0 < a.cmp b then (none, some b) :: pairsL n (a :: us) bs else (some a, some b) :: pairsL n us bs
def chOf : Option Ln × Option Ln → List Ch
  | (none, some b) => [⟨1, Ln.zero, b⟩]
  | (some a, none) => [⟨2, a, Ln.zero⟩]
  | (some a, some b) => if a = b then [] else [⟨3, a, b⟩]
  | (none, none) => []
def diffL (a b : List Ln) : List Ch := (pairsL (a.length + b.length) a b).flatMap chOf
/-- The lines of counters. -/
def countW (r : Nat) (n : Int) : List (List UInt8) := if 1 ≤ r ∧ 0 < n then [Lib.join [(namesL[r]?).getD [], dec n] [32]] else []
def countsFrom : Nat → List Int → List (List UInt8)
  | _, [] => []
  | r, n :: t => countW r n ++ countsFrom (r + 1) t
def countsL (c : List Int) : List (List UInt8) := countsFrom 0 c
end Go.Ab
