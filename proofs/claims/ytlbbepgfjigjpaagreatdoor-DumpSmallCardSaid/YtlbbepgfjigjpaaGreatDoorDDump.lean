/- The law of the keys: what AddrKeys answers. Dumps, their changes, and counters (plain definitions and laws). -/
import Derived.Test.YtlbbepgfjigjpaaGreatDoorDLine
import Derived.Test.YtlbbepgfjigjpaaGreatDoorAddr3
import Derived.Test.YtlbbepgfjigjpaaGreatDoorNames
namespace Go.Ab
theorem cmpI_neg (x y : Int) : cmpI x y = - cmpI y x := by unfold cmpI; split <;> split <;> omega
theorem keyCmpFrom_neg (f g : Nat → Int) : ∀ n i, keyCmpFrom f g n i = - keyCmpFrom g f n i
  | 0, _ => by simp [keyCmpFrom]
  | n + 1, i => by
    rw [keyCmpFrom, keyCmpFrom]
    by_cases h : f i = g i
    · rw [if_pos h, if_pos h.symm, keyCmpFrom_neg]
    · rw [if_neg h, if_neg (fun e => h e.symm), cmpI_neg]
theorem keyCmpFrom_zero (f g : Nat → Int) : ∀ n i, keyCmpFrom f g n i = 0 ↔ ∀ j, j < n → f (i + j) = g (i + j)
  | 0, _ => by simp [keyCmpFrom]
  | n + 1, i => by
    rw [keyCmpFrom]
    by_cases h : f i = g i
    · rw [if_pos h, keyCmpFrom_zero]
      constructor
      · intro hh j hj
        rcases j with _ | j
        · exact h
        · have := hh j (by omega); rwa [Nat.add_right_comm] at this
      · intro hh j hj
        have := hh (j + 1) (by omega); rwa [Nat.add_right_comm]
    · rw [if_neg h]
      constructor
      · intro e; exfalso; unfold cmpI at e; split at e <;> (try split at e) <;> omega
      · intro hh; exact (h (hh 0 (by omega))).elim
theorem cmpI_le {x y : Int} (h : cmpI x y ≤ 0) : x ≤ y := by unfold cmpI at h; split at h <;> (try split at h) <;> omega
theorem cmpI_of_lt {x y : Int} (h : x < y) : cmpI x y = -1 := by unfold cmpI; rw [if_pos h]
theorem keyCmpFrom_trans (f g h : Nat → Int) : ∀ n i, keyCmpFrom f g n i ≤ 0 → keyCmpFrom g h n i ≤ 0 → keyCmpFrom f h n i ≤ 0 ∧ (keyCmpFrom f h n i = 0 → keyCmpFrom f g n i = 0 ∧ keyCmpFrom g h n i = 0)
  | 0, _ => by simp [keyCmpFrom]
  | n + 1, i => by
    rw [keyCmpFrom, keyCmpFrom, keyCmpFrom]
    by_cases h1 : f i = g i
    · by_cases h2 : g i = h i
      · rw [if_pos h1, if_pos h2, if_pos (h1.trans h2)]; exact keyCmpFrom_trans f g h n (i + 1)
      · rw [if_pos h1, if_neg h2, if_neg (by rw [h1]; exact h2)]
        intro a b
        have := cmpI_le b
        rw [h1]
        have := cmpI_of_lt (x := g i) (y := h i) (by omega)
        omega
    · by_cases h2 : g i = h i
      · rw [if_neg h1, if_pos h2, if_neg (by rw [← h2]; exact h1)]
        intro a b
        have := cmpI_le a
        rw [← h2]
        have := cmpI_of_lt (x := f i) (y := g i) (by omega)
        omega
      · rw [if_neg h1, if_neg h2]
        intro a b
        have := cmpI_le a
        have := cmpI_le b
        rw [if_neg (by omega), cmpI_of_lt (x := f i) (y := h i) (by omega)]
        omega
end Go.Ab
namespace Go.Proofs.YtlbbepgfjigjpaaGreatDoor
open Go.RowKit Go.Ab
theorem cmpK (pr s d sp dp pr' s' d' sp' dp' C : Int) (w : World) (k : KeyB pr s d sp dp) (k' : KeyB pr' s' d' sp' dp') (hC : Hid (keyCmp pr s d sp dp pr' s' d' sp' dp' = C)) :
    Gives Tryz.prog 55 #[.agg #[.int .u8 pr, .int .u32 s, .int .u32 d, .int .u16 sp, .int .u16 dp], .agg #[.int .u8 pr', .int .u32 s', .int .u32 d', .int .u16 sp', .int .u16 dp']] w
      (.int .i64 C) := hC.out ▸ compare_any pr s d sp dp pr' s' d' sp' dp' w k.r0 k.r1 k.sp0 k.sp1 k.dp0 k.dp1 k'.r0 k'.r1 k'.sp0 k'.sp1 k'.dp0 k'.dp1
end Go.Proofs.YtlbbepgfjigjpaaGreatDoor
namespace Go.Ab
open Go.Proofs.YtlbbepgfjigjpaaGreatDoor
def Ln.cmp (a b : Ln) : Int := keyCmp a.pr a.s a.d a.sp a.dp b.pr b.s b.d b.sp b.dp
/-- Is a line right, and does its key come after the one ahead of it? -/
def okAt (l : List Ln) (k : Nat) : Bool :=
  match l[k]? with
  | none => false
  | some x => x.right && (match k with | 0 => true | j + 1 => match l[j]? with | some y => decide (y.cmp x < 0) | none => false)
def orderedL (l : List Ln) : Bool := (List.range l.length).all (okAt l)
theorem okAt_zero (l : List Ln) (x : Ln) (h : l[0]? = some x) : okAt l 0 = x.right := by simp [okAt, h]
theorem okAt_succ (l : List Ln) (k : Nat) (x y : Ln) (h : l[k + 1]? = some x) (hy : l[k]? = some y) : okAt l (k + 1) = (x.right && decide (y.cmp x < 0)) := by simp [okAt, h, hy]
theorem ordered_no {l : List Ln} {k : Nat} (hk : k < l.length) (h : okAt l k = false) : orderedL l = false := by
  unfold orderedL
  rw [List.all_eq_false]
  exact ⟨k, List.mem_range.2 hk, by rw [h]; simp⟩
theorem ordered_yes {l : List Ln} (h : ∀ k, k < l.length → okAt l k = true) : orderedL l = true := by
  unfold orderedL
  rw [List.all_eq_true]
  exact fun k hk => h k (List.mem_range.1 hk)
theorem ordered_at {l : List Ln} (h : orderedL l = true) {k : Nat} (hk : k < l.length) : okAt l k = true := by
  unfold orderedL at h
  rw [List.all_eq_true] at h
  exact h k (List.mem_range.2 hk)
theorem ordered_right {l : List Ln} (h : orderedL l = true) {x : Ln} (hx : x ∈ l) : x.right = true := by
  obtain ⟨k, hk⟩ := List.getElem?_of_mem hx
  have := ordered_at h (List.getElem?_eq_some_iff.1 hk).1
  unfold okAt at this
  rw [hk] at this
  simp only [Bool.and_eq_true] at this
  exact this.1
structure Ch where
  kind : Int
  old : Ln
  new : Ln
  deriving DecidableEq
def Ln.cells (l : Ln) : List Value := [.int .u8 l.pr, .int .u32 l.s, .int .u32 l.d, .int .u16 l.sp, .int .u16 l.dp, .int .u8 l.sd, .int .u8 l.cl, .bool l.rp, .bool l.ss, .int .i64 l.dl, .int .i64 l.sn]
def Ch.cells (c : Ch) : List Value := .int .u8 c.kind :: (c.old.cells ++ c.new.cells)
def Ch.val (c : Ch) : Value := .agg c.cells.toArray
theorem Ln.cells_length (l : Ln) : l.cells.length = 11 := rfl
theorem Ch.cells_length (c : Ch) : c.cells.length = 23 := rfl
/-- Two dumps gone through together by keys. -/
def pairsL : Nat → List Ln → List Ln → List (Option Ln × Option Ln)
  | 0, _, _ => []
  | _ + 1, [], [] => []
  | n + 1, a :: us, [] => (some a, none) :: pairsL n us []
  | n + 1, [], b :: bs => (none, some b) :: pairsL n [] bs
  | n + 1, a :: us, b :: bs => if a.cmp b < 0 then (some a, none) :: pairsL n us (b :: bs) else if 0 < a.cmp b then (none, some b) :: pairsL n (a :: us) bs else (some a, some b) :: pairsL n us bs
def chOf : Option Ln × Option Ln → List Ch
  | (none, some b) => [⟨1, Ln.zero, b⟩]
  | (some a, none) => [⟨2, a, Ln.zero⟩]
  | (some a, some b) => if a = b then [] else [⟨3, a, b⟩]
  | (none, none) => []
def diffL (a b : List Ln) : List Ch := (pairsL (a.length + b.length) a b).flatMap chOf
/-- The lines of counters. -/
def countW (r : Nat) (n : Int) : List (List UInt8) := if 1 ≤ r ∧ 0 < n then [Lib.join [(namesL[r]?).getD [], dec n] [32]] else []
def countsFrom : Nat → List Int → List (List UInt8)
  | _, [] => []
  | r, n :: t => countW r n ++ countsFrom (r + 1) t
def countsL (c : List Int) : List (List UInt8) := countsFrom 0 c
end Go.Ab
