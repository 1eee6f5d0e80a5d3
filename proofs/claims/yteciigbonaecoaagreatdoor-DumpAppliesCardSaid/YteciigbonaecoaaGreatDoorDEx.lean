/- The examples of the chapter on dumps (plain facts). The package is awake. -/
import Derived.Test.YteciigbonaecoaaGreatDoorDE
import Derived.Test.YteciigbonaecoaaGreatDoorDG
import Derived.Test.YteciigbonaecoaaGreatDoorDS
import Derived.Test.YteciigbonaecoaaGreatDoorEqCh
namespace Go.Ab
open Go.RowKit Go.Proofs.YteciigbonaecoaaGreatDoor
def exA : Ln := ⟨6, 167772161, 134744072, 40000, 80, 0, 1, true, true, 500, 7⟩
def exB : Ln := ⟨17, 167772161, 134744072, 53, 53, 1, 5, false, false, 30, 1⟩
def exTa : List UInt8 := [54, 32, 49, 48, 46, 48, 46, 48, 46, 49, 58, 52, 48, 48, 48, 48, 32, 56, 46, 56, 46, 56, 46, 56, 58, 56, 48, 32, 105, 110, 115, 105, 100, 101, 32, 116, 99, 112, 45, 111, 112, 101, 110, 32, 114, 101, 112, 108, 105, 101, 100, 32, 97, 115, 115, 117, 114, 101, 100, 32, 100, 101, 97, 100, 108, 105, 110, 101, 32, 53, 48, 48, 32, 115, 101, 101, 110, 32, 55]
def exTb : List UInt8 := [49, 55, 32, 49, 48, 46, 48, 46, 48, 46, 49, 58, 53, 51, 32, 56, 46, 56, 46, 56, 46, 56, 58, 53, 51, 32, 111, 117, 116, 115, 105, 100, 101, 32, 117, 100, 112, 45, 111, 110, 101, 32, 100, 101, 97, 100, 108, 105, 110, 101, 32, 51, 48, 32, 115, 101, 101, 110, 32, 49]
def bad1 : List UInt8 := [49, 55, 32, 49, 48, 46, 48, 46, 48, 46, 49, 58, 53, 51, 32, 56, 46, 56, 46, 56, 46, 56, 58, 53, 51, 32, 111, 117, 116, 115, 105, 100, 101, 32, 117, 100, 112, 45, 111, 110, 101, 32, 97, 115, 115, 117, 114, 101, 100, 32, 100, 101, 97, 100, 108, 105, 110, 101, 32, 51, 48, 32, 115, 101, 101, 110, 32, 49]
def bad2 : List UInt8 := [49, 55, 32, 49, 48, 46, 48, 46, 48, 46, 49, 58, 53, 51, 32, 56, 46, 56, 46, 56, 46, 56, 58, 53, 51, 32, 111, 117, 116, 115, 105, 100, 101, 32, 117, 100, 112, 45, 111, 110, 101, 32, 100, 101, 97, 100, 108, 105, 110, 101, 32, 45, 49, 32, 115, 101, 101, 110, 32, 49]
def bad3 : List UInt8 := [49, 55, 32, 49, 48, 46, 48, 46, 48, 46, 49, 58, 53, 51, 32, 56, 46, 56, 46, 56, 46, 56, 58, 53, 51, 32, 111, 117, 116, 115, 105, 100, 101, 32, 32, 117, 100, 112, 45, 111, 110, 101, 32, 100, 101, 97, 100, 108, 105, 110, 101, 32, 51, 48, 32, 115, 101, 101, 110, 32, 49]
def exC : List Int := [0, 0, 0, 0, 0, 0, 0, 0, 0, 0, 0, 1, 0, 0, 0, 0, 0, 0, 0, 0, 3, 0, 0, 0, 0, 0, 0, 0, 0, 0, 0]
theorem exA_b : LnB exA := by constructor <;> first | (constructor <;> decide) | decide
theorem exB_b : LnB exB := by constructor <;> first | (constructor <;> decide) | decide
theorem ex_ordered : orderedL [exA, exB] = true := by decide +kernel
theorem ex_ordered1 : orderedL [exA] = true := by decide +kernel
theorem ex_ta : exA.text = exTa := by decide +kernel
theorem ex_tb : exB.text = exTb := by decide +kernel
theorem ex_reads : readsL [exTa, exTb] = (some [exA, exB], 0) := by decide +kernel
theorem bad1_none : readLn bad1 = none := by decide +kernel
theorem bad2_none : readLn bad2 = none := by decide +kernel
theorem bad3_none : readLn bad3 = none := by decide +kernel
theorem ex_diff : diffL [exA] [exA, exB] = [⟨1, Ln.zero, exB⟩] := by decide +kernel
theorem ex_counts : countsL exC = [[116, 116, 108, 32, 49], [102, 108, 111, 119, 32, 51]] := by decide +kernel
theorem ex_countsB : (exC.all fun n => decide (0 ≤ n)) = true := by decide +kernel
end Go.Ab
namespace Go.Ab
open Go.RowKit Go.Proofs.YteciigbonaecoaaGreatDoor
theorem strCells_flat : ∀ l : List (List UInt8), l.flatMap (fun x : List UInt8 => [Value.string ⟨x.toArray⟩]) = strCells l
  | [] => rfl
  | a :: t => by rw [List.flatMap_cons, strCells_flat t]; rfl
theorem StrRow.of_owns {w : World} {base : Nat} {t : TypeId} {v : Value} {l : List (List UInt8)} (h : w.ownsRow base t 1 v l.length (strCells l)) : StrRow w v l :=
  RowOf.of_owns (cells := fun x : List UInt8 => [Value.string ⟨x.toArray⟩]) (fun _ => rfl) (by rw [show l.flatMap (fun x : List UInt8 => [Value.string ⟨x.toArray⟩]) = strCells l by unfold strCells; exact strCells_flat l]; exact h)
theorem LnRow.of_owns {w : World} {base : Nat} {t : TypeId} {v : Value} {l : List Ln} (h : w.ownsRow base t 11 v l.length (l.flatMap Ln.cells)) : LnRow w v l := RowOf.of_owns (cells := Ln.cells) (fun x => x.cells_length) h
theorem alloc_new {w : World} {n : Nat} {o : Obj} (h : w.heap.size = n) : (w.alloc o).heap[n]? = some o := by subst h; exact World.alloc_heap_new w o
theorem ex_bd : ∀ x ∈ [exA, exB], LnB x := by
  intro x hx
  rcases List.mem_cons.1 hx with rfl | hx
  · exact exA_b
  · obtain rfl := List.mem_singleton.1 hx; exact exB_b
end Go.Ab
namespace Go.Proofs.YteciigbonaecoaaGreatDoor
open Go.RowKit Go.Ab
set_option maxHeartbeats 8000000 in
set_option maxRecDepth 100000 in
theorem dexamples_any (w : World) : Calls Tryz.prog 32 #[] w fun e w' => ∃ p q, e = .returned (.tuple #[.slice (some ⟨p, 0, none⟩) 2 2, .slice (some ⟨q, 0, none⟩) 2 2]) ∧ LnRow w' (.slice (some ⟨p, 0, none⟩) 2 2) [exA, exB] ∧ StrRow w' (.slice (some ⟨q, 0, none⟩) 2 2) [exTa, exTb] ∧ ∃ x : Ext w, w' = x.w := by
  go_enter Tryz.func32, Tryz.ntmps32
  go_wp2
  go_ret2
  refine ⟨_, _, rfl, ?_, ?_, mkI⟩
  · refine RowOf.of_block (cells := Ln.cells) (k := 11) (t := 44) (fz := (0, 0)) (fun x => x.cells_length) (l := [exA, exB]) ?_ (Nat.le_refl _)
    rw [Below.heap_alloc _ _ _ (by simp)]
    exact alloc_new rfl
  · refine RowOf.of_block (cells := fun x : List UInt8 => [Value.string ⟨x.toArray⟩]) (t := 9) (fz := (0, 0)) (fun _ => rfl) (l := [exTa, exTb]) ?_ (Nat.le_refl _)
    exact alloc_new (by simp)
end Go.Proofs.YteciigbonaecoaaGreatDoor
