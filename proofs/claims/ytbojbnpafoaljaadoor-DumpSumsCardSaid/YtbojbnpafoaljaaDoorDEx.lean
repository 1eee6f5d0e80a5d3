/- The package is awake. -/
import Derived.Test.YtbojbnpafoaljaaDoorDExs
import Derived.Test.YtbojbnpafoaljaaDoorDS
import Derived.Test.YtbojbnpafoaljaaDoorEqCh
import Derived.Test.YtbojbnpafoaljaaDoorEqLn
namespace Go.Ab
open Go.RowKit Go.Proofs.YtbojbnpafoaljaaDoor
theorem strCells_flat : ∀ l : List (List UInt8), l.flatMap (fun x : List UInt8 => [Value.string ⟨x.toArray⟩]) = strCells l
  | [] => rfl
  | a :: t => by rw [List.flatMap_cons, strCells_flat t]; rfl
theorem StrRow.of_owns {w : World} {base : Nat} {t : TypeId} {v : Value} {l : List (List UInt8)} (h : w.ownsRow base t 1 v l.length (strCells l)) : StrRow w v l :=
  RowOf.of_owns (cells := fun x : List UInt8 => [Value.string ⟨x.toArray⟩]) (fun _ => rfl) (by rw [show l.flatMap (fun x : List UInt8 => [Value.string ⟨x.toArray⟩]) = strCells l by unfold strCells; exact strCells_flat l]; exact h)
theorem LnRow.of_owns {w : World} {base : Nat} {t : TypeId} {v : Value} {l : List Ln} (h : w.ownsRow base t 11 v l.length (l.flatMap Ln.cells)) : LnRow w v l := RowOf.of_owns (cells := Ln.cells) (fun x => x.cells_length) h
theorem alloc_new {w : World} {n : Nat} {o : Obj} (h : w.heap.size = n) : (w.alloc o).heap[n]? = some o := by subst h; exact World.alloc_heap_new w o
theorem ex_bd : ∀ x ∈ [exA, exB], LnB x := by
  intro x hx
  rcases List.mem_cons.1 hx with rfl | hx
  · exact exA_b
  · obtain rfl := List.mem_singleton.1 hx; exact exB_b
end Go.Ab
namespace Go.Proofs.YtbojbnpafoaljaaDoor
open Go.RowKit Go.Ab
set_option maxHeartbeats 8000000 in
set_option maxRecDepth 100000 in
theorem dexamples_any (w : World) : Calls Tryd.prog 8 #[] w fun e w' => ∃ p q, e = .returned (.tuple #[.slice (some ⟨p, 0, none⟩) 2 2, .slice (some ⟨q, 0, none⟩) 2 2]) ∧ LnRow w' (.slice (some ⟨p, 0, none⟩) 2 2) [exA, exB] ∧ StrRow w' (.slice (some ⟨q, 0, none⟩) 2 2) [exTa, exTb] ∧ ∃ x : Ext w, w' = x.w := by
  go_enter Tryd.func8, Tryd.ntmps8
  go_wp2
  go_ret2
  refine ⟨_, _, rfl, ?_, ?_, mkI⟩
  · refine RowOf.of_block (cells := Ln.cells) (k := 11) (t := 44) (fz := (0, 0)) (fun x => x.cells_length) (l := [exA, exB]) ?_ (Nat.le_refl _)
    rw [Below.heap_alloc _ _ _ (by simp)]
    exact alloc_new rfl
  · refine RowOf.of_block (cells := fun x : List UInt8 => [Value.string ⟨x.toArray⟩]) (t := 9) (fz := (0, 0)) (fun _ => rfl) (l := [exTa, exTb]) ?_ (Nat.le_refl _)
    exact alloc_new (by simp)
end Go.Proofs.YtbojbnpafoaljaaDoor
