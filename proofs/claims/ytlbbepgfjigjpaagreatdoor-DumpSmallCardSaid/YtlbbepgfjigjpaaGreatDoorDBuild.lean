/- Which changes no two dumps have (plain laws). Changes and slices of lines and changes that are written out: what the model builds. -/
import Derived.Test.YtlbbepgfjigjpaaGreatDoorDApp
import Derived.Test.YtlbbepgfjigjpaaGreatDoorDList
namespace Go.Ab
open Go.RowKit Go.Proofs.YtlbbepgfjigjpaaGreatDoor
theorem apply_unordered (a L : List Ln) (l : List Ch) (h : orderedL a = false) : applyB a l L = false := by unfold applyB; rw [h]; rfl
/-- The changes from one dump to another one lead there. -/
theorem apply_diff (a b L : List Ln) (ha : orderedL a = true) (hb : orderedL b = true) (hp : (foldA a (diffL a b)).Perm L) (hs : L.Pairwise fun x y => x.cmp y ≤ 0) : L = b ∧ applyB a (diffL a b) L = true := by
  have sa := srt_of_ordered a ha
  have sb := srt_of_ordered b hb
  have hf := fold_diff (a.length + b.length) a b [] (Nat.le_refl _) sa sb (fun x hx => by cases hx) (fun x hx => by cases hx)
  rw [List.nil_append, List.nil_append] at hf
  have hL : L = b := sorted_perm L b hs sb (hp.symm.trans hf)
  refine ⟨hL, ?_⟩
  unfold applyB
  rw [hL, ha, hb]
  simp
end Go.Ab
namespace Go.Ab
open Go.RowKit Go.Proofs.YtlbbepgfjigjpaaGreatDoor
/-- The cells of some lines, or of some changes, one behind the other. -/
def lnBlk (l : List Ln) : Array Value := (l.flatMap Ln.cells).toArray
section
variable {P : Program} {ops : Array Oper} {rest : List Oper} {o : Oper} {a : Act} {w : World} {K : Act → World → Prop} {Q : Exit → Act → World → Prop}
theorem wp_sliceRun (t : TypeId) (n : Nat) (parts : Array (Nat × Operand)) (ho : o.op = .buildSlice t n parts) (ps : Array (Nat × Value)) (hp : (parts.map fun (i, x) => (i, a.eval x)) = ps) (v : Value) (w' : World)
    (hr : (Instr.buildSlice t n ps).run P w = .ok v w') (h : K (a.put o.dst v) w') : o.wp P a w K Q := by
  subst hp
  unfold Oper.wp execOp
  simp only [ho, Sem.run_bind, hr, Result.andThen_ok]
  exact h
theorem wp_buildRun (t : TypeId) (parts : Array (Nat × Operand)) (ho : o.op = .build t parts) (ps : Array (Nat × Value)) (hp : (parts.map fun (i, x) => (i, a.eval x)) = ps) (v : Value) (w' : World)
    (hr : (Instr.build t ps).run P w = .ok v w') (h : K (a.put o.dst v) w') : o.wp P a w K Q := by
  subst hp
  unfold Oper.wp execOp
  simp only [ho, Sem.run_bind, hr, Result.andThen_ok]
  exact h
theorem wpList_sliceRun (hg : o.guard = none) (t : TypeId) (n : Nat) (parts : Array (Nat × Operand)) (ho : o.op = .buildSlice t n parts) (ps : Array (Nat × Value)) (hp : (parts.map fun (i, x) => (i, a.eval x)) = ps) (v : Value) (w' : World)
    (hr : (Instr.buildSlice t n ps).run P w = .ok v w') (h : wpList P ops Q rest (a.put o.dst v) w') : wpList P ops Q (o :: rest) a w :=
  wpList_plain hg fun _ hK => wp_sliceRun t n parts ho ps hp v w' hr (hK _ _ h)
theorem wpList_buildRun (hg : o.guard = none) (t : TypeId) (parts : Array (Nat × Operand)) (ho : o.op = .build t parts) (ps : Array (Nat × Value)) (hp : (parts.map fun (i, x) => (i, a.eval x)) = ps) (v : Value) (w' : World)
    (hr : (Instr.build t ps).run P w = .ok v w') (h : wpList P ops Q rest (a.put o.dst v) w') : wpList P ops Q (o :: rest) a w :=
  wpList_plain hg fun _ hK => wp_buildRun t parts ho ps hp v w' hr (hK _ _ h)
end
end Go.Ab
namespace Go.Proofs.YtlbbepgfjigjpaaGreatDoor
open Go.RowKit Go.Ab
end Go.Proofs.YtlbbepgfjigjpaaGreatDoor
namespace Go.Ab
open Go.RowKit Go.Proofs.YtlbbepgfjigjpaaGreatDoor
theorem LnB.zero : LnB Ln.zero := by constructor <;> first | (constructor <;> decide) | decide
end Go.Ab
namespace Go.Ab
open Go.RowKit Go.Proofs.YtlbbepgfjigjpaaGreatDoor
theorem LnAt.range {w : World} {p : Nat} {l : Ln} (h : LnAt w p l) : w.rangeAt p 0 l.cells := by
  obtain ⟨c0, c1, c2, c3, c4, c5, c6, c7, c8, c9, c10⟩ := h
  intro j v hj
  rw [Nat.zero_add]
  have hj2 : j < 11 := (List.getElem?_eq_some_iff.1 hj).1
  rcases (by omega : j = 0 ∨ j = 1 ∨ j = 2 ∨ j = 3 ∨ j = 4 ∨ j = 5 ∨ j = 6 ∨ j = 7 ∨ j = 8 ∨ j = 9 ∨ j = 10) with rfl | rfl | rfl | rfl | rfl | rfl | rfl | rfl | rfl | rfl | rfl
  · exact Option.some.inj hj ▸ c0
  · exact Option.some.inj hj ▸ c1
  · exact Option.some.inj hj ▸ c2
  · exact Option.some.inj hj ▸ c3
  · exact Option.some.inj hj ▸ c4
  · exact Option.some.inj hj ▸ c5
  · exact Option.some.inj hj ▸ c6
  · exact Option.some.inj hj ▸ c7
  · exact Option.some.inj hj ▸ c8
  · exact Option.some.inj hj ▸ c9
  · exact Option.some.inj hj ▸ c10
theorem UpI.row {w W : World} {n : Nat} {cs : Array Value} {t : TypeId} [h : UpI w W] (hn : W.heap.size = n) (c2 : Array Value) : Up w ((W.alloc (.cells cs t)).setRow n c2) := up_setRowG (h.up.alloc _) (by have := h.up.size; omega) _
end Go.Ab
