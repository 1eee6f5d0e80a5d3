/- In a region that only reads and draws its order: loads of rows of cells, structs built. -/
import Derived.Test.YteciigbonaecoaaGreatDoorInst
import Derived.Deep.MidRow
namespace Go.Ab
open Go.RowKit
section
variable {P : Program} {ops : Array Oper} {C : World → Prop} {Q : Act → Prop} {a : Act} {o : Oper} {rest : List Oper}
theorem wpQuiet_load_mid (hw : Region.wanted o (yielded ops a.tmps) = true) (ty : TypeId) (x : Operand) (ho : o.op = .load ty x)
    (b f : Nat) (hx : a.eval x = .pointer (some ⟨b, f, none⟩)) (cs : List Value) (d : TypeDesc) (hc : ∀ w, C w → w.rangeAt b f cs)
    (hu : P.underlying ty = some d) (hd : d.isRow = true) (hi : (P.info? ty).map (·.size) = some cs.length)
    (h : wpQuiet P ops C Q rest (a.put o.dst (.agg cs.toArray))) : wpQuiet P ops C Q (o :: rest) a :=
  BigFrame.wpQuiet_want hw fun _ hK => ⟨_, fun w hC => by
    unfold Oper.quietAt execOp
    simp only [ho, hx, Instr.loadAt, Instr.sureAddr, Sem.run_bind, Sem.run_pure, Result.andThen_ok, run_loadVar_mid w b f ty cs d (hc w hC) hu hd hi]
    exact ⟨rfl, rfl⟩, hK _ h⟩
theorem wpQuiet_build (hw : Region.wanted o (yielded ops a.tmps) = true) (t : TypeId) (parts : Array (Nat × Operand)) (ho : o.op = .build t parts) (ps : Array (Nat × Value)) (hp : (parts.map fun (i, x) => (i, a.eval x)) = ps) (v : Value)
    (hr : ∀ w, (Instr.build t ps).run P w = .ok v w) (h : wpQuiet P ops C Q rest (a.put o.dst v)) : wpQuiet P ops C Q (o :: rest) a :=
  BigFrame.wpQuiet_want hw fun _ hK => ⟨v, fun w _ => by
    subst hp
    unfold Oper.quietAt execOp
    simp only [ho, Sem.run_bind, hr, Result.andThen_ok]
    exact ⟨rfl, rfl⟩, hK _ h⟩
theorem wpQuiet_call (hw : Region.wanted o (yielded ops a.tmps) = true) (h : o.quiet P a C (wpQuiet P ops C Q rest)) : wpQuiet P ops C Q (o :: rest) a := BigFrame.wpQuiet_want hw fun _ hK => Oper.quiet_mono hK h
end
theorem range_ext {w : World} {b f : Nat} {cs : List Value} (h : w.rangeAt b f cs) : ∀ w', (∃ x : Ext w, w' = x.w) → w'.rangeAt b f cs := fun _ ⟨x, hx⟩ j u hj => hx ▸ x.up.cell_some' (h j u hj)
end Go.Ab
