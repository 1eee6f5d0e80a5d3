/- Arrays of 31 numbers: compared with themselves, and part by part. -/
import Derived.Test.YtbojbnpafoaljaaDoorDRc
import Derived.ChangeKeysEq
namespace Go.Ab
open Go.RowKit Go.Proofs.YtbojbnpafoaljaaDoor
/-- The first k counters, the others 0. -/
def upC (C : List Int) (k : Nat) : List Int := C.take k ++ List.replicate (31 - k) 0
theorem upC_zero (C : List Int) : upC C 0 = zeroC := rfl
theorem upC_all (C : List Int) (h : C.length = 31) : upC C 31 = C := by unfold upC; rw [List.take_of_length_le (by omega)]; simp
theorem upC_length (C : List Int) (k : Nat) (h : C.length = 31) (hk : k ≤ 31) : (upC C k).length = 31 := by unfold upC; simp; omega
theorem upC_set (C : List Int) (k : Nat) (n : Int) (h : C.length = 31) (hn : C[k]? = some n) : (upC C k).set k n = upC C (k + 1) := by
  obtain ⟨hk, rfl⟩ := List.getElem?_eq_some_iff.1 hn
  unfold upC
  have hl : (C.take k).length = k := by rw [List.length_take]; omega
  rw [List.set_append_right _ _ (by omega), hl, Nat.sub_self, show 31 - k = (31 - (k + 1)) + 1 by omega, List.replicate_succ, List.set_cons_zero, show C.take (k + 1) = C.take k ++ [C[k]] from List.take_succ_eq_append_getElem hk, List.append_assoc]
  rfl
theorem upC_at (C : List Int) (k : Nat) (h : C.length = 31) (hk : k < 31) : (intCellsA (upC C k))[k]? = some (.int .i64 0) := by
  have hl : (C.take k).length = k := by rw [List.length_take]; omega
  unfold intCellsA upC
  rw [List.getElem?_toArray, List.getElem?_map, List.getElem?_append_right (by omega), hl, Nat.sub_self, show 31 - k = (31 - (k + 1)) + 1 by omega, List.replicate_succ]
  rfl
theorem intCellsA_get {c : List Int} {i : Nat} {n : Int} (h : c[i]? = some n) : (intCellsA c)[i]? = some (.int .i64 n) := by
  unfold intCellsA; rw [List.getElem?_toArray, List.getElem?_map, h]; rfl
theorem part1 {P : Program} (w : World) (e : TypeId) (xs : Array Value) (i : Nat) (v : Value) {d : TypeDesc} (hu : P.underlying e = some d) (hd : (match d with | .struct _ | .array _ _ => true | _ => false) = false) (h : xs[i]? = some v) : (part e xs i).run P w = .ok v w := by
  have hagg : (isAgg e).run P w = .ok false w := by
    unfold isAgg
    rw [Sem.run_bind, run_underlying hu w]
    cases d <;> simp_all
  simp [part, Sem.run_bind, hagg, h]
end Go.Ab
namespace Go.Proofs.YtbojbnpafoaljaaDoor
open Go.RowKit Go.Ab
theorem eqItems_self (w : World) (d : Nat) (c : List Int) : ∀ is : List Nat, (∀ i ∈ is, i < c.length) → (Op.eqItems (d + 1) 3 1 (intCellsA c) (intCellsA c) is).run Tryd.prog w = .ok true w
  | [], _ => by simp [Op.eqItems]
  | i :: is, h => by
    have hi := h i (by simp)
    have p := part1 (P := Tryd.prog) w 3 (intCellsA c) i _ Tryd.underlying3 rfl (intCellsA_get (List.getElem?_eq_getElem hi))
    have e := run_equalIn_int (P := Tryd.prog) w d 3 .i64 .i64 c[i] c[i] Tryd.underlying3
    simp only [Op.eqItems, Sem.run_bind, Nat.mul_one, p, e, Result.andThen_ok]
    simp [eqItems_self w d c is fun j hj => h j (by simp [hj])]
class IArr (cs : Array Value) : Prop where
  ok : ∃ c : List Int, c.length = 31 ∧ cs = intCellsA c
theorem eq_arr (w : World) (cs : Array Value) [h : IArr cs] : (Op.equalIn 10000 26 (.agg cs) (.agg cs)).run Tryd.prog w = .ok true w := by
  obtain ⟨c, hc, rfl⟩ := h.ok
  refine (run_equalIn_array (P := Tryd.prog) (w := w) 9999 (t := 26) (e := 3) (n := 31) (i := (Tryd.prog.info? 3).getD default) _ _ Tryd.underlying26 (by kernel_rfl)).trans ?_
  rw [show Tryd.prog.cellsOf 3 = 1 by kernel_rfl]
  exact eqItems_self w 9998 c _ fun i hi => by rw [hc]; exact List.mem_range.1 hi
end Go.Proofs.YtbojbnpafoaljaaDoor
