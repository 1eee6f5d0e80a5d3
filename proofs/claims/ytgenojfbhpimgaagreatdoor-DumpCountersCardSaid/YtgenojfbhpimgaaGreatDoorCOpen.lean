/- Arguments opened: a slice of strings that is nil or not, an array of 31 integers. -/
import Derived.Test.YtgenojfbhpimgaaGreatDoorZLaid
import Derived.Test.YtgenojfbhpimgaaGreatDoorLent
import Derived.Test.YtgenojfbhpimgaaGreatDoorRd4
import Derived.ChangeMaps5
import Derived.SliceStrings
import Derived.OpenShut
import Derived.WideShapes
namespace Go.Proofs.YtgenojfbhpimgaaGreatDoor
open Go.ChangeShapes Go.WideShapes Go.ChangeAt Go.RowKit Go.Ab
section
variable {H : Type} {enc : TypeId × Value → H} {W : World} {base : Nat} {sp : Nat → Bool} {held : Bool}
theorem i64bd {n : Int} (h : (Lit.int .i64 n).wf = true) : -9223372036854775808 ≤ n ∧ n ≤ 9223372036854775807 := by
  have := bounds_i64 h; omega
set_option maxRecDepth 100000 in
theorem open_strsN {r : Reach} {b0 : Nat} {v : Value} {d : DataW H} {p : List MemPlace} (hv : Value.okWide Tryz.prog W r b0 31 v) (h : DataW.Trod enc Tryz.prog W base sp held 31 v d p) : ∃ l : List (List UInt8), StrRow W v l ∧ NilOk v := by
  obtain ⟨a0, len0, cap0, rfl⟩ := okWide_slice Tryz.underlying31 hv
  obtain ⟨fuel, hf⟩ := h
  rcases open_strings Tryz.underlying31 Tryz.underlying9 (by kernel_rfl) hf with ⟨h0, _⟩ | ⟨a, len, cap, ss, hcs, hb, hl, hm, hss, hx, hcell, hsz⟩
  · simp only [Value.cells, List.cons.injEq, and_true] at h0
    rw [h0]
    exact ⟨[], RowOf.nil W, fun n c h => by cases h; rfl⟩
  · simp only [Value.cells, List.cons.injEq, and_true] at hcs
    rw [hcs]
    have hls : len ≤ ss.length := by rw [hss]; split <;> omega
    obtain ⟨b, o, s⟩ := a
    refine ⟨(ss.take len).map (·.data.toList), ⟨some ⟨b, o, s⟩, cap, ?_, ?_, fun i e he => ?_⟩, fun n c h => by cases h⟩
    · rw [List.length_map, List.length_take, Nat.min_eq_left hls]
    · rw [List.length_map, List.length_take, Nat.min_eq_left hls]; exact hl
    · rw [List.getElem?_map] at he
      obtain ⟨y, hy, rfl⟩ := Option.map_eq_some_iff.1 he
      have hi : i < len := by
        have := (List.getElem?_eq_some_iff.1 hy).1
        rw [List.length_take] at this; omega
      rw [List.getElem?_take, if_pos hi] at hy
      have c0 := hcell 0 (by omega)
      have hs : s = none := by simpa [Addr.add] using World.cell?_spot c0
      subst hs
      have ci := hcell i (by omega)
      rw [List.getD_eq_getElem?_getD, hy] at ci
      have e1 : Addr.add ⟨b, o, none⟩ i = ⟨b, o + i, none⟩ := by cases i <;> simp [Addr.add]
      rw [e1] at ci
      refine ⟨b, o, rfl, cell_lt' ci, fun j u hu => ?_⟩
      cases j with
      | zero =>
        simp only [List.getElem?_cons_zero, Option.some.injEq] at hu
        subst hu
        rw [Nat.add_zero, Nat.mul_one]
        exact ci
      | succ j => simp at hu
set_option maxRecDepth 100000 in
theorem open_arr31i {r : Reach} {b0 : Nat} {v : Value} {d : DataW H} {p : List MemPlace} (hv : Value.okWide Tryz.prog W r b0 33 v) (h : DataW.Trod enc Tryz.prog W base sp held 33 v d p) : ∃ u : List Int, v = .agg (intCellsA u) ∧ u.length = 31 ∧ ∀ n ∈ u, -9223372036854775808 ≤ n ∧ n ≤ 9223372036854775807 := by
  have hagg : ∃ cs, v = .agg cs := by
    unfold Value.okWide at hv
    rw [Tryz.underlying33] at hv
    cases v <;> simp at hv
    exact ⟨_, rfl⟩
  obtain ⟨cs, rfl⟩ := hagg
  obtain ⟨fuel, hf⟩ := h
  obtain ⟨xs, m, rfl, _, hlen, hxl, hat⟩ := DataW.trod_array Tryz.underlying33 hf
  have hl31 : cs.toList.length = 31 := by
    rw [show Tryz.prog.cellsOf 33 = 31 by kernel_rfl] at hlen
    simpa [Value.cells] using hlen
  have each : ∀ i, i < 31 → ∃ n : Int, cs.toList[i]? = some (.int .i64 n) ∧ -9223372036854775808 ≤ n ∧ n ≤ 9223372036854775807 := fun i hi => by
    have h1 := hat i hi
    rw [List.getElem?_eq_getElem (by omega)] at h1
    obtain ⟨n, hn, _, hw⟩ := DataW.trod_int Tryz.underlying3 h1
    rw [show Tryz.prog.cellsOf 3 = 1 by kernel_rfl, Nat.mul_one] at hn
    refine ⟨n, ?_, i64bd hw⟩
    have := congrArg (·[0]?) hn
    simpa [Value.cells, List.getElem?_take, List.getElem?_drop] using this
  refine ⟨cs.toList.map (fun x => match x with | .int _ n => n | _ => 0), ?_, by simpa using hl31, fun n hn => ?_⟩
  · unfold intCellsA
    congr 1
    apply Array.ext'
    rw [List.map_map]
    apply List.ext_getElem?
    intro i
    rw [List.getElem?_map]
    by_cases hi : i < 31
    · obtain ⟨n, h1, _⟩ := each i hi
      rw [h1]; rfl
    · rw [List.getElem?_eq_none (by omega)]; rfl
  · obtain ⟨x, hx, rfl⟩ := List.mem_map.1 hn
    obtain ⟨i, hi⟩ := List.getElem?_of_mem hx
    have h31 : i < 31 := by have := (List.getElem?_eq_some_iff.1 hi).1; omega
    obtain ⟨n, h1, h2⟩ := each i h31
    rw [h1] at hi
    cases hi
    exact h2
end
end Go.Proofs.YtgenojfbhpimgaaGreatDoor
