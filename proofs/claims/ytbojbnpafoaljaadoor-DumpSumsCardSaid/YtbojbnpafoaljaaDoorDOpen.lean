/- Arguments opened: a slice of strings, an array of 31 numbers. -/
import Derived.Test.YtbojbnpafoaljaaDoorDSumsAll
import Derived.Test.YtbojbnpafoaljaaDoorDLaid
import Derived.ChangeMaps5
import Derived.SliceStrings
import Derived.OpenShut
import Derived.WideShapes
namespace Go.Proofs.YtbojbnpafoaljaaDoor
open Go.ChangeShapes Go.WideShapes Go.ChangeAt Go.RowKit Go.Ab
section
variable {H : Type} {enc : TypeId × Value → H} {W : World} {base : Nat} {sp : Nat → Bool} {held : Bool}
theorem u16bd {n : Int} (h : (Lit.int .u16 n).wf = true) : 0 ≤ n ∧ n < 65536 := by have := bounds_u16 h; omega
set_option maxRecDepth 100000 in
theorem open_strsL {r : Reach} {b0 : Nat} {v : Value} {d : DataW H} {p : List MemPlace} (hv : Value.okWide Tryd.prog W r b0 24 v) (h : DataW.Trod enc Tryd.prog W base sp held 24 v d p) : ∃ l : List (List UInt8), StrRow W v l := by
  obtain ⟨a0, len0, cap0, rfl⟩ := okWide_slice Tryd.underlying24 hv
  obtain ⟨fuel, hf⟩ := h
  rcases open_strings Tryd.underlying24 Tryd.underlying9 (by kernel_rfl) hf with ⟨h0, _⟩ | ⟨a, len, cap, ss, hcs, hb, hl, hm, hss, hx, hcell, hsz⟩
  · simp only [Value.cells, List.cons.injEq, and_true] at h0
    rw [h0]
    exact ⟨[], RowOf.nil W⟩
  · simp only [Value.cells, List.cons.injEq, and_true] at hcs
    rw [hcs]
    have hls : len ≤ ss.length := by rw [hss]; split <;> omega
    obtain ⟨b, o, s⟩ := a
    refine ⟨(ss.take len).map (·.data.toList), ⟨some ⟨b, o, s⟩, cap, ?_, ?_, fun i e he => ?_⟩⟩
    · rw [List.length_map, List.length_take, Nat.min_eq_left hls]
    · rw [List.length_map, List.length_take, Nat.min_eq_left hls]; exact hl
    · rw [List.getElem?_map] at he
      obtain ⟨y, hy, rfl⟩ := Option.map_eq_some_iff.1 he
      have hi : i < len := by
        have := (List.getElem?_eq_some_iff.1 hy).1
        rw [List.length_take] at this; omega
      rw [List.getElem?_take, if_pos hi] at hy
      have c0 := hcell 0 (by omega)
      have hs : s = none := by simpa [Addr.add] using World.cell?_spot c0
      subst hs
      have ci := hcell i (by omega)
      rw [List.getD_eq_getElem?_getD, hy] at ci
      have e1 : Addr.add ⟨b, o, none⟩ i = ⟨b, o + i, none⟩ := by cases i <;> simp [Addr.add]
      rw [e1] at ci
      refine ⟨b, o, rfl, cell_lt' ci, fun j u hu => ?_⟩
      cases j with
      | zero =>
        simp only [List.getElem?_cons_zero, Option.some.injEq] at hu
        subst hu
        rw [Nat.add_zero, Nat.mul_one]
        exact ci
      | succ j => simp at hu
set_option maxRecDepth 100000 in
theorem open_arr31 {r : Reach} {b0 : Nat} {v : Value} {d : DataW H} {p : List MemPlace} (hv : Value.okWide Tryd.prog W r b0 23 v) (h : DataW.Trod enc Tryd.prog W base sp held 23 v d p) : ∃ u : List Int, v = .agg (u16A u) ∧ u.length = 31 ∧ ∀ n ∈ u, 0 ≤ n ∧ n < 65536 := by
  have hagg : ∃ cs, v = .agg cs := by
    unfold Value.okWide at hv
    rw [Tryd.underlying23] at hv
    cases v <;> simp at hv
    exact ⟨_, rfl⟩
  obtain ⟨cs, rfl⟩ := hagg
  obtain ⟨fuel, hf⟩ := h
  obtain ⟨xs, m, rfl, _, hlen, hxl, hat⟩ := DataW.trod_array Tryd.underlying23 hf
  have hl31 : cs.toList.length = 31 := by
    rw [show Tryd.prog.cellsOf 23 = 31 by kernel_rfl] at hlen
    simpa [Value.cells] using hlen
  have each : ∀ i, i < 31 → ∃ n : Int, cs.toList[i]? = some (.int .u16 n) ∧ 0 ≤ n ∧ n < 65536 := fun i hi => by
    have h1 := hat i hi
    rw [List.getElem?_eq_getElem (by omega)] at h1
    obtain ⟨n, hn, _, hw⟩ := DataW.trod_int Tryd.underlying22 h1
    rw [show Tryd.prog.cellsOf 22 = 1 by kernel_rfl, Nat.mul_one] at hn
    refine ⟨n, ?_, u16bd hw⟩
    have := congrArg (·[0]?) hn
    simpa [Value.cells, List.getElem?_take, List.getElem?_drop] using this
  refine ⟨cs.toList.map (fun x => match x with | .int _ n => n | _ => 0), ?_, by simpa using hl31, fun n hn => ?_⟩
  · unfold u16A
    congr 1
    apply Array.ext'
    rw [List.map_map]
    apply List.ext_getElem?
    intro i
    rw [List.getElem?_map]
    by_cases hi : i < 31
    · obtain ⟨n, h1, _⟩ := each i hi
      rw [h1]; rfl
    · rw [List.getElem?_eq_none (by omega)]; rfl
  · obtain ⟨x, hx, rfl⟩ := List.mem_map.1 hn
    obtain ⟨i, hi⟩ := List.getElem?_of_mem hx
    have h31 : i < 31 := by have := (List.getElem?_eq_some_iff.1 hi).1; omega
    obtain ⟨n, h1, h2⟩ := each i h31
    rw [h1] at hi
    cases hi
    exact h2
end
end Go.Proofs.YtbojbnpafoaljaaDoor
