/- Arguments opened: numbers in a slice. (The list's law began as open_pieces of SOpen.) -/
import Derived.Test.YtgfkcbflnkpogaaGreatDoorSOpen
import Derived.Test.YtgfkcbflnkpogaaGreatDoorSp18
namespace Go.Proofs.YtgfkcbflnkpogaaGreatDoor
open Go.ChangeShapes Go.WideShapes Go.ChangeAt Go.RowKit Go.Ab Go.Joins
open Go.Deep
section
variable {H : Type} {enc : TypeId × Value → H} {W : World} {base : Nat} {sp : Nat → Bool} {held : Bool}
abbrev U32B (n : Int) : Prop := 0 ≤ n ∧ n < 4294967296
theorem cells_num : Tryz.prog.cellsOf 37 = 1 := by kernel_rfl
theorem open_num_at {fuel : Nat} {cs : List Value} {x : DataW H × List MemPlace} (h : DataW.trod enc Tryz.prog W base sp held fuel 37 cs = some x) (_hl : cs.length = 1) : ∃ y : Int, cs = u32Cells y ∧ U32B y := by
  obtain ⟨z, e, _, w⟩ := DataW.trod_int Tryz.underlying37 h
  exact ⟨z, e, u32b w⟩
set_option maxRecDepth 100000 in
theorem open_nums {r : Reach} {b0 : Nat} {v : Value} {d : DataW H} {p : List MemPlace} (hv : Value.okWide Tryz.prog W r b0 55 v) (h : DataW.Trod enc Tryz.prog W base sp held 55 v d p) : ∃ l : List Int, RowOf u32Cells 1 W v l ∧ (∀ x ∈ l, U32B x) ∧ l.length ≤ maxLen := by
  obtain ⟨a0, len0, cap0, rfl⟩ := okWide_slice Tryz.underlying55 hv
  obtain ⟨fuel, hf⟩ := h
  rcases open_slice Tryz.underlying55 hf with ⟨h0, _⟩ | ⟨a, len, cap, m, n, D, Pl, hcs, hb, hl, hm, hmm, hx, hi⟩
  · simp only [Value.cells, List.cons.injEq, and_true] at h0
    rw [h0]
    exact ⟨[], RowOf.nil W, fun x hx => (List.not_mem_nil hx).elim, Nat.zero_le _⟩
  · simp only [Value.cells, List.cons.injEq, and_true] at hcs
    rw [hcs]
    have hlm : len ≤ m := by rw [hmm]; split <;> omega
    obtain ⟨b, o, s⟩ := a
    have hall : ∀ i, i < len → ∃ y : Int, U32B y ∧ s = none ∧ b < W.heap.size ∧ ∀ (j : Nat) u, (u32Cells y)[j]? = some u → W.cell? ⟨b, o + i * 1 + j, none⟩ = some u := by
      intro i hil
      obtain ⟨cs', hc, ht⟩ := hi i (by omega)
      rw [cells_num] at hc
      obtain ⟨_, hcl, hat⟩ := World.cells?_some hc
      obtain ⟨y, rfl, hyb⟩ := open_num_at ht (by simpa using hcl)
      have h0 := hat 0 (by omega)
      have hi0 : s = none := by
        obtain ⟨cs0, hc0, ht0⟩ := hi 0 (by omega)
        rw [cells_num] at hc0
        obtain ⟨_, hcl0, hat0⟩ := World.cells?_some hc0
        have := hat0 0 (by omega)
        rw [List.getElem?_eq_getElem (by omega)] at this
        simpa [Addr.add] using World.cell?_spot this
      subst hi0
      have hcell : ∀ (j : Nat) u, (u32Cells y)[j]? = some u → W.cell? ⟨b, o + i * 1 + j, none⟩ = some u := by
        intro j u hj
        have hj8 : j < 1 := (List.getElem?_eq_some_iff.1 hj).1
        have := hat j hj8
        rw [hj] at this
        rw [← this]
        congr 1
        unfold Addr.add
        by_cases h1 : i * 1 = 0
        · rw [if_pos h1]
          by_cases h2 : j = 0
          · rw [if_pos h2, h1, h2]; rfl
          · rw [if_neg h2, h1, Nat.add_zero]
        · rw [if_neg h1]
          by_cases h2 : j = 0
          · rw [if_pos h2]; simp [h2]
          · rw [if_neg h2]
      exact ⟨y, hyb, rfl, cell_lt' (hcell 0 _ rfl), hcell⟩
    obtain ⟨l, hl2, hp⟩ := choose_list2 _ len hall
    refine ⟨l, ⟨some ⟨b, o, s⟩, cap, by rw [hl2], by rw [hl2]; exact hl, fun i e he => ?_⟩, fun x hx => ?_, by rw [hl2]; omega⟩
    · obtain ⟨_, h1, h2, h3⟩ := hp i e he
      subst h1
      exact ⟨b, o, rfl, h2, h3⟩
    · obtain ⟨i, hi⟩ := List.getElem?_of_mem hx
      exact (hp i x hi).1
end
end Go.Proofs.YtgfkcbflnkpogaaGreatDoor
