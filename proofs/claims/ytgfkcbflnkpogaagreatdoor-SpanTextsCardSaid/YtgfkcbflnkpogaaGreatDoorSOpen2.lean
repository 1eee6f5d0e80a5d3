/- Arguments opened: sets of spans, and prefixes in slices. -/
import Derived.Test.YtgfkcbflnkpogaaGreatDoorSOpen
import Derived.Test.YtgfkcbflnkpogaaGreatDoorSp19
namespace Go.Proofs.YtgfkcbflnkpogaaGreatDoor
open Go.ChangeShapes Go.WideShapes Go.ChangeAt Go.RowKit Go.Ab Go.Joins
open Go.Deep
section
variable {H : Type} {enc : TypeId × Value → H} {W : World} {base : Nat} {sp : Nat → Bool} {held : Bool}
set_option maxRecDepth 100000 in
theorem fieldsN2 {P : Program} {w : World} {t : TypeId} {f0 f1 : Field} {fuel : Nat} {cs : List Value} {x : DataW H × List MemPlace} (hs : P.underlying t = some (.struct #[f0, f1])) (hone : oneCellFields P #[f0, f1] = true) (h : DataW.trod enc P w base sp held fuel t cs = some x) (hl : cs.length = 2) :
    ∃ (c0 c1 : Value) (y0 y1 : DataW H × List MemPlace) (n : Nat), cs = [c0, c1] ∧ DataW.trod enc P w base sp held n f0.type [c0] = some y0 ∧ DataW.trod enc P w base sp held n f1.type [c1] = some y1 := by
  obtain ⟨xs, n, _, hx, _, hlen, hh⟩ := DataW.trod_struct hs h
  match cs, hl, xs, hlen with
  | [c0, c1], _, [y0, y1], _ =>
    obtain ⟨o0, k0⟩ := hone_of hone 0 f0 rfl
    obtain ⟨o1, k1⟩ := hone_of hone 1 f1 rfl
    exact ⟨c0, c1, y0, y1, n, rfl, by simpa [o0, k0] using hh 0 f0 rfl, by simpa [o1, k1] using hh 1 f1 rfl⟩
theorem cells_span : Tryz.prog.cellsOf 39 = 2 := by kernel_rfl
set_option maxRecDepth 100000 in
theorem open_span_at {fuel : Nat} {cs : List Value} {x : DataW H × List MemPlace} (h : DataW.trod enc Tryz.prog W base sp held fuel 39 cs = some x) (hl : cs.length = 2) : ∃ y : Sp, cs = spCells y ∧ SpB y := by
  obtain ⟨c0, c1, y0, y1, n, rfl, h0, h1⟩ := fieldsN2 Tryz.underlying39 (by kernel_rfl) h hl
  obtain ⟨z0, e0, _, w0⟩ := DataW.trod_int Tryz.underlying37 h0
  obtain ⟨z1, e1, _, w1⟩ := DataW.trod_int Tryz.underlying37 h1
  simp only [List.cons.injEq, and_true] at e0 e1
  subst e0 e1
  exact ⟨(z0, z1), rfl, ⟨(u32b w0).1, (u32b w0).2, (u32b w1).1, (u32b w1).2⟩⟩
set_option maxRecDepth 100000 in
theorem open_set {r : Reach} {b0 : Nat} {v : Value} {d : DataW H} {p : List MemPlace} (hv : Value.okWide Tryz.prog W r b0 25 v) (h : DataW.Trod enc Tryz.prog W base sp held 25 v d p) : ∃ l : List Sp, RowOf spCells 2 W v l ∧ (∀ x ∈ l, SpB x) ∧ l.length ≤ maxLen := by
  obtain ⟨a0, len0, cap0, rfl⟩ := okWide_slice Tryz.underlying25 hv
  obtain ⟨fuel, hf⟩ := h
  rcases open_slice Tryz.underlying25 hf with ⟨h0, _⟩ | ⟨a, len, cap, m, n, D, Pl, hcs, hb, hl, hm, hmm, hx, hi⟩
  · simp only [Value.cells, List.cons.injEq, and_true] at h0
    rw [h0]
    exact ⟨[], RowOf.nil W, fun x hx => (List.not_mem_nil hx).elim, Nat.zero_le _⟩
  · simp only [Value.cells, List.cons.injEq, and_true] at hcs
    rw [hcs]
    have hlm : len ≤ m := by rw [hmm]; split <;> omega
    obtain ⟨b, o, s⟩ := a
    have hall : ∀ i, i < len → ∃ y : Sp, SpB y ∧ s = none ∧ b < W.heap.size ∧ ∀ (j : Nat) u, (spCells y)[j]? = some u → W.cell? ⟨b, o + i * 2 + j, none⟩ = some u := by
      intro i hil
      obtain ⟨cs', hc, ht⟩ := hi i (by omega)
      rw [cells_span] at hc
      obtain ⟨_, hcl, hat⟩ := World.cells?_some hc
      obtain ⟨y, rfl, hyb⟩ := open_span_at ht (by simpa using hcl)
      have h0 := hat 0 (by omega)
      have hi0 : s = none := by
        obtain ⟨cs0, hc0, ht0⟩ := hi 0 (by omega)
        rw [cells_span] at hc0
        obtain ⟨_, hcl0, hat0⟩ := World.cells?_some hc0
        have := hat0 0 (by omega)
        rw [List.getElem?_eq_getElem (by omega)] at this
        simpa [Addr.add] using World.cell?_spot this
      subst hi0
      have hcell : ∀ (j : Nat) u, (spCells y)[j]? = some u → W.cell? ⟨b, o + i * 2 + j, none⟩ = some u := by
        intro j u hj
        have hj8 : j < 2 := (List.getElem?_eq_some_iff.1 hj).1
        have := hat j hj8
        rw [hj] at this
        rw [← this]
        congr 1
        unfold Addr.add
        by_cases h1 : i * 2 = 0
        · rw [if_pos h1]
          by_cases h2 : j = 0
          · rw [if_pos h2, h1, h2]; rfl
          · rw [if_neg h2, h1, Nat.add_zero]
        · rw [if_neg h1]
          by_cases h2 : j = 0
          · rw [if_pos h2]; simp [h2]
          · rw [if_neg h2]
      exact ⟨y, hyb, rfl, cell_lt' (hcell 0 _ rfl), hcell⟩
    obtain ⟨l, hl2, hp⟩ := choose_list2 _ len hall
    refine ⟨l, ⟨some ⟨b, o, s⟩, cap, by rw [hl2], by rw [hl2]; exact hl, fun i e he => ?_⟩, fun x hx => ?_, by rw [hl2]; omega⟩
    · obtain ⟨_, h1, h2, h3⟩ := hp i e he
      subst h1
      exact ⟨b, o, rfl, h2, h3⟩
    · obtain ⟨i, hi⟩ := List.getElem?_of_mem hx
      exact (hp i x hi).1
theorem cells_pfx : Tryz.prog.cellsOf 62 = 2 := by kernel_rfl
set_option maxRecDepth 100000 in
theorem open_pfx_at {fuel : Nat} {cs : List Value} {x : DataW H × List MemPlace} (h : DataW.trod enc Tryz.prog W base sp held fuel 62 cs = some x) (hl : cs.length = 2) : ∃ y : (Int × Int), cs = pfCells y ∧ PfB y := by
  obtain ⟨c0, c1, y0, y1, n, rfl, h0, h1⟩ := fieldsN2 Tryz.underlying62 (by kernel_rfl) h hl
  obtain ⟨z0, e0, _, w0⟩ := DataW.trod_int Tryz.underlying37 h0
  obtain ⟨z1, e1, _, w1⟩ := DataW.trod_int Tryz.underlying5 h1
  simp only [List.cons.injEq, and_true] at e0 e1
  subst e0 e1
  exact ⟨(z0, z1), rfl, ⟨(u32b w0).1, (u32b w0).2, (u8b w1).1, (u8b w1).2⟩⟩
set_option maxRecDepth 100000 in
theorem open_pfxs {r : Reach} {b0 : Nat} {v : Value} {d : DataW H} {p : List MemPlace} (hv : Value.okWide Tryz.prog W r b0 42 v) (h : DataW.Trod enc Tryz.prog W base sp held 42 v d p) : ∃ l : List (Int × Int), RowOf pfCells 2 W v l ∧ (∀ x ∈ l, PfB x) ∧ l.length ≤ maxLen := by
  obtain ⟨a0, len0, cap0, rfl⟩ := okWide_slice Tryz.underlying42 hv
  obtain ⟨fuel, hf⟩ := h
  rcases open_slice Tryz.underlying42 hf with ⟨h0, _⟩ | ⟨a, len, cap, m, n, D, Pl, hcs, hb, hl, hm, hmm, hx, hi⟩
  · simp only [Value.cells, List.cons.injEq, and_true] at h0
    rw [h0]
    exact ⟨[], RowOf.nil W, fun x hx => (List.not_mem_nil hx).elim, Nat.zero_le _⟩
  · simp only [Value.cells, List.cons.injEq, and_true] at hcs
    rw [hcs]
    have hlm : len ≤ m := by rw [hmm]; split <;> omega
    obtain ⟨b, o, s⟩ := a
    have hall : ∀ i, i < len → ∃ y : (Int × Int), PfB y ∧ s = none ∧ b < W.heap.size ∧ ∀ (j : Nat) u, (pfCells y)[j]? = some u → W.cell? ⟨b, o + i * 2 + j, none⟩ = some u := by
      intro i hil
      obtain ⟨cs', hc, ht⟩ := hi i (by omega)
      rw [cells_pfx] at hc
      obtain ⟨_, hcl, hat⟩ := World.cells?_some hc
      obtain ⟨y, rfl, hyb⟩ := open_pfx_at ht (by simpa using hcl)
      have h0 := hat 0 (by omega)
      have hi0 : s = none := by
        obtain ⟨cs0, hc0, ht0⟩ := hi 0 (by omega)
        rw [cells_pfx] at hc0
        obtain ⟨_, hcl0, hat0⟩ := World.cells?_some hc0
        have := hat0 0 (by omega)
        rw [List.getElem?_eq_getElem (by omega)] at this
        simpa [Addr.add] using World.cell?_spot this
      subst hi0
      have hcell : ∀ (j : Nat) u, (pfCells y)[j]? = some u → W.cell? ⟨b, o + i * 2 + j, none⟩ = some u := by
        intro j u hj
        have hj8 : j < 2 := (List.getElem?_eq_some_iff.1 hj).1
        have := hat j hj8
        rw [hj] at this
        rw [← this]
        congr 1
        unfold Addr.add
        by_cases h1 : i * 2 = 0
        · rw [if_pos h1]
          by_cases h2 : j = 0
          · rw [if_pos h2, h1, h2]; rfl
          · rw [if_neg h2, h1, Nat.add_zero]
        · rw [if_neg h1]
          by_cases h2 : j = 0
          · rw [if_pos h2]; simp [h2]
          · rw [if_neg h2]
      exact ⟨y, hyb, rfl, cell_lt' (hcell 0 _ rfl), hcell⟩
    obtain ⟨l, hl2, hp⟩ := choose_list2 _ len hall
    refine ⟨l, ⟨some ⟨b, o, s⟩, cap, by rw [hl2], by rw [hl2]; exact hl, fun i e he => ?_⟩, fun x hx => ?_, by rw [hl2]; omega⟩
    · obtain ⟨_, h1, h2, h3⟩ := hp i e he
      subst h1
      exact ⟨b, o, rfl, h2, h3⟩
    · obtain ⟨i, hi⟩ := List.getElem?_of_mem hx
      exact (hp i x hi).1
end
end Go.Proofs.YtgfkcbflnkpogaaGreatDoor
