/- Arguments opened: words of layer 38 (nine numbers), by value and in a slice. -/
import Derived.Test.YteciigbonaecoaaGreatDoorDLOpen
import Derived.Test.YteciigbonaecoaaGreatDoorDList
import Derived.Lib.SmallJoins
import Derived.Deep.Slices
import Derived.Deep.Fields
import Derived.ChangeMaps5
namespace Go.Proofs.YteciigbonaecoaaGreatDoor
open Go.ChangeShapes Go.WideShapes Go.ChangeAt Go.RowKit Go.Ab Go.Joins
open Go.Deep
section
variable {H : Type} {enc : TypeId × Value → H} {W : World} {base : Nat} {sp : Nat → Bool} {held : Bool}
theorem cellsWord : Tryz.prog.cellsOf 77 = 9 := by kernel_rfl
set_option maxRecDepth 100000 in
theorem fields9 {P : Program} {w : World} {t : TypeId} {f0 f1 f2 f3 f4 f5 f6 f7 f8 : Field} {fuel : Nat} {cs : List Value} {x : DataW H × List MemPlace} (hs : P.underlying t = some (.struct #[f0, f1, f2, f3, f4, f5, f6, f7, f8])) (hone : oneCellFields P #[f0, f1, f2, f3, f4, f5, f6, f7, f8] = true) (h : DataW.trod enc P w base sp held fuel t cs = some x) (hl : cs.length = 9) :
    ∃ (c0 c1 c2 c3 c4 c5 c6 c7 c8 : Value) (y0 y1 y2 y3 y4 y5 y6 y7 y8 : DataW H × List MemPlace) (n : Nat), cs = [c0, c1, c2, c3, c4, c5, c6, c7, c8] ∧ DataW.trod enc P w base sp held n f0.type [c0] = some y0 ∧ DataW.trod enc P w base sp held n f1.type [c1] = some y1 ∧ DataW.trod enc P w base sp held n f2.type [c2] = some y2 ∧ DataW.trod enc P w base sp held n f3.type [c3] = some y3 ∧ DataW.trod enc P w base sp held n f4.type [c4] = some y4 ∧ DataW.trod enc P w base sp held n f5.type [c5] = some y5 ∧ DataW.trod enc P w base sp held n f6.type [c6] = some y6 ∧ DataW.trod enc P w base sp held n f7.type [c7] = some y7 ∧ DataW.trod enc P w base sp held n f8.type [c8] = some y8 := by
  obtain ⟨xs, n, _, hx, _, hlen, hh⟩ := DataW.trod_struct hs h
  match cs, hl, xs, hlen with
  | [c0, c1, c2, c3, c4, c5, c6, c7, c8], _, [y0, y1, y2, y3, y4, y5, y6, y7, y8], _ =>
    obtain ⟨o0, k0⟩ := hone_of hone 0 f0 rfl
    obtain ⟨o1, k1⟩ := hone_of hone 1 f1 rfl
    obtain ⟨o2, k2⟩ := hone_of hone 2 f2 rfl
    obtain ⟨o3, k3⟩ := hone_of hone 3 f3 rfl
    obtain ⟨o4, k4⟩ := hone_of hone 4 f4 rfl
    obtain ⟨o5, k5⟩ := hone_of hone 5 f5 rfl
    obtain ⟨o6, k6⟩ := hone_of hone 6 f6 rfl
    obtain ⟨o7, k7⟩ := hone_of hone 7 f7 rfl
    obtain ⟨o8, k8⟩ := hone_of hone 8 f8 rfl
    exact ⟨c0, c1, c2, c3, c4, c5, c6, c7, c8, y0, y1, y2, y3, y4, y5, y6, y7, y8, n, rfl, by simpa [o0, k0] using hh 0 f0 rfl, by simpa [o1, k1] using hh 1 f1 rfl, by simpa [o2, k2] using hh 2 f2 rfl, by simpa [o3, k3] using hh 3 f3 rfl, by simpa [o4, k4] using hh 4 f4 rfl, by simpa [o5, k5] using hh 5 f5 rfl, by simpa [o6, k6] using hh 6 f6 rfl, by simpa [o7, k7] using hh 7 f7 rfl, by simpa [o8, k8] using hh 8 f8 rfl⟩
set_option maxRecDepth 100000 in
/-- The cells of a word. -/
theorem open_word_at {fuel : Nat} {cs : List Value} {x : DataW H × List MemPlace} (h : DataW.trod enc Tryz.prog W base sp held fuel 77 cs = some x) (hl : cs.length = 9) : ∃ y : Wd, cs = y.cells ∧ WdB y := by
  obtain ⟨c0, c1, c2, c3, c4, c5, c6, c7, c8, y0, y1, y2, y3, y4, y5, y6, y7, y8, n, rfl, h0, h1, h2, h3, h4, h5, h6, h7, h8⟩ := fields9 Tryz.underlying77 (by kernel_rfl) h hl
  obtain ⟨z0, e0, _, w0⟩ := DataW.trod_int Tryz.underlying5 h0
  obtain ⟨z1, e1, _, w1⟩ := DataW.trod_int Tryz.underlying5 h1
  obtain ⟨z2, e2, _, w2⟩ := DataW.trod_int Tryz.underlying5 h2
  obtain ⟨z3, e3, _, w3⟩ := DataW.trod_int Tryz.underlying5 h3
  obtain ⟨z4, e4, _, w4⟩ := DataW.trod_int Tryz.underlying5 h4
  obtain ⟨z5, e5, _, w5⟩ := DataW.trod_int Tryz.underlying5 h5
  obtain ⟨z6, e6, _, w6⟩ := DataW.trod_int Tryz.underlying5 h6
  obtain ⟨z7, e7, _, w7⟩ := DataW.trod_int Tryz.underlying32 h7
  obtain ⟨z8, e8, _, w8⟩ := DataW.trod_int Tryz.underlying32 h8
  simp only [List.cons.injEq, and_true] at e0 e1 e2 e3 e4 e5 e6 e7 e8
  subst e0 e1 e2 e3 e4 e5 e6 e7 e8
  exact ⟨⟨z0, z1, z2, z3, z4, z5, z6, z7, z8⟩, rfl, ⟨(u8b w0).1, (u8b w0).2, (u8b w1).1, (u8b w1).2, (u8b w2).1, (u8b w2).2, (u8b w3).1, (u8b w3).2, (u8b w4).1, (u8b w4).2, (u8b w5).1, (u8b w5).2, (u8b w6).1, (u8b w6).2, (u16b w7).1, (u16b w7).2, (u16b w8).1, (u16b w8).2⟩⟩
set_option maxRecDepth 100000 in
theorem open_word {r : Reach} {b0 : Nat} {v : Value} {d : DataW H} {p : List MemPlace} (hv : Value.okWide Tryz.prog W r b0 77 v) (h : DataW.Trod enc Tryz.prog W base sp held 77 v d p) : ∃ y : Wd, v = .agg y.cells.toArray ∧ WdB y := by
  obtain ⟨cs, rfl, hsz⟩ := okWide_struct Tryz.underlying77 hv
  obtain ⟨fuel, hf⟩ := h
  obtain ⟨y, he, hb⟩ := open_word_at hf (by simpa [Value.cells] using hsz.trans cellsWord)
  refine ⟨y, ?_, hb⟩
  have : cs = y.cells.toArray := by rw [← he]; rfl
  rw [this]
set_option maxRecDepth 100000 in
theorem open_words {r : Reach} {b0 : Nat} {v : Value} {d : DataW H} {p : List MemPlace} (hv : Value.okWide Tryz.prog W r b0 63 v) (h : DataW.Trod enc Tryz.prog W base sp held 63 v d p) : ∃ l : List Wd, WdRow W v l ∧ (∀ x ∈ l, WdB x) ∧ l.length ≤ maxLen := by
  obtain ⟨a0, len0, cap0, rfl⟩ := okWide_slice Tryz.underlying63 hv
  obtain ⟨fuel, hf⟩ := h
  rcases open_slice Tryz.underlying63 hf with ⟨h0, _⟩ | ⟨a, len, cap, m, n, D, Pl, hcs, hb, hl, hm, hmm, hx, hi⟩
  · simp only [Value.cells, List.cons.injEq, and_true] at h0
    rw [h0]
    exact ⟨[], RowOf.nil W, fun x hx => (List.not_mem_nil hx).elim, Nat.zero_le _⟩
  · simp only [Value.cells, List.cons.injEq, and_true] at hcs
    rw [hcs]
    have hlm : len ≤ m := by rw [hmm]; split <;> omega
    obtain ⟨b, o, s⟩ := a
    have hall : ∀ i, i < len → ∃ y : Wd, WdB y ∧ s = none ∧ b < W.heap.size ∧ ∀ (j : Nat) u, y.cells[j]? = some u → W.cell? ⟨b, o + i * 9 + j, none⟩ = some u := by
      intro i hil
      obtain ⟨cs', hc, ht⟩ := hi i (by omega)
      rw [cellsWord] at hc
      obtain ⟨_, hcl, hat⟩ := World.cells?_some hc
      obtain ⟨y, rfl, hyb⟩ := open_word_at ht (by simpa using hcl)
      have h0 := hat 0 (by omega)
      have hi0 : s = none := by
        obtain ⟨cs0, hc0, ht0⟩ := hi 0 (by omega)
        rw [cellsWord] at hc0
        obtain ⟨_, hcl0, hat0⟩ := World.cells?_some hc0
        have := hat0 0 (by omega)
        rw [List.getElem?_eq_getElem (by omega)] at this
        simpa [Addr.add] using World.cell?_spot this
      subst hi0
      have hcell : ∀ (j : Nat) u, y.cells[j]? = some u → W.cell? ⟨b, o + i * 9 + j, none⟩ = some u := by
        intro j u hj
        have hj8 : j < 9 := (List.getElem?_eq_some_iff.1 hj).1
        have := hat j hj8
        rw [hj] at this
        rw [← this]
        congr 1
        unfold Addr.add
        by_cases h1 : i * 9 = 0
        · rw [if_pos h1]
          by_cases h2 : j = 0
          · rw [if_pos h2, h1, h2]; rfl
          · rw [if_neg h2, h1, Nat.add_zero]
        · rw [if_neg h1]
          by_cases h2 : j = 0
          · rw [if_pos h2]; simp [h2]
          · rw [if_neg h2]
      exact ⟨y, hyb, rfl, cell_lt' (hcell 0 _ rfl), hcell⟩
    obtain ⟨l, hl2, hp⟩ := choose_list2 _ len hall
    refine ⟨l, ⟨some ⟨b, o, s⟩, cap, by rw [hl2], by rw [hl2]; exact hl, fun i e he => ?_⟩, fun x hx => ?_, by rw [hl2]; omega⟩
    · obtain ⟨_, h1, h2, h3⟩ := hp i e he
      subst h1
      exact ⟨b, o, rfl, h2, h3⟩
    · obtain ⟨i, hi⟩ := List.getElem?_of_mem hx
      exact (hp i x hi).1
end
end Go.Proofs.YteciigbonaecoaaGreatDoor
