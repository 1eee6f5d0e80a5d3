/- Arguments opened: pieces, spans and prefixes in slices. -/
import Derived.Test.YtgfkcbflnkpogaaGreatDoorSLaid
import Derived.Test.YtgfkcbflnkpogaaGreatDoorSp15
import Derived.Lib.SmallJoins
import Derived.Deep.Slices
import Derived.Deep.Fields
import Derived.ChangeMaps5
namespace Go.Proofs.YtgfkcbflnkpogaaGreatDoor
open Go.ChangeShapes Go.WideShapes Go.ChangeAt Go.RowKit Go.Ab Go.Joins
open Go.Deep
section
variable {H : Type} {enc : TypeId × Value → H} {W : World} {base : Nat} {sp : Nat → Bool} {held : Bool}
theorem u8b {n : Int} (h : (Lit.int .u8 n).wf = true) : 0 ≤ n ∧ n < 256 := by have := bounds_u8 h; omega
theorem u32b {n : Int} (h : (Lit.int .u32 n).wf = true) : 0 ≤ n ∧ n < 4294967296 := by have := bounds_u32 h; omega
theorem choose_list2 {α : Type} (P : Nat → α → Prop) : ∀ n, (∀ i, i < n → ∃ y, P i y) → ∃ l : List α, l.length = n ∧ ∀ i y, l[i]? = some y → P i y
  | 0, _ => ⟨[], rfl, fun i y h => by simp at h⟩
  | n + 1, h => by
    obtain ⟨l, hl, hp⟩ := choose_list2 P n (fun i hi => h i (by omega))
    obtain ⟨y, hy⟩ := h n (by omega)
    refine ⟨l ++ [y], by simp [hl], fun i z hz => ?_⟩
    rcases Nat.lt_or_ge i n with h1 | h1
    · rw [List.getElem?_append_left (by omega)] at hz
      exact hp i z hz
    · have : i = n := by
        have := (List.getElem?_eq_some_iff.1 hz).1
        simp [hl] at this; omega
      subst this
      rw [List.getElem?_append_right (by omega), hl, Nat.sub_self] at hz
      simp at hz
      exact hz ▸ hy
set_option maxRecDepth 100000 in
theorem fieldsN3 {P : Program} {w : World} {t : TypeId} {f0 f1 f2 : Field} {fuel : Nat} {cs : List Value} {x : DataW H × List MemPlace} (hs : P.underlying t = some (.struct #[f0, f1, f2])) (hone : oneCellFields P #[f0, f1, f2] = true) (h : DataW.trod enc P w base sp held fuel t cs = some x) (hl : cs.length = 3) :
    ∃ (c0 c1 c2 : Value) (y0 y1 y2 : DataW H × List MemPlace) (n : Nat), cs = [c0, c1, c2] ∧ DataW.trod enc P w base sp held n f0.type [c0] = some y0 ∧ DataW.trod enc P w base sp held n f1.type [c1] = some y1 ∧ DataW.trod enc P w base sp held n f2.type [c2] = some y2 := by
  obtain ⟨xs, n, _, hx, _, hlen, hh⟩ := DataW.trod_struct hs h
  match cs, hl, xs, hlen with
  | [c0, c1, c2], _, [y0, y1, y2], _ =>
    obtain ⟨o0, k0⟩ := hone_of hone 0 f0 rfl
    obtain ⟨o1, k1⟩ := hone_of hone 1 f1 rfl
    obtain ⟨o2, k2⟩ := hone_of hone 2 f2 rfl
    exact ⟨c0, c1, c2, y0, y1, y2, n, rfl, by simpa [o0, k0] using hh 0 f0 rfl, by simpa [o1, k1] using hh 1 f1 rfl, by simpa [o2, k2] using hh 2 f2 rfl⟩
theorem cells_piece : Tryz.prog.cellsOf 73 = 3 := by kernel_rfl
set_option maxRecDepth 100000 in
theorem open_piece_at {fuel : Nat} {cs : List Value} {x : DataW H × List MemPlace} (h : DataW.trod enc Tryz.prog W base sp held fuel 73 cs = some x) (hl : cs.length = 3) : ∃ y : SPc, cs = pcCells y ∧ SPcB y := by
  obtain ⟨c0, c1, c2, y0, y1, y2, n, rfl, h0, h1, h2⟩ := fieldsN3 Tryz.underlying73 (by kernel_rfl) h hl
  obtain ⟨z0, e0, _, w0⟩ := DataW.trod_int Tryz.underlying5 h0
  obtain ⟨z1, e1, _, w1⟩ := DataW.trod_int Tryz.underlying5 h1
  obtain ⟨z2, e2, _⟩ := DataW.trod_bool Tryz.underlying4 h2
  simp only [List.cons.injEq, and_true] at e0 e1 e2
  subst e0 e1 e2
  exact ⟨⟨z0, z1, z2⟩, rfl, ⟨(u8b w0).1, (u8b w0).2, (u8b w1).1, (u8b w1).2⟩⟩
set_option maxRecDepth 100000 in
theorem open_pieces {r : Reach} {b0 : Nat} {v : Value} {d : DataW H} {p : List MemPlace} (hv : Value.okWide Tryz.prog W r b0 22 v) (h : DataW.Trod enc Tryz.prog W base sp held 22 v d p) : ∃ l : List SPc, RowOf pcCells 3 W v l ∧ (∀ x ∈ l, SPcB x) ∧ l.length ≤ maxLen := by
  obtain ⟨a0, len0, cap0, rfl⟩ := okWide_slice Tryz.underlying22 hv
  obtain ⟨fuel, hf⟩ := h
  rcases open_slice Tryz.underlying22 hf with ⟨h0, _⟩ | ⟨a, len, cap, m, n, D, Pl, hcs, hb, hl, hm, hmm, hx, hi⟩
  · simp only [Value.cells, List.cons.injEq, and_true] at h0
    rw [h0]
    exact ⟨[], RowOf.nil W, fun x hx => (List.not_mem_nil hx).elim, Nat.zero_le _⟩
  · simp only [Value.cells, List.cons.injEq, and_true] at hcs
    rw [hcs]
    have hlm : len ≤ m := by rw [hmm]; split <;> omega
    obtain ⟨b, o, s⟩ := a
    have hall : ∀ i, i < len → ∃ y : SPc, SPcB y ∧ s = none ∧ b < W.heap.size ∧ ∀ (j : Nat) u, (pcCells y)[j]? = some u → W.cell? ⟨b, o + i * 3 + j, none⟩ = some u := by
      intro i hil
      obtain ⟨cs', hc, ht⟩ := hi i (by omega)
      rw [cells_piece] at hc
      obtain ⟨_, hcl, hat⟩ := World.cells?_some hc
      obtain ⟨y, rfl, hyb⟩ := open_piece_at ht (by simpa using hcl)
      have h0 := hat 0 (by omega)
      have hi0 : s = none := by
        obtain ⟨cs0, hc0, ht0⟩ := hi 0 (by omega)
        rw [cells_piece] at hc0
        obtain ⟨_, hcl0, hat0⟩ := World.cells?_some hc0
        have := hat0 0 (by omega)
        rw [List.getElem?_eq_getElem (by omega)] at this
        simpa [Addr.add] using World.cell?_spot this
      subst hi0
      have hcell : ∀ (j : Nat) u, (pcCells y)[j]? = some u → W.cell? ⟨b, o + i * 3 + j, none⟩ = some u := by
        intro j u hj
        have hj8 : j < 3 := (List.getElem?_eq_some_iff.1 hj).1
        have := hat j hj8
        rw [hj] at this
        rw [← this]
        congr 1
        unfold Addr.add
        by_cases h1 : i * 3 = 0
        · rw [if_pos h1]
          by_cases h2 : j = 0
          · rw [if_pos h2, h1, h2]; rfl
          · rw [if_neg h2, h1, Nat.add_zero]
        · rw [if_neg h1]
          by_cases h2 : j = 0
          · rw [if_pos h2]; simp [h2]
          · rw [if_neg h2]
      exact ⟨y, hyb, rfl, cell_lt' (hcell 0 _ rfl), hcell⟩
    obtain ⟨l, hl2, hp⟩ := choose_list2 _ len hall
    refine ⟨l, ⟨some ⟨b, o, s⟩, cap, by rw [hl2], by rw [hl2]; exact hl, fun i e he => ?_⟩, fun x hx => ?_, by rw [hl2]; omega⟩
    · obtain ⟨_, h1, h2, h3⟩ := hp i e he
      subst h1
      exact ⟨b, o, rfl, h2, h3⟩
    · obtain ⟨i, hi⟩ := List.getElem?_of_mem hx
      exact (hp i x hi).1
end
end Go.Proofs.YtgfkcbflnkpogaaGreatDoor
