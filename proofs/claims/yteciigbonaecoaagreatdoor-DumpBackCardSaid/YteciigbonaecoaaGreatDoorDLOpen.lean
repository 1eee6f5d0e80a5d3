/- Arguments opened: lines and changes of layer 38, by value and in slices. -/
import Derived.Test.YteciigbonaecoaaGreatDoorZLaid
import Derived.Test.YteciigbonaecoaaGreatDoorDAw
import Derived.Lib.SmallJoins
import Derived.Deep.Slices
import Derived.Deep.Fields
import Derived.ChangeMaps5
namespace Go.Proofs.YteciigbonaecoaaGreatDoor
open Go.ChangeShapes Go.WideShapes Go.ChangeAt Go.RowKit Go.Ab Go.Joins
open Go.Deep
end Go.Proofs.YteciigbonaecoaaGreatDoor
namespace Go.Ab
open Go.Proofs.YteciigbonaecoaaGreatDoor
structure ChB (c : Ch) : Prop where
  k0 : 0 ≤ c.kind
  k1 : c.kind < 256
  old : LnB c.old
  new : LnB c.new
end Go.Ab
namespace Go.Proofs.YteciigbonaecoaaGreatDoor
open Go.ChangeShapes Go.WideShapes Go.ChangeAt Go.RowKit Go.Ab Go.Joins
open Go.Deep
section
variable {H : Type} {enc : TypeId × Value → H} {W : World} {base : Nat} {sp : Nat → Bool} {held : Bool}
theorem u8b {n : Int} (h : (Lit.int .u8 n).wf = true) : 0 ≤ n ∧ n < 256 := by have := bounds_u8 h; omega
theorem u16b {n : Int} (h : (Lit.int .u16 n).wf = true) : 0 ≤ n ∧ n < 65536 := by have := bounds_u16 h; omega
theorem u32b {n : Int} (h : (Lit.int .u32 n).wf = true) : 0 ≤ n ∧ n < 4294967296 := by have := bounds_u32 h; omega
theorem i64b {n : Int} (h : (Lit.int .i64 n).wf = true) : -9223372036854775808 ≤ n ∧ n ≤ 9223372036854775807 := by
  simp [Lit.wf, IntKind.min, IntKind.max, IntKind.signed, IntKind.bits] at h; omega
theorem cells_Ln : Tryz.prog.cellsOf 44 = 11 := by kernel_rfl
theorem cells_Ch : Tryz.prog.cellsOf 71 = 23 := by kernel_rfl
set_option maxRecDepth 100000 in
theorem fields5 {P : Program} {w : World} {t : TypeId} {f0 f1 f2 f3 f4 : Field} {fuel : Nat} {cs : List Value} {x : DataW H × List MemPlace} (hs : P.underlying t = some (.struct #[f0, f1, f2, f3, f4])) (hone : oneCellFields P #[f0, f1, f2, f3, f4] = true) (h : DataW.trod enc P w base sp held fuel t cs = some x) (hl : cs.length = 5) :
    ∃ (c0 c1 c2 c3 c4 : Value) (y0 y1 y2 y3 y4 : DataW H × List MemPlace) (n : Nat), cs = [c0, c1, c2, c3, c4] ∧ DataW.trod enc P w base sp held n f0.type [c0] = some y0 ∧ DataW.trod enc P w base sp held n f1.type [c1] = some y1 ∧ DataW.trod enc P w base sp held n f2.type [c2] = some y2 ∧ DataW.trod enc P w base sp held n f3.type [c3] = some y3 ∧ DataW.trod enc P w base sp held n f4.type [c4] = some y4 := by
  obtain ⟨xs, n, _, hx, _, hlen, hh⟩ := DataW.trod_struct hs h
  match cs, hl, xs, hlen with
  | [c0, c1, c2, c3, c4], _, [y0, y1, y2, y3, y4], _ =>
    obtain ⟨o0, k0⟩ := hone_of hone 0 f0 rfl
    obtain ⟨o1, k1⟩ := hone_of hone 1 f1 rfl
    obtain ⟨o2, k2⟩ := hone_of hone 2 f2 rfl
    obtain ⟨o3, k3⟩ := hone_of hone 3 f3 rfl
    obtain ⟨o4, k4⟩ := hone_of hone 4 f4 rfl
    exact ⟨c0, c1, c2, c3, c4, y0, y1, y2, y3, y4, n, rfl, by simpa [o0, k0] using hh 0 f0 rfl, by simpa [o1, k1] using hh 1 f1 rfl, by simpa [o2, k2] using hh 2 f2 rfl, by simpa [o3, k3] using hh 3 f3 rfl, by simpa [o4, k4] using hh 4 f4 rfl⟩
set_option maxRecDepth 100000 in
theorem fields_ln {P : Program} {w : World} {t : TypeId} {f0 f1 f2 f3 f4 f5 f6 : Field} {fuel : Nat} {cs : List Value} {x : DataW H × List MemPlace} (hs : P.underlying t = some (.struct #[f0, f1, f2, f3, f4, f5, f6])) (ho : f0.offset = 0 ∧ f1.offset = 5 ∧ f2.offset = 6 ∧ f3.offset = 7 ∧ f4.offset = 8 ∧ f5.offset = 9 ∧ f6.offset = 10) (hc : P.cellsOf f0.type = 5 ∧ P.cellsOf f1.type = 1 ∧ P.cellsOf f2.type = 1 ∧ P.cellsOf f3.type = 1 ∧ P.cellsOf f4.type = 1 ∧ P.cellsOf f5.type = 1 ∧ P.cellsOf f6.type = 1) (h : DataW.trod enc P w base sp held fuel t cs = some x) (hl : cs.length = 11) :
    ∃ (c0 c1 c2 c3 c4 c5 c6 c7 c8 c9 c10 : Value) (y0 y1 y2 y3 y4 y5 y6 : DataW H × List MemPlace) (n : Nat), cs = [c0, c1, c2, c3, c4, c5, c6, c7, c8, c9, c10] ∧ DataW.trod enc P w base sp held n f0.type [c0, c1, c2, c3, c4] = some y0 ∧ DataW.trod enc P w base sp held n f1.type [c5] = some y1 ∧ DataW.trod enc P w base sp held n f2.type [c6] = some y2 ∧ DataW.trod enc P w base sp held n f3.type [c7] = some y3 ∧ DataW.trod enc P w base sp held n f4.type [c8] = some y4 ∧ DataW.trod enc P w base sp held n f5.type [c9] = some y5 ∧ DataW.trod enc P w base sp held n f6.type [c10] = some y6 := by
  obtain ⟨xs, n, _, hx, _, hlen, hh⟩ := DataW.trod_struct hs h
  obtain ⟨o0, o1, o2, o3, o4, o5, o6⟩ := ho
  obtain ⟨k0, k1, k2, k3, k4, k5, k6⟩ := hc
  match cs, hl, xs, hlen with
  | [c0, c1, c2, c3, c4, c5, c6, c7, c8, c9, c10], _, [y0, y1, y2, y3, y4, y5, y6], _ =>
    exact ⟨c0, c1, c2, c3, c4, c5, c6, c7, c8, c9, c10, y0, y1, y2, y3, y4, y5, y6, n, rfl, by simpa [o0, k0] using hh 0 f0 rfl, by simpa [o1, k1] using hh 1 f1 rfl, by simpa [o2, k2] using hh 2 f2 rfl, by simpa [o3, k3] using hh 3 f3 rfl, by simpa [o4, k4] using hh 4 f4 rfl, by simpa [o5, k5] using hh 5 f5 rfl, by simpa [o6, k6] using hh 6 f6 rfl⟩
set_option maxRecDepth 100000 in
/-- The cells of a line. -/
theorem open_line_at {fuel : Nat} {cs : List Value} {x : DataW H × List MemPlace} (h : DataW.trod enc Tryz.prog W base sp held fuel 44 cs = some x) (hl : cs.length = 11) : ∃ y : Ln, cs = y.cells ∧ LnB y := by
  obtain ⟨c0, c1, c2, c3, c4, c5, c6, c7, c8, c9, c10, y0, y1, y2, y3, y4, y5, y6, n, rfl, h0, h1, h2, h3, h4, h5, h6⟩ := fields_ln Tryz.underlying44 ⟨rfl, rfl, rfl, rfl, rfl, rfl, rfl⟩ ⟨by kernel_rfl, by kernel_rfl, by kernel_rfl, by kernel_rfl, by kernel_rfl, by kernel_rfl, by kernel_rfl⟩ h hl
  obtain ⟨z5, e5, _, w5⟩ := DataW.trod_int Tryz.underlying5 h1
  obtain ⟨z6, e6, _, w6⟩ := DataW.trod_int Tryz.underlying5 h2
  obtain ⟨z7, e7, _⟩ := DataW.trod_bool Tryz.underlying4 h3
  obtain ⟨z8, e8, _⟩ := DataW.trod_bool Tryz.underlying4 h4
  obtain ⟨z9, e9, _, w9⟩ := DataW.trod_int Tryz.underlying3 h5
  obtain ⟨z10, e10, _, w10⟩ := DataW.trod_int Tryz.underlying3 h6
  obtain ⟨d3, d4, d5, d6, d7, v3, v4, v5, v6, v7, n', hk, k3, k4, k5, k6, k7⟩ := fields5 Tryz.underlying34 (by kernel_rfl) h0 rfl
  simp only [List.cons.injEq, and_true] at hk
  obtain ⟨rfl, rfl, rfl, rfl, rfl⟩ := hk
  obtain ⟨z0, e0, _, w0⟩ := DataW.trod_int Tryz.underlying5 k3
  obtain ⟨z1, e1, _, w1⟩ := DataW.trod_int Tryz.underlying31 k4
  obtain ⟨z2, e2, _, w2⟩ := DataW.trod_int Tryz.underlying31 k5
  obtain ⟨z3, e3, _, w3⟩ := DataW.trod_int Tryz.underlying32 k6
  obtain ⟨z4, e4, _, w4⟩ := DataW.trod_int Tryz.underlying32 k7
  simp only [List.cons.injEq, and_true] at e0 e1 e2 e3 e4 e5 e6 e7 e8 e9 e10
  subst e0 e1 e2 e3 e4 e5 e6 e7 e8 e9 e10
  exact ⟨⟨z0, z1, z2, z3, z4, z5, z6, z7, z8, z9, z10⟩, rfl, ⟨⟨(u8b w0).1, (u8b w0).2, (u32b w1).1, (u32b w1).2, (u32b w2).1, (u32b w2).2, (u16b w3).1, (u16b w3).2, (u16b w4).1, (u16b w4).2⟩, (u8b w5).1, (u8b w5).2, (u8b w6).1, (u8b w6).2, (i64b w9).1, (i64b w9).2, (i64b w10).1, (i64b w10).2⟩⟩
set_option maxRecDepth 100000 in
theorem open_line {r : Reach} {b0 : Nat} {v : Value} {d : DataW H} {p : List MemPlace} (hv : Value.okWide Tryz.prog W r b0 44 v) (h : DataW.Trod enc Tryz.prog W base sp held 44 v d p) : ∃ y : Ln, v = y.val ∧ LnB y := by
  obtain ⟨cs, rfl, hsz⟩ := okWide_struct Tryz.underlying44 hv
  obtain ⟨fuel, hf⟩ := h
  obtain ⟨y, he, hb⟩ := open_line_at hf (by simpa [Value.cells] using hsz.trans cells_Ln)
  refine ⟨y, ?_, hb⟩
  have : cs = y.cells.toArray := by rw [← he]; rfl
  rw [this]; rfl
theorem choose_list2 {α : Type} (P : Nat → α → Prop) : ∀ n, (∀ i, i < n → ∃ y, P i y) → ∃ l : List α, l.length = n ∧ ∀ i y, l[i]? = some y → P i y
  | 0, _ => ⟨[], rfl, fun i y h => by simp at h⟩
  | n + 1, h => by
    obtain ⟨l, hl, hp⟩ := choose_list2 P n (fun i hi => h i (by omega))
    obtain ⟨y, hy⟩ := h n (by omega)
    refine ⟨l ++ [y], by simp [hl], fun i z hz => ?_⟩
    rcases Nat.lt_or_ge i n with h1 | h1
    · rw [List.getElem?_append_left (by omega)] at hz
      exact hp i z hz
    · have : i = n := by
        have := (List.getElem?_eq_some_iff.1 hz).1
        simp [hl] at this; omega
      subst this
      rw [List.getElem?_append_right (by omega), hl, Nat.sub_self] at hz
      simp at hz
      exact hz ▸ hy
set_option maxRecDepth 100000 in
theorem open_lines {r : Reach} {b0 : Nat} {v : Value} {d : DataW H} {p : List MemPlace} (hv : Value.okWide Tryz.prog W r b0 22 v) (h : DataW.Trod enc Tryz.prog W base sp held 22 v d p) : ∃ l : List Ln, LnRow W v l ∧ (∀ x ∈ l, LnB x) ∧ l.length ≤ maxLen := by
  obtain ⟨a0, len0, cap0, rfl⟩ := okWide_slice Tryz.underlying22 hv
  obtain ⟨fuel, hf⟩ := h
  rcases open_slice Tryz.underlying22 hf with ⟨h0, _⟩ | ⟨a, len, cap, m, n, D, Pl, hcs, hb, hl, hm, hmm, hx, hi⟩
  · simp only [Value.cells, List.cons.injEq, and_true] at h0
    rw [h0]
    exact ⟨[], RowOf.nil W, fun x hx => (List.not_mem_nil hx).elim, Nat.zero_le _⟩
  · simp only [Value.cells, List.cons.injEq, and_true] at hcs
    rw [hcs]
    have hlm : len ≤ m := by rw [hmm]; split <;> omega
    obtain ⟨b, o, s⟩ := a
    have hall : ∀ i, i < len → ∃ y : Ln, LnB y ∧ s = none ∧ b < W.heap.size ∧ ∀ (j : Nat) u, y.cells[j]? = some u → W.cell? ⟨b, o + i * 11 + j, none⟩ = some u := by
      intro i hil
      obtain ⟨cs', hc, ht⟩ := hi i (by omega)
      rw [cells_Ln] at hc
      obtain ⟨_, hcl, hat⟩ := World.cells?_some hc
      obtain ⟨y, rfl, hyb⟩ := open_line_at ht (by simpa using hcl)
      have h0 := hat 0 (by omega)
      have hi0 : s = none := by
        obtain ⟨cs0, hc0, ht0⟩ := hi 0 (by omega)
        rw [cells_Ln] at hc0
        obtain ⟨_, hcl0, hat0⟩ := World.cells?_some hc0
        have := hat0 0 (by omega)
        rw [List.getElem?_eq_getElem (by omega)] at this
        simpa [Addr.add] using World.cell?_spot this
      subst hi0
      have hcell : ∀ (j : Nat) u, y.cells[j]? = some u → W.cell? ⟨b, o + i * 11 + j, none⟩ = some u := by
        intro j u hj
        have hj8 : j < 11 := (List.getElem?_eq_some_iff.1 hj).1
        have := hat j hj8
        rw [hj] at this
        rw [← this]
        congr 1
        unfold Addr.add
        by_cases h1 : i * 11 = 0
        · rw [if_pos h1]
          by_cases h2 : j = 0
          · rw [if_pos h2, h1, h2]; rfl
          · rw [if_neg h2, h1, Nat.add_zero]
        · rw [if_neg h1]
          by_cases h2 : j = 0
          · rw [if_pos h2]; simp [h2]
          · rw [if_neg h2]
      exact ⟨y, hyb, rfl, cell_lt' (hcell 0 _ rfl), hcell⟩
    obtain ⟨l, hl2, hp⟩ := choose_list2 _ len hall
    refine ⟨l, ⟨some ⟨b, o, s⟩, cap, by rw [hl2], by rw [hl2]; exact hl, fun i e he => ?_⟩, fun x hx => ?_, by rw [hl2]; omega⟩
    · obtain ⟨_, h1, h2, h3⟩ := hp i e he
      subst h1
      exact ⟨b, o, rfl, h2, h3⟩
    · obtain ⟨i, hi⟩ := List.getElem?_of_mem hx
      exact (hp i x hi).1
set_option maxRecDepth 100000 in
theorem fields_ch {P : Program} {w : World} {t : TypeId} {f0 f1 f2 : Field} {fuel : Nat} {cs : List Value} {x : DataW H × List MemPlace} (hs : P.underlying t = some (.struct #[f0, f1, f2])) (ho : f0.offset = 0 ∧ f1.offset = 1 ∧ f2.offset = 12) (hc : P.cellsOf f0.type = 1 ∧ P.cellsOf f1.type = 11 ∧ P.cellsOf f2.type = 11) (h : DataW.trod enc P w base sp held fuel t cs = some x) (hl : cs.length = 23) :
    ∃ (c0 c1 c2 c3 c4 c5 c6 c7 c8 c9 c10 c11 c12 c13 c14 c15 c16 c17 c18 c19 c20 c21 c22 : Value) (y0 y1 y2 : DataW H × List MemPlace) (n : Nat), cs = [c0, c1, c2, c3, c4, c5, c6, c7, c8, c9, c10, c11, c12, c13, c14, c15, c16, c17, c18, c19, c20, c21, c22] ∧ DataW.trod enc P w base sp held n f0.type [c0] = some y0 ∧ DataW.trod enc P w base sp held n f1.type [c1, c2, c3, c4, c5, c6, c7, c8, c9, c10, c11] = some y1 ∧ DataW.trod enc P w base sp held n f2.type [c12, c13, c14, c15, c16, c17, c18, c19, c20, c21, c22] = some y2 := by
  obtain ⟨xs, n, _, hx, _, hlen, hh⟩ := DataW.trod_struct hs h
  obtain ⟨o0, o1, o2⟩ := ho
  obtain ⟨k0, k1, k2⟩ := hc
  match cs, hl, xs, hlen with
  | [c0, c1, c2, c3, c4, c5, c6, c7, c8, c9, c10, c11, c12, c13, c14, c15, c16, c17, c18, c19, c20, c21, c22], _, [y0, y1, y2], _ =>
    exact ⟨c0, c1, c2, c3, c4, c5, c6, c7, c8, c9, c10, c11, c12, c13, c14, c15, c16, c17, c18, c19, c20, c21, c22, y0, y1, y2, n, rfl, by simpa [o0, k0] using hh 0 f0 rfl, by simpa [o1, k1] using hh 1 f1 rfl, by simpa [o2, k2] using hh 2 f2 rfl⟩
set_option maxRecDepth 100000 in
/-- The cells of a change. -/
theorem open_change_at {fuel : Nat} {cs : List Value} {x : DataW H × List MemPlace} (h : DataW.trod enc Tryz.prog W base sp held fuel 71 cs = some x) (hl : cs.length = 23) : ∃ y : Ch, cs = y.cells ∧ ChB y := by
  obtain ⟨c0, c1, c2, c3, c4, c5, c6, c7, c8, c9, c10, c11, c12, c13, c14, c15, c16, c17, c18, c19, c20, c21, c22, y0, y1, y2, n, rfl, h0, h1, h2⟩ := fields_ch Tryz.underlying71 ⟨rfl, rfl, rfl⟩ ⟨by kernel_rfl, by kernel_rfl, by kernel_rfl⟩ h hl
  obtain ⟨z0, e0, _, w0⟩ := DataW.trod_int Tryz.underlying5 h0
  obtain ⟨a, ea, ba⟩ := open_line_at h1 rfl
  obtain ⟨b, eb, bb⟩ := open_line_at h2 rfl
  simp only [List.cons.injEq, and_true] at e0
  refine ⟨⟨z0, a, b⟩, ?_, (u8b w0).1, (u8b w0).2, ba, bb⟩
  show _ = .int .u8 z0 :: (a.cells ++ b.cells)
  rw [← ea, ← eb, e0]; rfl
set_option maxRecDepth 100000 in
theorem open_changes {r : Reach} {b0 : Nat} {v : Value} {d : DataW H} {p : List MemPlace} (hv : Value.okWide Tryz.prog W r b0 61 v) (h : DataW.Trod enc Tryz.prog W base sp held 61 v d p) : ∃ l : List Ch, ChRow W v l ∧ (∀ x ∈ l, ChB x) ∧ l.length ≤ maxLen := by
  obtain ⟨a0, len0, cap0, rfl⟩ := okWide_slice Tryz.underlying61 hv
  obtain ⟨fuel, hf⟩ := h
  rcases open_slice Tryz.underlying61 hf with ⟨h0, _⟩ | ⟨a, len, cap, m, n, D, Pl, hcs, hb, hl, hm, hmm, hx, hi⟩
  · simp only [Value.cells, List.cons.injEq, and_true] at h0
    rw [h0]
    exact ⟨[], RowOf.nil W, fun x hx => (List.not_mem_nil hx).elim, Nat.zero_le _⟩
  · simp only [Value.cells, List.cons.injEq, and_true] at hcs
    rw [hcs]
    have hlm : len ≤ m := by rw [hmm]; split <;> omega
    obtain ⟨b, o, s⟩ := a
    have hall : ∀ i, i < len → ∃ y : Ch, ChB y ∧ s = none ∧ b < W.heap.size ∧ ∀ (j : Nat) u, y.cells[j]? = some u → W.cell? ⟨b, o + i * 23 + j, none⟩ = some u := by
      intro i hil
      obtain ⟨cs', hc, ht⟩ := hi i (by omega)
      rw [cells_Ch] at hc
      obtain ⟨_, hcl, hat⟩ := World.cells?_some hc
      obtain ⟨y, rfl, hyb⟩ := open_change_at ht (by simpa using hcl)
      have h0 := hat 0 (by omega)
      have hi0 : s = none := by
        obtain ⟨cs0, hc0, ht0⟩ := hi 0 (by omega)
        rw [cells_Ch] at hc0
        obtain ⟨_, hcl0, hat0⟩ := World.cells?_some hc0
        have := hat0 0 (by omega)
        rw [List.getElem?_eq_getElem (by omega)] at this
        simpa [Addr.add] using World.cell?_spot this
      subst hi0
      have hcell : ∀ (j : Nat) u, y.cells[j]? = some u → W.cell? ⟨b, o + i * 23 + j, none⟩ = some u := by
        intro j u hj
        have hj8 : j < 23 := (List.getElem?_eq_some_iff.1 hj).1
        have := hat j hj8
        rw [hj] at this
        rw [← this]
        congr 1
        unfold Addr.add
        by_cases h1 : i * 23 = 0
        · rw [if_pos h1]
          by_cases h2 : j = 0
          · rw [if_pos h2, h1, h2]; rfl
          · rw [if_neg h2, h1, Nat.add_zero]
        · rw [if_neg h1]
          by_cases h2 : j = 0
          · rw [if_pos h2]; simp [h2]
          · rw [if_neg h2]
      exact ⟨y, hyb, rfl, cell_lt' (hcell 0 _ rfl), hcell⟩
    obtain ⟨l, hl2, hp⟩ := choose_list2 _ len hall
    refine ⟨l, ⟨some ⟨b, o, s⟩, cap, by rw [hl2], by rw [hl2]; exact hl, fun i e he => ?_⟩, fun x hx => ?_, by rw [hl2]; omega⟩
    · obtain ⟨_, h1, h2, h3⟩ := hp i e he
      subst h1
      exact ⟨b, o, rfl, h2, h3⟩
    · obtain ⟨i, hi⟩ := List.getElem?_of_mem hx
      exact (hp i x hi).1
end
end Go.Proofs.YteciigbonaecoaaGreatDoor
