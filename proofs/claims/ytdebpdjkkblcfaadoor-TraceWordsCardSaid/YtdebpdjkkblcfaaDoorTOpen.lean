/- Arguments opened: structs of eight numbers, by value and in a slice. -/
import Derived.Test.YtdebpdjkkblcfaaDoorTLaid
import Derived.Test.YtdebpdjkkblcfaaDoorKeysPlain
import Derived.Test.YtdebpdjkkblcfaaDoorFill
import Derived.Lib.SmallJoins
import Derived.Deep.Slices
import Derived.Deep.Fields
import Derived.ChangeMaps5
namespace Go.Proofs.YtdebpdjkkblcfaaDoor
open Go.ChangeShapes Go.WideShapes Go.ChangeAt Go.RowKit Go.Ab Go.Joins
open Go.Deep
section
variable {H : Type} {enc : TypeId × Value → H} {W : World} {base : Nat} {sp : Nat → Bool} {held : Bool}
theorem u8b {n : Int} (h : (Lit.int .u8 n).wf = true) : 0 ≤ n ∧ n < 256 := by have := bounds_u8 h; omega
theorem u16b {n : Int} (h : (Lit.int .u16 n).wf = true) : 0 ≤ n ∧ n < 65536 := by have := bounds_u16 h; omega
theorem u32b {n : Int} (h : (Lit.int .u32 n).wf = true) : 0 ≤ n ∧ n < 4294967296 := by have := bounds_u32 h; omega
theorem i64b {n : Int} (h : (Lit.int .i64 n).wf = true) : -9223372036854775808 ≤ n ∧ n ≤ 9223372036854775807 := by
  simp [Lit.wf, IntKind.min, IntKind.max, IntKind.signed, IntKind.bits] at h; omega
theorem array8 {α : Type} {cs : Array α} (h : cs.size = 8) : ∃ c0 c1 c2 c3 c4 c5 c6 c7, cs = #[c0, c1, c2, c3, c4, c5, c6, c7] := by
  obtain ⟨l⟩ := cs
  match l, h with
  | [c0, c1, c2, c3, c4, c5, c6, c7], _ => exact ⟨c0, c1, c2, c3, c4, c5, c6, c7, rfl⟩
theorem open_agg8 {P : Program} {w : World} {r : Reach} {b0 : Nat} {t : TypeId} {f0 f1 f2 f3 f4 f5 f6 f7 : Field} {v : Value} {d : DataW H} {p : List MemPlace} (hs : P.underlying t = some (.struct #[f0, f1, f2, f3, f4, f5, f6, f7])) (hone : oneCellFields P #[f0, f1, f2, f3, f4, f5, f6, f7] = true) (hC : P.cellsOf t = 8)
    (hv : Value.okWide P w r b0 t v) (h : DataW.Trod enc P w base sp held t v d p) :
    ∃ (v0 v1 v2 v3 v4 v5 v6 v7 : Value) (y0 y1 y2 y3 y4 y5 y6 y7 : DataW H × List MemPlace) (n : Nat), v = .agg #[v0, v1, v2, v3, v4, v5, v6, v7] ∧ d = .agg [y0.1, y1.1, y2.1, y3.1, y4.1, y5.1, y6.1, y7.1] ∧ p = [y0, y1, y2, y3, y4, y5, y6, y7].flatMap (·.2) ∧
      DataW.trod enc P w base sp held n f0.type [v0] = some y0 ∧ DataW.trod enc P w base sp held n f1.type [v1] = some y1 ∧ DataW.trod enc P w base sp held n f2.type [v2] = some y2 ∧ DataW.trod enc P w base sp held n f3.type [v3] = some y3 ∧ DataW.trod enc P w base sp held n f4.type [v4] = some y4 ∧ DataW.trod enc P w base sp held n f5.type [v5] = some y5 ∧ DataW.trod enc P w base sp held n f6.type [v6] = some y6 ∧ DataW.trod enc P w base sp held n f7.type [v7] = some y7 := by
  obtain ⟨cs, rfl, hsz⟩ := okWide_struct hs hv
  obtain ⟨c0, c1, c2, c3, c4, c5, c6, c7, rfl⟩ := array8 (hsz.trans hC)
  obtain ⟨fuel, hf⟩ := h
  obtain ⟨xs, n, _, hx, _, hlen, hh⟩ := DataW.trod_struct hs hf
  match xs, hlen with
  | [y0, y1, y2, y3, y4, y5, y6, y7], _ =>
    obtain ⟨o0, k0⟩ := hone_of hone 0 f0 rfl
    obtain ⟨o1, k1⟩ := hone_of hone 1 f1 rfl
    obtain ⟨o2, k2⟩ := hone_of hone 2 f2 rfl
    obtain ⟨o3, k3⟩ := hone_of hone 3 f3 rfl
    obtain ⟨o4, k4⟩ := hone_of hone 4 f4 rfl
    obtain ⟨o5, k5⟩ := hone_of hone 5 f5 rfl
    obtain ⟨o6, k6⟩ := hone_of hone 6 f6 rfl
    obtain ⟨o7, k7⟩ := hone_of hone 7 f7 rfl
    simp only [Prod.mk.injEq] at hx
    exact ⟨c0, c1, c2, c3, c4, c5, c6, c7, y0, y1, y2, y3, y4, y5, y6, y7, n, rfl, by simpa using hx.1, hx.2, by simpa [Value.cells, o0, k0] using hh 0 f0 rfl, by simpa [Value.cells, o1, k1] using hh 1 f1 rfl, by simpa [Value.cells, o2, k2] using hh 2 f2 rfl, by simpa [Value.cells, o3, k3] using hh 3 f3 rfl, by simpa [Value.cells, o4, k4] using hh 4 f4 rfl, by simpa [Value.cells, o5, k5] using hh 5 f5 rfl, by simpa [Value.cells, o6, k6] using hh 6 f6 rfl, by simpa [Value.cells, o7, k7] using hh 7 f7 rfl⟩
theorem cellsSmall : Tryd.prog.cellsOf 25 = 8 := by kernel_rfl
def smV (x : Sm) : Value := .agg #[.int .u8 x.a, .int .u8 x.sd, .int .u8 x.r, .int .u8 x.p, .int .u32 x.s, .int .u32 x.d, .int .u16 x.sp, .int .u16 x.dp]
set_option maxRecDepth 100000 in
theorem open_small {r : Reach} {b0 : Nat} {v : Value} {d : DataW H} {p : List MemPlace} (hv : Value.okWide Tryd.prog W r b0 25 v) (h : DataW.Trod enc Tryd.prog W base sp held 25 v d p) : ∃ x : Sm, v = smV x ∧ SmB x := by
  obtain ⟨v0, v1, v2, v3, v4, v5, v6, v7, y0, y1, y2, y3, y4, y5, y6, y7, n, rfl, rfl, rfl, h0, h1, h2, h3, h4, h5, h6, h7⟩ := open_agg8 Tryd.underlying25 (by kernel_rfl) cellsSmall hv h
  obtain ⟨z0, e0, rfl, w0⟩ := DataW.trod_int Tryd.underlying5 h0
  obtain ⟨z1, e1, rfl, w1⟩ := DataW.trod_int Tryd.underlying5 h1
  obtain ⟨z2, e2, rfl, w2⟩ := DataW.trod_int Tryd.underlying5 h2
  obtain ⟨z3, e3, rfl, w3⟩ := DataW.trod_int Tryd.underlying5 h3
  obtain ⟨z4, e4, rfl, w4⟩ := DataW.trod_int Tryd.underlying22 h4
  obtain ⟨z5, e5, rfl, w5⟩ := DataW.trod_int Tryd.underlying22 h5
  obtain ⟨z6, e6, rfl, w6⟩ := DataW.trod_int Tryd.underlying23 h6
  obtain ⟨z7, e7, rfl, w7⟩ := DataW.trod_int Tryd.underlying23 h7
  simp only [List.cons.injEq, and_true] at e0 e1 e2 e3 e4 e5 e6 e7
  subst e0 e1 e2 e3 e4 e5 e6 e7
  exact ⟨⟨z0, z1, z2, z3, z4, z5, z6, z7⟩, rfl, ⟨(u8b w0).1, (u8b w0).2, (u8b w1).1, (u8b w1).2, (u8b w2).1, (u8b w2).2, (u8b w3).1, (u8b w3).2, (u32b w4).1, (u32b w4).2, (u32b w5).1, (u32b w5).2, (u16b w6).1, (u16b w6).2, (u16b w7).1, (u16b w7).2⟩⟩
theorem fields8 {P : Program} {w : World} {t : TypeId} {f0 f1 f2 f3 f4 f5 f6 f7 : Field} {fuel : Nat} {cs : List Value} {x : DataW H × List MemPlace} (hs : P.underlying t = some (.struct #[f0, f1, f2, f3, f4, f5, f6, f7])) (hone : oneCellFields P #[f0, f1, f2, f3, f4, f5, f6, f7] = true) (h : DataW.trod enc P w base sp held fuel t cs = some x) (hl : cs.length = 8) :
    ∃ (c0 c1 c2 c3 c4 c5 c6 c7 : Value) (y0 y1 y2 y3 y4 y5 y6 y7 : DataW H × List MemPlace) (n : Nat), cs = [c0, c1, c2, c3, c4, c5, c6, c7] ∧ DataW.trod enc P w base sp held n f0.type [c0] = some y0 ∧ DataW.trod enc P w base sp held n f1.type [c1] = some y1 ∧ DataW.trod enc P w base sp held n f2.type [c2] = some y2 ∧ DataW.trod enc P w base sp held n f3.type [c3] = some y3 ∧ DataW.trod enc P w base sp held n f4.type [c4] = some y4 ∧ DataW.trod enc P w base sp held n f5.type [c5] = some y5 ∧ DataW.trod enc P w base sp held n f6.type [c6] = some y6 ∧ DataW.trod enc P w base sp held n f7.type [c7] = some y7 := by
  obtain ⟨xs, n, _, hx, _, hlen, hh⟩ := DataW.trod_struct hs h
  match cs, hl, xs, hlen with
  | [c0, c1, c2, c3, c4, c5, c6, c7], _, [y0, y1, y2, y3, y4, y5, y6, y7], _ =>
    obtain ⟨o0, k0⟩ := hone_of hone 0 f0 rfl
    obtain ⟨o1, k1⟩ := hone_of hone 1 f1 rfl
    obtain ⟨o2, k2⟩ := hone_of hone 2 f2 rfl
    obtain ⟨o3, k3⟩ := hone_of hone 3 f3 rfl
    obtain ⟨o4, k4⟩ := hone_of hone 4 f4 rfl
    obtain ⟨o5, k5⟩ := hone_of hone 5 f5 rfl
    obtain ⟨o6, k6⟩ := hone_of hone 6 f6 rfl
    obtain ⟨o7, k7⟩ := hone_of hone 7 f7 rfl
    exact ⟨c0, c1, c2, c3, c4, c5, c6, c7, y0, y1, y2, y3, y4, y5, y6, y7, n, rfl, by simpa [o0, k0] using hh 0 f0 rfl, by simpa [o1, k1] using hh 1 f1 rfl, by simpa [o2, k2] using hh 2 f2 rfl, by simpa [o3, k3] using hh 3 f3 rfl, by simpa [o4, k4] using hh 4 f4 rfl, by simpa [o5, k5] using hh 5 f5 rfl, by simpa [o6, k6] using hh 6 f6 rfl, by simpa [o7, k7] using hh 7 f7 rfl⟩
set_option maxRecDepth 100000 in
/-- One element of a slice of small structs. -/
theorem open_small_at {fuel : Nat} {cs : List Value} {x : DataW H × List MemPlace} (h : DataW.trod enc Tryd.prog W base sp held fuel 25 cs = some x) (hl : cs.length = 8) : ∃ y : Sm, cs = y.cells ∧ SmB y := by
  obtain ⟨c0, c1, c2, c3, c4, c5, c6, c7, y0, y1, y2, y3, y4, y5, y6, y7, n, rfl, h0, h1, h2, h3, h4, h5, h6, h7⟩ := fields8 Tryd.underlying25 (by kernel_rfl) h hl
  obtain ⟨z0, e0, _, w0⟩ := DataW.trod_int Tryd.underlying5 h0
  obtain ⟨z1, e1, _, w1⟩ := DataW.trod_int Tryd.underlying5 h1
  obtain ⟨z2, e2, _, w2⟩ := DataW.trod_int Tryd.underlying5 h2
  obtain ⟨z3, e3, _, w3⟩ := DataW.trod_int Tryd.underlying5 h3
  obtain ⟨z4, e4, _, w4⟩ := DataW.trod_int Tryd.underlying22 h4
  obtain ⟨z5, e5, _, w5⟩ := DataW.trod_int Tryd.underlying22 h5
  obtain ⟨z6, e6, _, w6⟩ := DataW.trod_int Tryd.underlying23 h6
  obtain ⟨z7, e7, _, w7⟩ := DataW.trod_int Tryd.underlying23 h7
  simp only [List.cons.injEq, and_true] at e0 e1 e2 e3 e4 e5 e6 e7
  subst e0 e1 e2 e3 e4 e5 e6 e7
  exact ⟨⟨z0, z1, z2, z3, z4, z5, z6, z7⟩, rfl, ⟨(u8b w0).1, (u8b w0).2, (u8b w1).1, (u8b w1).2, (u8b w2).1, (u8b w2).2, (u8b w3).1, (u8b w3).2, (u32b w4).1, (u32b w4).2, (u32b w5).1, (u32b w5).2, (u16b w6).1, (u16b w6).2, (u16b w7).1, (u16b w7).2⟩⟩
theorem choose_list {α : Type} (P : Nat → α → Prop) : ∀ n, (∀ i, i < n → ∃ y, P i y) → ∃ l : List α, l.length = n ∧ ∀ i y, l[i]? = some y → P i y
  | 0, _ => ⟨[], rfl, fun i y h => by simp at h⟩
  | n + 1, h => by
    obtain ⟨l, hl, hp⟩ := choose_list P n (fun i hi => h i (by omega))
    obtain ⟨y, hy⟩ := h n (by omega)
    refine ⟨l ++ [y], by simp [hl], fun i z hz => ?_⟩
    rcases Nat.lt_or_ge i n with h1 | h1
    · rw [List.getElem?_append_left (by omega)] at hz
      exact hp i z hz
    · have : i = n := by
        have := (List.getElem?_eq_some_iff.1 hz).1
        simp [hl] at this; omega
      subst this
      rw [List.getElem?_append_right (by omega), hl, Nat.sub_self] at hz
      simp at hz
      exact hz ▸ hy
set_option maxRecDepth 100000 in
/-- A slice of small structs that came in. -/
theorem open_smalls {r : Reach} {b0 : Nat} {v : Value} {d : DataW H} {p : List MemPlace} (hv : Value.okWide Tryd.prog W r b0 48 v) (h : DataW.Trod enc Tryd.prog W base sp held 48 v d p) : ∃ l : List Sm, SmRow W v l ∧ ∀ x ∈ l, SmB x := by
  obtain ⟨a0, len0, cap0, rfl⟩ := okWide_slice Tryd.underlying48 hv
  obtain ⟨fuel, hf⟩ := h
  rcases open_slice Tryd.underlying48 hf with ⟨h0, _⟩ | ⟨a, len, cap, m, n, D, Pl, hcs, hb, hl, hm, hmm, hx, hi⟩
  · simp only [Value.cells, List.cons.injEq, and_true] at h0
    rw [h0]
    exact ⟨[], .inl ⟨rfl, rfl⟩, fun x hx => by cases hx⟩
  · simp only [Value.cells, List.cons.injEq, and_true] at hcs
    rw [hcs]
    have hlm : len ≤ m := by rw [hmm]; split <;> omega
    obtain ⟨b, o, s⟩ := a
    have hall : ∀ i, i < len → ∃ y : Sm, SmB y ∧ s = none ∧ b < W.heap.size ∧ ∀ j u, y.cells[j]? = some u → W.cell? ⟨b, o + i * 8 + j, none⟩ = some u := by
      intro i hil
      obtain ⟨cs', hc, ht⟩ := hi i (by omega)
      rw [cellsSmall] at hc
      obtain ⟨_, hcl, hat⟩ := World.cells?_some hc
      obtain ⟨y, rfl, hyb⟩ := open_small_at ht (by simpa using hcl)
      have h0 := hat 0 (by omega)
      have hi0 : s = none := by
        obtain ⟨cs0, hc0, ht0⟩ := hi 0 (by omega)
        rw [cellsSmall] at hc0
        obtain ⟨_, hcl0, hat0⟩ := World.cells?_some hc0
        have := hat0 0 (by omega)
        rw [List.getElem?_eq_getElem (by omega)] at this
        simpa [Addr.add] using World.cell?_spot this
      subst hi0
      have hcell : ∀ j u, y.cells[j]? = some u → W.cell? ⟨b, o + i * 8 + j, none⟩ = some u := by
        intro j u hj
        have hj8 : j < 8 := (List.getElem?_eq_some_iff.1 hj).1
        have := hat j hj8
        rw [hj] at this
        rw [← this]
        congr 1
        unfold Addr.add
        by_cases h1 : i * 8 = 0
        · rw [if_pos h1]
          by_cases h2 : j = 0
          · rw [if_pos h2, h1, h2]; rfl
          · rw [if_neg h2, h1, Nat.add_zero]
        · rw [if_neg h1]
          by_cases h2 : j = 0
          · rw [if_pos h2]; simp [h2]
          · rw [if_neg h2]
      exact ⟨y, hyb, rfl, cell_lt' (hcell 0 _ rfl), hcell⟩
    obtain ⟨l, hl2, hp⟩ := choose_list _ len hall
    refine ⟨l, .inr ⟨b, o, s, cap, by rw [hl2], by omega, by omega, fun h0 => ?_⟩, fun x hx => ?_⟩
    · obtain ⟨y, hy⟩ : ∃ y, l[0]? = some y := ⟨_, List.getElem?_eq_getElem h0⟩
      obtain ⟨_, h1, h2, _⟩ := hp 0 y hy
      refine ⟨h1, h2, fun i hi j u hu => ?_⟩
      obtain ⟨z, hz, hu'⟩ := Option.bind_eq_some_iff.1 hu
      exact (hp i z hz).2.2.2 j u hu'
    · obtain ⟨i, hi⟩ := List.getElem?_of_mem hx
      exact (hp i x hi).1
end
end Go.Proofs.YtdebpdjkkblcfaaDoor
