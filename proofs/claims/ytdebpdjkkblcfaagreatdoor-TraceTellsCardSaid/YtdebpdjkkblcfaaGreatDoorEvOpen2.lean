/- Arguments opened: a slice of events. -/
import Derived.Test.YtdebpdjkkblcfaaGreatDoorEvOpen
import Derived.Test.YtdebpdjkkblcfaaGreatDoorEqual
namespace Go.Proofs.YtdebpdjkkblcfaaGreatDoor
open Go.ChangeShapes Go.WideShapes Go.ChangeAt Go.RowKit Go.Ab Go.Joins
open Go.Deep
section
variable {H : Type} {enc : TypeId × Value → H} {W : World} {base : Nat} {sp : Nat → Bool} {held : Bool}
theorem choose_list2 {α : Type} (P : Nat → α → Prop) : ∀ n, (∀ i, i < n → ∃ y, P i y) → ∃ l : List α, l.length = n ∧ ∀ i y, l[i]? = some y → P i y
  | 0, _ => ⟨[], rfl, fun i y h => by simp at h⟩
  | n + 1, h => by
    obtain ⟨l, hl, hp⟩ := choose_list2 P n (fun i hi => h i (by omega))
    obtain ⟨y, hy⟩ := h n (by omega)
    refine ⟨l ++ [y], by simp [hl], fun i z hz => ?_⟩
    rcases Nat.lt_or_ge i n with h1 | h1
    · rw [List.getElem?_append_left (by omega)] at hz
      exact hp i z hz
    · have : i = n := by
        have := (List.getElem?_eq_some_iff.1 hz).1
        simp [hl] at this; omega
      subst this
      rw [List.getElem?_append_right (by omega), hl, Nat.sub_self] at hz
      simp at hz
      exact hz ▸ hy
set_option maxRecDepth 100000 in
theorem open_events {r : Reach} {b0 : Nat} {v : Value} {d : DataW H} {p : List MemPlace} (hv : Value.okWide Tryz.prog W r b0 30 v) (h : DataW.Trod enc Tryz.prog W base sp held 30 v d p) : ∃ l : List Ev, EvRow W v l ∧ (∀ x ∈ l, EvB x) ∧ l.length ≤ maxLen := by
  obtain ⟨a0, len0, cap0, rfl⟩ := okWide_slice Tryz.underlying30 hv
  obtain ⟨fuel, hf⟩ := h
  rcases open_slice Tryz.underlying30 hf with ⟨h0, _⟩ | ⟨a, len, cap, m, n, D, Pl, hcs, hb, hl, hm, hmm, hx, hi⟩
  · simp only [Value.cells, List.cons.injEq, and_true] at h0
    rw [h0]
    exact ⟨[], ⟨none, 0, rfl, fun i hi => absurd hi (Nat.not_lt_zero i)⟩, ⟨fun x hx => (List.not_mem_nil hx).elim, Nat.zero_le _⟩⟩
  · simp only [Value.cells, List.cons.injEq, and_true] at hcs
    rw [hcs]
    have hlm : len ≤ m := by rw [hmm]; split <;> omega
    obtain ⟨b, o, s⟩ := a
    have hall : ∀ i, i < len → ∃ y : Ev, EvB y ∧ s = none ∧ b < W.heap.size ∧ ∀ j u, y.cells[j]? = some u → W.cell? ⟨b, o + i * 8 + j, none⟩ = some u := by
      intro i hil
      obtain ⟨cs', hc, ht⟩ := hi i (by omega)
      rw [cellsEvent] at hc
      obtain ⟨_, hcl, hat⟩ := World.cells?_some hc
      obtain ⟨y, rfl, hyb⟩ := open_event_at ht (by simpa using hcl)
      have h0 := hat 0 (by omega)
      have hi0 : s = none := by
        obtain ⟨cs0, hc0, ht0⟩ := hi 0 (by omega)
        rw [cellsEvent] at hc0
        obtain ⟨_, hcl0, hat0⟩ := World.cells?_some hc0
        have := hat0 0 (by omega)
        rw [List.getElem?_eq_getElem (by omega)] at this
        simpa [Addr.add] using World.cell?_spot this
      subst hi0
      have hcell : ∀ j u, y.cells[j]? = some u → W.cell? ⟨b, o + i * 8 + j, none⟩ = some u := by
        intro j u hj
        have hj8 : j < 8 := (List.getElem?_eq_some_iff.1 hj).1
        have := hat j hj8
        rw [hj] at this
        rw [← this]
        congr 1
        unfold Addr.add
        by_cases h1 : i * 8 = 0
        · rw [if_pos h1]
          by_cases h2 : j = 0
          · rw [if_pos h2, h1, h2]; rfl
          · rw [if_neg h2, h1, Nat.add_zero]
        · rw [if_neg h1]
          by_cases h2 : j = 0
          · rw [if_pos h2]; simp [h2]
          · rw [if_neg h2]
      exact ⟨y, hyb, rfl, cell_lt' (hcell 0 _ rfl), hcell⟩
    obtain ⟨l, hl2, hp⟩ := choose_list2 _ len hall
    refine ⟨l, ⟨some ⟨b, o, s⟩, cap, by rw [hl2], fun i hi => ?_⟩, fun x hx => ?_, by rw [hl2]; omega⟩
    · obtain ⟨y, hy⟩ : ∃ y, l[i]? = some y := ⟨_, List.getElem?_eq_getElem hi⟩
      obtain ⟨_, h1, h2, h3⟩ := hp i y hy
      subst h1
      refine ⟨b, o, rfl, h2, fun j u hu => ?_⟩
      obtain ⟨z, hz, hu'⟩ := Option.bind_eq_some_iff.1 hu
      rw [hy] at hz
      cases hz
      exact h3 j u hu'
    · obtain ⟨i, hi⟩ := List.getElem?_of_mem hx
      exact (hp i x hi).1
end
end Go.Proofs.YtdebpdjkkblcfaaGreatDoor
