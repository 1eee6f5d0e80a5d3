/- Slices of elements that have k cells each. -/
import Derived.Test.YtlbbepgfjigjpaaGreatDoorStr
import Derived.Test.YtlbbepgfjigjpaaGreatDoorInst
namespace Go.Ab
open Go.RowKit
section
variable {α : Type} {cells : α → List Value} {k : Nat}
def RowOf (cells : α → List Value) (k : Nat) (w : World) (v : Value) (l : List α) : Prop :=
  ∃ p cap, v = .slice p l.length cap ∧ l.length ≤ cap ∧ ∀ i e, l[i]? = some e → ∃ b o, p = some ⟨b, o, none⟩ ∧ b < w.heap.size ∧ ∀ j u, (cells e)[j]? = some u → w.cell? ⟨b, o + i * k + j, none⟩ = some u
theorem RowOf.up {w W : World} {v : Value} {l : List α} (h : RowOf cells k w v l) (hu : Up w W) : RowOf cells k W v l := by
  obtain ⟨p, cap, hv, hle, hc⟩ := h
  refine ⟨p, cap, hv, hle, fun i e he => ?_⟩
  obtain ⟨b, o, hp, hb, h⟩ := hc i e he
  exact ⟨b, o, hp, Nat.lt_of_lt_of_le hb hu.size, fun j u hj => hu.cell_some (h j u hj)⟩
theorem RowOf.nil (w : World) : RowOf cells k w (.slice none 0 0) [] := ⟨none, 0, rfl, Nat.le_refl _, fun i e h => by simp at h⟩
theorem RowOf.nil' (w : World) (p : Option Addr) (cap : Nat) : RowOf cells k w (.slice p 0 cap) [] := ⟨p, cap, rfl, Nat.zero_le _, fun i e h => by simp at h⟩
theorem flat_at (hk : ∀ e, (cells e).length = k) (l : List α) : ∀ (i j : Nat) (e : α) (u : Value), l[i]? = some e → (cells e)[j]? = some u → (l.flatMap cells)[i * k + j]? = some u := by
  induction l with
  | nil => intro i j e u h; simp at h
  | cons x t ih =>
    intro i j e u h hu
    have hj : j < k := by rw [← hk e]; exact (List.getElem?_eq_some_iff.1 hu).1
    have hx : (cells x).length = k := hk x
    rw [List.flatMap_cons]
    rcases i with _ | i
    · simp at h; subst h
      rw [List.getElem?_append_left (by omega)]; simpa using hu
    · have e1 : (i + 1) * k + j - k = i * k + j := by rw [Nat.succ_mul]; omega
      rw [List.getElem?_append_right (by rw [Nat.succ_mul]; omega), hx, e1]
      exact ih i j e u (by simpa using h) hu
theorem flat_length (hk : ∀ e, (cells e).length = k) : ∀ l : List α, (l.flatMap cells).length = l.length * k
  | [] => by simp
  | x :: t => by rw [List.flatMap_cons, List.length_append, flat_length hk t, hk x, List.length_cons, Nat.succ_mul]; omega
theorem RowOf.of_owns (hk : ∀ e, (cells e).length = k) {w : World} {base : Nat} {t : TypeId} {v : Value} {l : List α} (h : w.ownsRow base t k v l.length (l.flatMap cells)) : RowOf cells k w v l := by
  rcases Nat.eq_zero_or_pos l.length with h0 | h0
  · obtain rfl := List.length_eq_zero_iff.1 h0
    obtain ⟨_, ⟨rfl, _⟩ | ⟨g, cap, cur, rfl, _⟩⟩ := h
    · exact RowOf.nil w
    · exact RowOf.nil' w _ _
  · obtain ⟨g, cap, rfl, h1, h2, h3, hc⟩ := owns_cells h h0
    refine ⟨_, cap, rfl, h3, fun i e he => ⟨g, 0, rfl, h2, fun j u hu => ?_⟩⟩
    rw [Nat.zero_add]
    exact hc _ _ (flat_at hk l i j e u he hu)
theorem RowOf.of_block (hk : ∀ e, (cells e).length = k) {w : World} {t : TypeId} {b cap : Nat} {l : List α} {fz : Nat × Nat} (h : w.heap[b]? = some (.cells (l.flatMap cells).toArray t fz)) (hc : l.length ≤ cap) : RowOf cells k w (.slice (some ⟨b, 0, none⟩) l.length cap) l := by
  refine ⟨_, cap, rfl, hc, fun i e he => ⟨b, 0, rfl, (Array.getElem?_eq_some_iff.1 h).1, fun j u hu => ?_⟩⟩
  have h1 : w.cell? ⟨b, 0 + i * k + j, none⟩ = (l.flatMap cells).toArray[0 + i * k + j]? := by simp [World.cell?, h]
  rw [h1, Nat.zero_add]
  have := flat_at hk l i j e u he hu
  simpa using this
theorem RowOf.take {w : World} {p : Option Addr} {cap : Nat} {l : List α} (h : RowOf cells k w (.slice p l.length cap) l) (n : Nat) (hn : n ≤ l.length) : RowOf cells k w (.slice p n cap) (l.take n) := by
  obtain ⟨p', cap', hv, hle, hc⟩ := h
  simp only [Value.slice.injEq, true_and] at hv
  obtain ⟨rfl, rfl⟩ := hv
  refine ⟨p, cap, by rw [List.length_take, Nat.min_eq_left hn], by rw [List.length_take]; omega, fun i e he => ?_⟩
  rw [List.getElem?_take] at he
  split at he
  · exact hc i e he
  · cases he
end
end Go.Ab
