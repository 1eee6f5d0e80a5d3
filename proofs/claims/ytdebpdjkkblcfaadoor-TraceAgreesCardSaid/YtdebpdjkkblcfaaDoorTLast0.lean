/- Plain facts on counts of events; rows that came in, in later worlds; the front of a law on a filled ring. -/
import Derived.Test.YtdebpdjkkblcfaaDoorFill
import Derived.Test.YtdebpdjkkblcfaaDoorAwk3
import Derived.Test.YtdebpdjkkblcfaaDoorTrPlain
namespace Go.Ab
open Go.RowKit Go.Proofs.YtdebpdjkkblcfaaDoor
theorem ArgRow.up {w W : World} {v : Value} {n k : Nat} {cs : Nat → Nat → Option Value} (h : ArgRow w v n k cs) (u : Up w W) : ArgRow W v n k cs := by
  rcases h with h | ⟨b, o, s, cap, hv, h1, h2, h3⟩
  · exact .inl h
  · exact .inr ⟨b, o, s, cap, hv, h1, h2, fun hn => ⟨(h3 hn).1, Nat.lt_of_lt_of_le (h3 hn).2.1 u.size, fun i hi j c hj => u.cell_some' ((h3 hn).2.2 i hi j c hj)⟩⟩
theorem SmRow.up {w W : World} {v : Value} {l : List Sm} (h : SmRow w v l) (u : Up w W) : SmRow W v l := ArgRow.up h u
theorem countR_cons (e : Ev) (t : List Ev) (r : Nat) : countR (e :: t) r = (if e.r = (r : Int) then 1 else 0) + countR t r := by
  unfold countR
  rw [List.filter_cons]
  by_cases h : e.r = (r : Int)
  · rw [if_pos (by simpa using h), if_pos h, List.length_cons]; omega
  · rw [if_neg (by simpa using h), if_neg h]; omega
theorem countR_snoc2 (l : List Ev) (e : Ev) (r : Nat) : countR (l ++ [e]) r = countR l r + (if e.r = (r : Int) then 1 else 0) := by
  unfold countR
  rw [List.filter_append, List.length_append]
  by_cases h : e.r = (r : Int) <;> simp [h]
theorem countR_none (l : List Ev) (r : Nat) (h : ∀ e ∈ l, e.r ≠ (r : Int)) : countR l r = 0 := by
  unfold countR
  rw [List.length_eq_zero_iff, List.filter_eq_nil_iff]
  intro e he
  simpa using h e he
theorem countR_le (l : List Ev) (r : Nat) : countR l r ≤ l.length := List.length_filter_le _ _
/-- How many events have a reason below a number. -/
def sumTo (l : List Ev) : Nat → Nat
  | 0 => 0
  | k + 1 => sumTo l k + countR l k
theorem sumTo_nil : ∀ k, sumTo [] k = 0
  | 0 => rfl
  | k + 1 => by rw [sumTo, sumTo_nil k]; rfl
theorem sumTo_cons (e : Ev) (t : List Ev) (h0 : 0 ≤ e.r) : ∀ k : Nat, sumTo (e :: t) k = sumTo t k + (if e.r < (k : Int) then 1 else 0)
  | 0 => by rw [if_neg (by omega)]; rfl
  | k + 1 => by
    rw [sumTo, sumTo, sumTo_cons e t h0 k, countR_cons]
    by_cases h1 : e.r < (k : Int)
    · rw [if_pos h1, if_neg (by omega), if_pos (by omega)]; omega
    · by_cases h2 : e.r = (k : Int)
      · rw [if_neg h1, if_pos h2, if_pos (by omega)]; omega
      · rw [if_neg h1, if_neg h2, if_neg (by omega)]; omega
theorem sumTo_all : ∀ (l : List Ev) (k : Nat), (∀ e ∈ l, 0 ≤ e.r ∧ e.r < (k : Int)) → sumTo l k = l.length
  | [], k, _ => sumTo_nil k
  | e :: t, k, h => by
    have h1 := h e (by simp)
    rw [sumTo_cons e t h1.1, sumTo_all t k (fun x hx => h x (by simp [hx])), if_pos h1.2, List.length_cons]
theorem sumTo_le (l : List Ev) : ∀ k, sumTo l k ≤ k * l.length
  | 0 => by simp [sumTo]
  | k + 1 => by
    have h1 := sumTo_le l k
    have h2 := countR_le l k
    rw [sumTo, Nat.succ_mul]; omega
theorem EvsOk.reason {l : List Ev} (h : EvsOk l) (e : Ev) (he : e ∈ l) : 1 ≤ e.r ∧ e.r < 30 := by
  have := (right_parts (h.r e he)).2.1
  omega
theorem EvsOk.count {l : List Ev} (h : EvsOk l) (r : Nat) : (if 1 ≤ r ∧ r < 30 then (countR l r : Int) else 0) = countR l r := by
  split
  · rfl
  · rename_i hr
    rw [countR_none l r (fun e he => by have := h.reason e he; omega)]; rfl
theorem lastL_drop (l : List Ev) (n : Nat) : lastL l n = l.drop (l.length - n) := by
  unfold lastL
  congr 1
  omega
/-- The tail of a slice of events. -/
theorem EvRow.tail {w : World} {g cap : Nat} {l : List Ev} (h : EvRow w (.slice (some ⟨g, 0, none⟩) l.length cap) l) (lo c : Nat) : EvRow w (.slice (some ⟨g, lo * 8, none⟩) (l.length - lo) c) (l.drop lo) := by
  obtain ⟨p, cap', hv, hc⟩ := h
  obtain ⟨rfl, _, rfl⟩ := Value.slice.inj hv
  refine ⟨_, c, by rw [List.length_drop], fun i hi => ?_⟩
  rw [List.length_drop] at hi
  obtain ⟨b, o, hp, hb, hcc⟩ := hc (lo + i) (by omega)
  have hp' : b = g ∧ o = 0 := by simpa [eq_comm] using hp
  obtain ⟨rfl, rfl⟩ := hp'
  refine ⟨b, lo * 8, rfl, hb, fun j u hj => ?_⟩
  have := hcc j u (by simp only [List.getElem?_drop] at hj ⊢; exact hj)
  rw [← this]; congr 2; omega
theorem EvRow.nil (w : World) : EvRow w (.slice none 0 0) [] := ⟨none, 0, rfl, fun i hi => by simp at hi⟩
end Go.Ab
