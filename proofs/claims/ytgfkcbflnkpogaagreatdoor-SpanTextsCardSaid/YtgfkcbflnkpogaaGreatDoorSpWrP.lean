/- SpanWrong's plain laws: a right set with one span out of its place is no right set. -/
import Derived.Test.YtgfkcbflnkpogaaGreatDoorSpBk
set_option linter.unusedSimpArgs false
set_option linter.unusedVariables false
namespace Go.Ab
open Go.RowKit
theorem rF_next : ∀ {s : List Sp} {lo : Int} {i : Nat} {x y : Sp}, rF lo s = true → s[i]? = some x → s[i + 1]? = some y → x.2 + 2 ≤ y.1
  | [], _, _, _, _, _, h, _ => by simp at h
  | z :: t, lo, 0, x, y, hr, h, k => by
      obtain ⟨_, _, h3⟩ := rF_cons.1 hr
      simp only [List.getElem?_cons_zero, Option.some.injEq] at h
      subst h
      simp only [List.getElem?_cons_succ] at k
      cases t with
      | nil => simp at k
      | cons u t =>
        simp only [List.getElem?_cons_zero, Option.some.injEq] at k
        subst k
        exact (rF_cons.1 h3).1
  | z :: t, lo, i + 1, x, y, hr, h, k => by
      obtain ⟨_, _, h3⟩ := rF_cons.1 hr
      simp only [List.getElem?_cons_succ] at h k
      exact rF_next h3 h k
/-- A set with its span at j + 1 out of place, in one of four ways. -/
def wrS (a : List Sp) (j : Nat) (x y : Sp) (d : Int) : List Sp :=
  if d = 0 then (a.set j y).set (j + 1) x
  else if d = 1 then a.set (j + 1) (x.2 + 1, y.2)
  else if d = 2 then a.set (j + 1) (x.1, y.2)
  else a.set (j + 1) (y.2 + 1, y.1)
theorem wrS_len (a : List Sp) (j : Nat) (x y : Sp) (d : Int) : (wrS a j x y d).length = a.length := by
  unfold wrS; repeat (first | split | simp)
structure WrIn (a : List Sp) (j : Nat) (x y : Sp) (d : Int) : Prop where
  n : ∃ n, RS n a
  hx : a[j]? = some x
  hy : a[j + 1]? = some y
  d0 : 0 ≤ d
  d3 : d < 4
  top : d = 3 → y.2 + 1 < 4294967296
theorem mem_set' {α : Type} {l : List α} {i : Nat} {v z : α} (h : z ∈ l.set i v) : z ∈ l ∨ z = v := List.mem_or_eq_of_mem_set h
theorem wrS_b {a : List Sp} {j : Nat} {x y : Sp} {d : Int} (h : WrIn a j x y d) : ∀ z ∈ wrS a j x y d, SpB z := by
  obtain ⟨n, hn⟩ := h.n
  have bx := hn.b x (List.mem_of_getElem? h.hx)
  have by_ := hn.b y (List.mem_of_getElem? h.hy)
  have lx := rF_le hn.r x (List.mem_of_getElem? h.hx)
  have ly := rF_le hn.r y (List.mem_of_getElem? h.hy)
  have hxy := rF_next hn.r h.hx h.hy
  intro z hz
  unfold wrS at hz
  obtain ⟨f0, f1, t0, t1⟩ := bx
  obtain ⟨g0, g1, u0, u1⟩ := by_
  split at hz
  · rcases mem_set' hz with hz | rfl
    · rcases mem_set' hz with hz | rfl
      · exact hn.b z hz
      · exact ⟨g0, g1, u0, u1⟩
    · exact ⟨f0, f1, t0, t1⟩
  · split at hz
    · rcases mem_set' hz with hz | rfl
      · exact hn.b z hz
      · constructor <;> simp only <;> omega
    · split at hz
      · rcases mem_set' hz with hz | rfl
        · exact hn.b z hz
        · constructor <;> simp only <;> omega
      · have := h.top (by have := h.d0; have := h.d3; omega)
        rcases mem_set' hz with hz | rfl
        · exact hn.b z hz
        · constructor <;> simp only <;> omega
theorem wrS_no {a : List Sp} {j : Nat} {x y : Sp} {d : Int} (h : WrIn a j x y d) : rightS (wrS a j x y d) = false := by
  obtain ⟨n, hn⟩ := h.n
  have lx := rF_le hn.r x (List.mem_of_getElem? h.hx)
  have ly := rF_le hn.r y (List.mem_of_getElem? h.hy)
  have hxy := rF_next hn.r h.hx h.hy
  have l1 : j + 1 < a.length := (List.getElem?_eq_some_iff.1 h.hy).1
  rw [Bool.eq_false_iff]
  intro hr
  unfold rightS at hr
  unfold wrS at hr
  have q1 : ∀ v : Sp, (a.set (j + 1) v)[j]? = some x := fun v => by rw [List.getElem?_set_ne (by omega)]; exact h.hx
  have q2 : ∀ (l : List Sp) (v : Sp), l.length = a.length → (l.set (j + 1) v)[j + 1]? = some v := fun l v hl => by rw [List.getElem?_set_self (by omega)]
  split at hr
  · have := rF_next (x := y) (y := x) hr (by rw [List.getElem?_set_ne (by omega), List.getElem?_set_self (by omega)]) (q2 _ _ (by simp))
    omega
  · split at hr
    · have := rF_next hr (q1 _) (q2 _ _ rfl); simp only at this; omega
    · split at hr
      · have := rF_next hr (q1 _) (q2 _ _ rfl); simp only at this; omega
      · have := rF_le hr _ (List.mem_of_getElem? (q2 a _ rfl)); simp only at this; omega
theorem wrS_bad {a : List Sp} {j : Nat} {x y : Sp} {d : Int} (h : WrIn a j x y d) : badS (wrS a j x y d) = decide (d = 3) := by
  obtain ⟨n, hn⟩ := h.n
  have lx := rF_le hn.r x (List.mem_of_getElem? h.hx)
  have ly := rF_le hn.r y (List.mem_of_getElem? h.hy)
  have hxy := rF_next hn.r h.hx h.hy
  have l1 : j + 1 < a.length := (List.getElem?_eq_some_iff.1 h.hy).1
  have no : ∀ l : List Sp, (∀ z ∈ l, z.1 ≤ z.2) → badS l = false := fun l hl => by
    unfold badS
    rw [Bool.eq_false_iff]
    intro hb
    obtain ⟨z, hz, hb⟩ := List.any_eq_true.1 hb
    have := hl z hz
    have := of_decide_eq_true hb
    omega
  have hle := rF_le hn.r
  unfold wrS
  split
  · rename_i e; subst e
    refine no _ fun z hz => ?_
    rcases mem_set' hz with hz | rfl
    · rcases mem_set' hz with hz | rfl
      · exact hle z hz
      · exact ly
    · exact lx
  · split
    · rename_i e; subst e
      refine no _ fun z hz => ?_
      rcases mem_set' hz with hz | rfl
      · exact hle z hz
      · simp only; omega
    · split
      · rename_i e; subst e
        refine no _ fun z hz => ?_
        rcases mem_set' hz with hz | rfl
        · exact hle z hz
        · simp only; omega
      · have : d = 3 := by have := h.d0; have := h.d3; omega
        subst this
        unfold badS
        exact List.any_eq_true.2 ⟨_, List.mem_of_getElem? (List.getElem?_set_self l1), decide_eq_true (by simp only; omega)⟩
theorem wrongLs_mem {ls : List (List Sp)} {s : List Sp} (hs : s ∈ ls) (hr : rightS s = false) (hl : ∀ r ∈ ls, r.length ≤ 4096) : wrongLs ls = 2 := by
  unfold wrongLs
  rw [if_neg, if_neg]
  · intro h; have := List.all_eq_true.1 h s hs; rw [hr] at this; cases this
  · intro h
    obtain ⟨r, hr, hb⟩ := List.any_eq_true.1 h
    have := hl r hr
    have := of_decide_eq_true hb
    omega
theorem wrongL_no {s : List Sp} (hr : rightS s = false) (hl : s.length ≤ 4096) : wrongL s = 2 := by
  rw [← wrongLs_one]; exact wrongLs_mem (List.mem_singleton.2 rfl) hr (fun r h => by rw [List.mem_singleton.1 h]; exact hl)
end Go.Ab
