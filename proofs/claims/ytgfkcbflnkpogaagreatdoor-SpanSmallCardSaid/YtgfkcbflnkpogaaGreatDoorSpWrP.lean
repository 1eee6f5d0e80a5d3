/- The plain laws of SpanBack: the prefixes of a set lead back to it, in increasing order, each inside of it. SpanWrong's plain laws: a right set with one span out of its place is no right set. -/
import Derived.Test.YtgfkcbflnkpogaaGreatDoorSp19
set_option linter.unusedVariables false
namespace Go.Ab
open Go.RowKit
theorem hasS_coverFrom (b n : Int) : ∀ (f : Nat) (a : Int), a ≤ b → (b - a).toNat < f → hasS ((coverFrom b f a).map boundS) n = spIn (a, b) n
  | 0, a, h, hf => by omega
  | f + 1, a, h, hf => by
    have hlast := last_bd a b h
    have he : lastOf a b = a + (sz (cn a b) - 1) := rfl
    have hs := sz_pos (cn a b)
    rw [coverFrom]
    split
    · rename_i hl
      rw [List.map_cons, List.map_nil, hasS_one, boundS]
      simp only
      rw [← he, hl]
    · rename_i hl
      have ih := hasS_coverFrom b n f (lastOf a b + 1) (by omega) (by omega)
      rw [List.map_cons, hasS_cons, ih, boundS]
      simp only
      rw [← he, spIn_eq, spIn_eq, spIn_eq, ← Bool.decide_or]
      exact decide_eq_decide.2 (by simp only; omega)
theorem hasS_cover {a b : Int} (h : a ≤ b) (n : Int) : hasS ((coverL a b).map boundS) n = spIn (a, b) n := hasS_coverFrom b n _ a h (by omega)
theorem hasS_prefixes (n : Int) : ∀ s : List Sp, (∀ x ∈ s, x.1 ≤ x.2) → hasS ((prefixesL s).map boundS) n = hasS s n
  | [], _ => rfl
  | x :: s, h => by
    have ih := hasS_prefixes n s (fun y hy => h y (by simp [hy]))
    unfold prefixesL at ih ⊢
    rw [List.flatMap_cons, List.map_append, hasS_app, ih, hasS_cons, hasS_cover (h x (by simp))]
/-- The prefixes of a right set lead back to it. -/
theorem prefixes_back {s : List Sp} (hr : rightS s = true) (hb : ∀ x ∈ s, SpB x) (hp : ∀ p ∈ prefixesL s, PfB p ∧ rightB p.1 p.2 = true) : ofL ((prefixesL s).map boundS) = s := by
  have hbd : ∀ x ∈ (prefixesL s).map boundS, SpB x := fun x hx => by
    obtain ⟨p, hpm, rfl⟩ := List.mem_map.1 hx
    exact boundS_b (hp p hpm).1 (hp p hpm).2
  have hle : ∀ x ∈ (prefixesL s).map boundS, x.1 ≤ x.2 := fun x hx => by
    obtain ⟨p, hpm, rfl⟩ := List.mem_map.1 hx
    have := sz_pos p.2
    unfold boundS; simp only; omega
  exact rF_ext (rF_of hle) hr (fun n => by rw [hasS_of _ n hbd, hasS_prefixes n s (rF_le hr)])
theorem cover_ok {a b : Int} (h0 : 0 ≤ a) (h : a ≤ b) (hb : b < 4294967296) : ∀ p ∈ coverL a b, PfB p ∧ rightB p.1 p.2 = true ∧ a ≤ p.1 ∧ p.1 + (sz p.2 - 1) ≤ b := fun p hp => by
  obtain ⟨i, hi⟩ := List.getElem?_of_mem hp
  obtain ⟨_, h1, h2, h3⟩ := (steps a b h).at_ i p hi
  obtain ⟨k1, k2, k3⟩ := cnFrom_spec p.1 b h2 32 0 rfl (Int.le_refl _)
  have hc : cn p.1 b = cnFrom p.1 b 32 0 := rfl
  rw [← hc, ← h3] at k1 k2 k3
  obtain ⟨f1, f2⟩ := fits_parts k1
  refine ⟨⟨by omega, by omega, k2, by omega⟩, ?_, h1, f2⟩
  unfold rightB
  simp [k3, f1]
theorem prefixes_ok {s : List Sp} (hr : ∀ x ∈ s, x.1 ≤ x.2) (hb : ∀ x ∈ s, SpB x) : ∀ p ∈ prefixesL s, PfB p ∧ rightB p.1 p.2 = true ∧ ∃ x ∈ s, x.1 ≤ p.1 ∧ p.1 + (sz p.2 - 1) ≤ x.2 := fun p hp => by
  obtain ⟨x, hx, hpx⟩ := List.mem_flatMap.1 hp
  obtain ⟨f0, f1, t0, t1⟩ := hb x hx
  obtain ⟨h1, h2, h3, h4⟩ := cover_ok f0 (hr x hx) t1 p hpx
  exact ⟨h1, h2, x, hx, h3, h4⟩
/-- Each prefix lies inside of the set. -/
theorem prefix_within {s : List Sp} (hr : rightS s = true) (hb : ∀ x ∈ s, SpB x) {p : Int × Int} (hp : p ∈ prefixesL s) : withoutL [boundS p] s = [] := by
  obtain ⟨h1, h2, x, hx, h3, h4⟩ := prefixes_ok (rF_le hr) hb p hp
  have hs := sz_pos p.2
  have hr1 : rightS [boundS p] = true := rF_cons.2 ⟨h1.a0, by unfold boundS; simp only; omega, rfl⟩
  refine nil_of_no (rF_without _ _ hr1 (rF_le hr)) (fun n => ?_)
  rw [hasS_without, hasS_one]
  cases hm : spIn (boundS p) n
  · rfl
  · have := (spIn_iff _ _).1 hm
    unfold boundS at this
    rw [hasS_mem hx (by simp only at this; omega) (by simp only at this; omega)]
    rfl
theorem coverFrom_up (b : Int) : ∀ (f : Nat) (a : Int), a ≤ b → (b - a).toNat < f → (coverFrom b f a).Pairwise (fun p q => p.1 < q.1) ∧ ∀ p ∈ coverFrom b f a, a ≤ p.1 ∧ p.1 ≤ b
  | 0, a, h, hf => by omega
  | f + 1, a, h, hf => by
    have hlast := last_bd a b h
    rw [coverFrom]
    split
    · exact ⟨List.pairwise_singleton _ _, fun p hp => by rw [List.mem_singleton.1 hp]; exact ⟨Int.le_refl _, h⟩⟩
    · rename_i hl
      obtain ⟨i1, i2⟩ := coverFrom_up b f (lastOf a b + 1) (by omega) (by omega)
      refine ⟨List.pairwise_cons.2 ⟨fun q hq => by have := i2 q hq; simp only; omega, i1⟩, fun p hp => ?_⟩
      rcases List.mem_cons.1 hp with rfl | hp
      · exact ⟨Int.le_refl _, h⟩
      · have := i2 p hp; omega
theorem prefixes_up : ∀ (s : List Sp) (lo : Int), rF lo s = true → (prefixesL s).Pairwise (fun p q => p.1 < q.1) ∧ ∀ p ∈ prefixesL s, lo ≤ p.1
  | [], _, _ => ⟨List.Pairwise.nil, fun p hp => by cases hp⟩
  | x :: s, lo, h => by
    obtain ⟨h1, h2, h3⟩ := rF_cons.1 h
    obtain ⟨i1, i2⟩ := prefixes_up s _ h3
    obtain ⟨c1, c2⟩ := coverFrom_up x.2 _ x.1 h2 (Nat.lt_succ_self _)
    unfold prefixesL at i1 i2 ⊢
    rw [List.flatMap_cons]
    refine ⟨List.pairwise_append.2 ⟨c1, i1, fun p hp q hq => ?_⟩, fun p hp => ?_⟩
    · have := c2 p hp
      have := i2 q hq
      omega
    · rcases List.mem_append.1 hp with hp | hp
      · have := c2 p hp; omega
      · have := i2 p hp; omega
/-- Each prefix begins behind the one before. -/
theorem prefixes_lt {s : List Sp} (hr : rightS s = true) {i : Nat} {p q : Int × Int} (hp : (prefixesL s)[i]? = some p) (hq : (prefixesL s)[i + 1]? = some q) : p.1 < q.1 := by
  have h := (prefixes_up s 0 hr).1
  obtain ⟨h1, e1⟩ := List.getElem?_eq_some_iff.1 hp
  obtain ⟨h2, e2⟩ := List.getElem?_eq_some_iff.1 hq
  have := List.pairwise_iff_getElem.1 h i (i + 1) h1 h2 (Nat.lt_succ_self _)
  rwa [e1, e2] at this
/-- The spans of a set, turned and one twice, are the set. -/
def mixedL (s : List Sp) (k : Nat) (x : Sp) : List Sp := s.drop k ++ s.take k ++ [x]
theorem mixed_mem {s : List Sp} {k : Nat} {x : Sp} (hx : x ∈ s) : ∀ y ∈ mixedL s k x, y ∈ s := fun y hy => by
  unfold mixedL at hy
  rcases List.mem_append.1 hy with hy | hy
  · rcases List.mem_append.1 hy with hy | hy
    · exact List.mem_of_mem_drop hy
    · exact List.mem_of_mem_take hy
  · rw [List.mem_singleton.1 hy]; exact hx
theorem mixed_of {s : List Sp} (hr : rightS s = true) (hb : ∀ x ∈ s, SpB x) (k : Nat) {x : Sp} (hx : x ∈ s) : ofL (mixedL s k x) = s := by
  have hm := mixed_mem (k := k) hx
  refine rF_ext (rF_of (fun y hy => rF_le hr y (hm y hy))) hr (fun n => ?_)
  rw [hasS_of _ n (fun y hy => hb y (hm y hy))]
  rw [Bool.eq_iff_iff, hasS_iff, hasS_iff]
  constructor
  · rintro ⟨y, hy, h⟩; exact ⟨y, hm y hy, h⟩
  · rintro ⟨y, hy, h⟩
    refine ⟨y, ?_, h⟩
    rw [← List.take_append_drop k s] at hy
    unfold mixedL
    rcases List.mem_append.1 hy with hy | hy
    · exact List.mem_append_left _ (List.mem_append_right _ hy)
    · exact List.mem_append_left _ (List.mem_append_left _ hy)
theorem mixed_bad {s : List Sp} (hr : rightS s = true) (k : Nat) {x : Sp} (hx : x ∈ s) : badS (mixedL s k x) = false := by
  unfold badS
  rw [List.any_eq_false]
  intro y hy
  have := rF_le hr y (mixed_mem hx y hy)
  intro h
  have := of_decide_eq_true h
  omega
theorem mixed_len (s : List Sp) (k : Nat) (x : Sp) : (mixedL s k x).length = s.length + 1 := by
  unfold mixedL
  rw [List.length_append, List.length_append, List.length_take, List.length_drop]
  simp
  omega
end Go.Ab
set_option linter.unusedSimpArgs false
set_option linter.unusedVariables false
namespace Go.Ab
open Go.RowKit
theorem rF_next : ∀ {s : List Sp} {lo : Int} {i : Nat} {x y : Sp}, rF lo s = true → s[i]? = some x → s[i + 1]? = some y → x.2 + 2 ≤ y.1
  | [], _, _, _, _, _, h, _ => by simp at h
  | z :: t, lo, 0, x, y, hr, h, k => by
      obtain ⟨_, _, h3⟩ := rF_cons.1 hr
      simp only [List.getElem?_cons_zero, Option.some.injEq] at h
      subst h
      simp only [List.getElem?_cons_succ] at k
      cases t with
      | nil => simp at k
      | cons u t =>
        simp only [List.getElem?_cons_zero, Option.some.injEq] at k
        subst k
        exact (rF_cons.1 h3).1
  | z :: t, lo, i + 1, x, y, hr, h, k => by
      obtain ⟨_, _, h3⟩ := rF_cons.1 hr
      simp only [List.getElem?_cons_succ] at h k
      exact rF_next h3 h k
/-- A set with its span at j + 1 out of place, in one of four ways. -/
def wrS (a : List Sp) (j : Nat) (x y : Sp) (d : Int) : List Sp :=
  if d = 0 then (a.set j y).set (j + 1) x
  else if d = 1 then a.set (j + 1) (x.2 + 1, y.2)
  else if d = 2 then a.set (j + 1) (x.1, y.2)
  else a.set (j + 1) (y.2 + 1, y.1)
theorem wrS_len (a : List Sp) (j : Nat) (x y : Sp) (d : Int) : (wrS a j x y d).length = a.length := by
  unfold wrS; repeat (first | split | simp)
structure WrIn (a : List Sp) (j : Nat) (x y : Sp) (d : Int) : Prop where
  n : ∃ n, RS n a
  hx : a[j]? = some x
  hy : a[j + 1]? = some y
  d0 : 0 ≤ d
  d3 : d < 4
  top : d = 3 → y.2 + 1 < 4294967296
theorem mem_set' {α : Type} {l : List α} {i : Nat} {v z : α} (h : z ∈ l.set i v) : z ∈ l ∨ z = v := List.mem_or_eq_of_mem_set h
theorem wrS_b {a : List Sp} {j : Nat} {x y : Sp} {d : Int} (h : WrIn a j x y d) : ∀ z ∈ wrS a j x y d, SpB z := by
  obtain ⟨n, hn⟩ := h.n
  have bx := hn.b x (List.mem_of_getElem? h.hx)
  have by_ := hn.b y (List.mem_of_getElem? h.hy)
  have lx := rF_le hn.r x (List.mem_of_getElem? h.hx)
  have ly := rF_le hn.r y (List.mem_of_getElem? h.hy)
  have hxy := rF_next hn.r h.hx h.hy
  intro z hz
  unfold wrS at hz
  obtain ⟨f0, f1, t0, t1⟩ := bx
  obtain ⟨g0, g1, u0, u1⟩ := by_
  split at hz
  · rcases mem_set' hz with hz | rfl
    · rcases mem_set' hz with hz | rfl
      · exact hn.b z hz
      · exact ⟨g0, g1, u0, u1⟩
    · exact ⟨f0, f1, t0, t1⟩
  · split at hz
    · rcases mem_set' hz with hz | rfl
      · exact hn.b z hz
      · constructor <;> simp only <;> omega
    · split at hz
      · rcases mem_set' hz with hz | rfl
        · exact hn.b z hz
        · constructor <;> simp only <;> omega
      · have := h.top (by have := h.d0; have := h.d3; omega)
        rcases mem_set' hz with hz | rfl
        · exact hn.b z hz
        · constructor <;> simp only <;> omega
theorem wrS_no {a : List Sp} {j : Nat} {x y : Sp} {d : Int} (h : WrIn a j x y d) : rightS (wrS a j x y d) = false := by
  obtain ⟨n, hn⟩ := h.n
  have lx := rF_le hn.r x (List.mem_of_getElem? h.hx)
  have ly := rF_le hn.r y (List.mem_of_getElem? h.hy)
  have hxy := rF_next hn.r h.hx h.hy
  have l1 : j + 1 < a.length := (List.getElem?_eq_some_iff.1 h.hy).1
  rw [Bool.eq_false_iff]
  intro hr
  unfold rightS at hr
  unfold wrS at hr
  have q1 : ∀ v : Sp, (a.set (j + 1) v)[j]? = some x := fun v => by rw [List.getElem?_set_ne (by omega)]; exact h.hx
  have q2 : ∀ (l : List Sp) (v : Sp), l.length = a.length → (l.set (j + 1) v)[j + 1]? = some v := fun l v hl => by rw [List.getElem?_set_self (by omega)]
  split at hr
  · have := rF_next (x := y) (y := x) hr (by rw [List.getElem?_set_ne (by omega), List.getElem?_set_self (by omega)]) (q2 _ _ (by simp))
    omega
  · split at hr
    · have := rF_next hr (q1 _) (q2 _ _ rfl); simp only at this; omega
    · split at hr
      · have := rF_next hr (q1 _) (q2 _ _ rfl); simp only at this; omega
      · have := rF_le hr _ (List.mem_of_getElem? (q2 a _ rfl)); simp only at this; omega
theorem wrS_bad {a : List Sp} {j : Nat} {x y : Sp} {d : Int} (h : WrIn a j x y d) : badS (wrS a j x y d) = decide (d = 3) := by
  obtain ⟨n, hn⟩ := h.n
  have lx := rF_le hn.r x (List.mem_of_getElem? h.hx)
  have ly := rF_le hn.r y (List.mem_of_getElem? h.hy)
  have hxy := rF_next hn.r h.hx h.hy
  have l1 : j + 1 < a.length := (List.getElem?_eq_some_iff.1 h.hy).1
  have no : ∀ l : List Sp, (∀ z ∈ l, z.1 ≤ z.2) → badS l = false := fun l hl => by
    unfold badS
    rw [Bool.eq_false_iff]
    intro hb
    obtain ⟨z, hz, hb⟩ := List.any_eq_true.1 hb
    have := hl z hz
    have := of_decide_eq_true hb
    omega
  have hle := rF_le hn.r
  unfold wrS
  split
  · rename_i e; subst e
    refine no _ fun z hz => ?_
    rcases mem_set' hz with hz | rfl
    · rcases mem_set' hz with hz | rfl
      · exact hle z hz
      · exact ly
    · exact lx
  · split
    · rename_i e; subst e
      refine no _ fun z hz => ?_
      rcases mem_set' hz with hz | rfl
      · exact hle z hz
      · simp only; omega
    · split
      · rename_i e; subst e
        refine no _ fun z hz => ?_
        rcases mem_set' hz with hz | rfl
        · exact hle z hz
        · simp only; omega
      · have : d = 3 := by have := h.d0; have := h.d3; omega
        subst this
        unfold badS
        exact List.any_eq_true.2 ⟨_, List.mem_of_getElem? (List.getElem?_set_self l1), decide_eq_true (by simp only; omega)⟩
theorem wrongLs_mem {ls : List (List Sp)} {s : List Sp} (hs : s ∈ ls) (hr : rightS s = false) (hl : ∀ r ∈ ls, r.length ≤ 4096) : wrongLs ls = 2 := by
  unfold wrongLs
  rw [if_neg, if_neg]
  · intro h; have := List.all_eq_true.1 h s hs; rw [hr] at this; cases this
  · intro h
    obtain ⟨r, hr, hb⟩ := List.any_eq_true.1 h
    have := hl r hr
    have := of_decide_eq_true hb
    omega
theorem wrongL_no {s : List Sp} (hr : rightS s = false) (hl : s.length ≤ 4096) : wrongL s = 2 := by
  rw [← wrongLs_one]; exact wrongLs_mem (List.mem_singleton.2 rfl) hr (fun r h => by rw [List.mem_singleton.1 h]; exact hl)
end Go.Ab
