/- The plain laws of SpanBack: the prefixes of a set lead back to it, in increasing order, each inside of it. -/
import Derived.Test.YtgfkcbflnkpogaaGreatDoorSp19
set_option linter.unusedVariables false
namespace Go.Ab
open Go.RowKit
theorem hasS_coverFrom (b n : Int) : ∀ (f : Nat) (a : Int), a ≤ b → (b - a).toNat < f → hasS ((coverFrom b f a).map boundS) n = spIn (a, b) n
  | 0, a, h, hf => by omega
  | f + 1, a, h, hf => by
    have hlast := last_bd a b h
    have he : lastOf a b = a + (sz (cn a b) - 1) := rfl
    have hs := sz_pos (cn a b)
    rw [coverFrom]
    split
    · rename_i hl
      rw [List.map_cons, List.map_nil, hasS_one, boundS]
      simp only
      rw [← he, hl]
    · rename_i hl
      have ih := hasS_coverFrom b n f (lastOf a b + 1) (by omega) (by omega)
      rw [List.map_cons, hasS_cons, ih, boundS]
      simp only
      rw [← he, spIn_eq, spIn_eq, spIn_eq, ← Bool.decide_or]
      exact decide_eq_decide.2 (by simp only; omega)
theorem hasS_cover {a b : Int} (h : a ≤ b) (n : Int) : hasS ((coverL a b).map boundS) n = spIn (a, b) n := hasS_coverFrom b n _ a h (by omega)
theorem hasS_prefixes (n : Int) : ∀ s : List Sp, (∀ x ∈ s, x.1 ≤ x.2) → hasS ((prefixesL s).map boundS) n = hasS s n
  | [], _ => rfl
  | x :: s, h => by
    have ih := hasS_prefixes n s (fun y hy => h y (by simp [hy]))
    unfold prefixesL at ih ⊢
    rw [List.flatMap_cons, List.map_append, hasS_app, ih, hasS_cons, hasS_cover (h x (by simp))]
/-- The prefixes of a right set lead back to it. -/
theorem prefixes_back {s : List Sp} (hr : rightS s = true) (hb : ∀ x ∈ s, SpB x) (hp : ∀ p ∈ prefixesL s, PfB p ∧ rightB p.1 p.2 = true) : ofL ((prefixesL s).map boundS) = s := by
  have hbd : ∀ x ∈ (prefixesL s).map boundS, SpB x := fun x hx => by
    obtain ⟨p, hpm, rfl⟩ := List.mem_map.1 hx
    exact boundS_b (hp p hpm).1 (hp p hpm).2
  have hle : ∀ x ∈ (prefixesL s).map boundS, x.1 ≤ x.2 := fun x hx => by
    obtain ⟨p, hpm, rfl⟩ := List.mem_map.1 hx
    have := sz_pos p.2
    unfold boundS; simp only; omega
  exact rF_ext (rF_of hle) hr (fun n => by rw [hasS_of _ n hbd, hasS_prefixes n s (rF_le hr)])
theorem cover_ok {a b : Int} (h0 : 0 ≤ a) (h : a ≤ b) (hb : b < 4294967296) : ∀ p ∈ coverL a b, PfB p ∧ rightB p.1 p.2 = true ∧ a ≤ p.1 ∧ p.1 + (sz p.2 - 1) ≤ b := fun p hp => by
  obtain ⟨i, hi⟩ := List.getElem?_of_mem hp
  obtain ⟨_, h1, h2, h3⟩ := (steps a b h).at_ i p hi
  obtain ⟨k1, k2, k3⟩ := cnFrom_spec p.1 b h2 32 0 rfl (Int.le_refl _)
  have hc : cn p.1 b = cnFrom p.1 b 32 0 := rfl
  rw [← hc, ← h3] at k1 k2 k3
  obtain ⟨f1, f2⟩ := fits_parts k1
  refine ⟨⟨by omega, by omega, k2, by omega⟩, ?_, h1, f2⟩
  unfold rightB
  simp [k3, f1]
theorem prefixes_ok {s : List Sp} (hr : ∀ x ∈ s, x.1 ≤ x.2) (hb : ∀ x ∈ s, SpB x) : ∀ p ∈ prefixesL s, PfB p ∧ rightB p.1 p.2 = true ∧ ∃ x ∈ s, x.1 ≤ p.1 ∧ p.1 + (sz p.2 - 1) ≤ x.2 := fun p hp => by
  obtain ⟨x, hx, hpx⟩ := List.mem_flatMap.1 hp
  obtain ⟨f0, f1, t0, t1⟩ := hb x hx
  obtain ⟨h1, h2, h3, h4⟩ := cover_ok f0 (hr x hx) t1 p hpx
  exact ⟨h1, h2, x, hx, h3, h4⟩
/-- Each prefix lies inside of the set. -/
theorem prefix_within {s : List Sp} (hr : rightS s = true) (hb : ∀ x ∈ s, SpB x) {p : Int × Int} (hp : p ∈ prefixesL s) : withoutL [boundS p] s = [] := by
  obtain ⟨h1, h2, x, hx, h3, h4⟩ := prefixes_ok (rF_le hr) hb p hp
  have hs := sz_pos p.2
  have hr1 : rightS [boundS p] = true := rF_cons.2 ⟨h1.a0, by unfold boundS; simp only; omega, rfl⟩
  refine nil_of_no (rF_without _ _ hr1 (rF_le hr)) (fun n => ?_)
  rw [hasS_without, hasS_one]
  cases hm : spIn (boundS p) n
  · rfl
  · have := (spIn_iff _ _).1 hm
    unfold boundS at this
    rw [hasS_mem hx (by simp only at this; omega) (by simp only at this; omega)]
    rfl
theorem coverFrom_up (b : Int) : ∀ (f : Nat) (a : Int), a ≤ b → (b - a).toNat < f → (coverFrom b f a).Pairwise (fun p q => p.1 < q.1) ∧ ∀ p ∈ coverFrom b f a, a ≤ p.1 ∧ p.1 ≤ b
  | 0, a, h, hf => by omega
  | f + 1, a, h, hf => by
    have hlast := last_bd a b h
    rw [coverFrom]
    split
    · exact ⟨List.pairwise_singleton _ _, fun p hp => by rw [List.mem_singleton.1 hp]; exact ⟨Int.le_refl _, h⟩⟩
    · rename_i hl
      obtain ⟨i1, i2⟩ := coverFrom_up b f (lastOf a b + 1) (by omega) (by omega)
      refine ⟨List.pairwise_cons.2 ⟨fun q hq => by have := i2 q hq; simp only; omega, i1⟩, fun p hp => ?_⟩
      rcases List.mem_cons.1 hp with rfl | hp
      · exact ⟨Int.le_refl _, h⟩
      · have := i2 p hp; omega
theorem prefixes_up : ∀ (s : List Sp) (lo : Int), rF lo s = true → (prefixesL s).Pairwise (fun p q => p.1 < q.1) ∧ ∀ p ∈ prefixesL s, lo ≤ p.1
  | [], _, _ => ⟨List.Pairwise.nil, fun p hp => by cases hp⟩
  | x :: s, lo, h => by
    obtain ⟨h1, h2, h3⟩ := rF_cons.1 h
    obtain ⟨i1, i2⟩ := prefixes_up s _ h3
    obtain ⟨c1, c2⟩ := coverFrom_up x.2 _ x.1 h2 (Nat.lt_succ_self _)
    unfold prefixesL at i1 i2 ⊢
    rw [List.flatMap_cons]
    refine ⟨List.pairwise_append.2 ⟨c1, i1, fun p hp q hq => ?_⟩, fun p hp => ?_⟩
    · have := c2 p hp
      have := i2 q hq
      omega
    · rcases List.mem_append.1 hp with hp | hp
      · have := c2 p hp; omega
      · have := i2 p hp; omega
/-- Each prefix begins behind the one before. -/
theorem prefixes_lt {s : List Sp} (hr : rightS s = true) {i : Nat} {p q : Int × Int} (hp : (prefixesL s)[i]? = some p) (hq : (prefixesL s)[i + 1]? = some q) : p.1 < q.1 := by
  have h := (prefixes_up s 0 hr).1
  obtain ⟨h1, e1⟩ := List.getElem?_eq_some_iff.1 hp
  obtain ⟨h2, e2⟩ := List.getElem?_eq_some_iff.1 hq
  have := List.pairwise_iff_getElem.1 h i (i + 1) h1 h2 (Nat.lt_succ_self _)
  rwa [e1, e2] at this
/-- The spans of a set, turned and one twice, are the set. -/
def mixedL (s : List Sp) (k : Nat) (x : Sp) : List Sp := s.drop k ++ s.take k ++ [x]
theorem mixed_mem {s : List Sp} {k : Nat} {x : Sp} (hx : x ∈ s) : ∀ y ∈ mixedL s k x, y ∈ s := fun y hy => by
  unfold mixedL at hy
  rcases List.mem_append.1 hy with hy | hy
  · rcases List.mem_append.1 hy with hy | hy
    · exact List.mem_of_mem_drop hy
    · exact List.mem_of_mem_take hy
  · rw [List.mem_singleton.1 hy]; exact hx
theorem mixed_of {s : List Sp} (hr : rightS s = true) (hb : ∀ x ∈ s, SpB x) (k : Nat) {x : Sp} (hx : x ∈ s) : ofL (mixedL s k x) = s := by
  have hm := mixed_mem (k := k) hx
  refine rF_ext (rF_of (fun y hy => rF_le hr y (hm y hy))) hr (fun n => ?_)
  rw [hasS_of _ n (fun y hy => hb y (hm y hy))]
  rw [Bool.eq_iff_iff, hasS_iff, hasS_iff]
  constructor
  · rintro ⟨y, hy, h⟩; exact ⟨y, hm y hy, h⟩
  · rintro ⟨y, hy, h⟩
    refine ⟨y, ?_, h⟩
    rw [← List.take_append_drop k s] at hy
    unfold mixedL
    rcases List.mem_append.1 hy with hy | hy
    · exact List.mem_append_left _ (List.mem_append_right _ hy)
    · exact List.mem_append_left _ (List.mem_append_left _ hy)
theorem mixed_bad {s : List Sp} (hr : rightS s = true) (k : Nat) {x : Sp} (hx : x ∈ s) : badS (mixedL s k x) = false := by
  unfold badS
  rw [List.any_eq_false]
  intro y hy
  have := rF_le hr y (mixed_mem hx y hy)
  intro h
  have := of_decide_eq_true h
  omega
theorem mixed_len (s : List Sp) (k : Nat) (x : Sp) : (mixedL s k x).length = s.length + 1 := by
  unfold mixedL
  rw [List.length_append, List.length_append, List.length_take, List.length_drop]
  simp
  omega
end Go.Ab
