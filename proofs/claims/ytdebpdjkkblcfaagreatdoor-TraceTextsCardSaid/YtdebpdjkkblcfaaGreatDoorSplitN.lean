/- A string split at one byte into five parts at most: plain lists, and strings.SplitN. -/
import Derived.Test.YtdebpdjkkblcfaaGreatDoorStr
namespace Go.Ab
/-- The parts of a string between the first k signs c. -/
def partsC (c : UInt8) : Nat → List UInt8 → List (List UInt8)
  | 0, l => [l]
  | k + 1, l => if (cutC c l).2.2 then (cutC c l).1 :: partsC c k (cutC c l).2.1 else [l]
theorem splitK_parts (c : UInt8) : ∀ (k : Nat) (l : List UInt8), Lib.splitK [c] 0 k l = partsC c k l
  | 0, l => rfl
  | k + 1, l => by
    have hc := cut_eq c l
    unfold Lib.cut at hc
    rw [Lib.splitK, partsC]
    have hge := Lib.index_ge l [c]
    by_cases h : Lib.index l [c] = -1
    · rw [h] at hc ⊢
      have h2 : ¬ (0 : Int) ≤ -1 := by omega
      rw [if_neg h2] at hc
      rw [← hc]; simp
    · have h2 : 0 ≤ Lib.index l [c] := by omega
      have h3 : ¬ ((Lib.index l [c] == -1) = true) := by simpa using h
      rw [if_pos h2] at hc
      rw [if_neg h3, ← hc]
      simp only [List.length_cons, List.length_nil, Nat.zero_add, Nat.add_zero, if_true]
      rw [splitK_parts c k]
theorem partsC_more (c : UInt8) : ∀ (k j : Nat) (l : List UInt8), l.length ≤ k → k ≤ j → partsC c k l = partsC c j l
  | 0, 0, _, _, _ => rfl
  | 0, j + 1, l, h, _ => by
    obtain rfl := List.eq_nil_of_length_eq_zero (show l.length = 0 by omega)
    simp [partsC, cutC]
  | k + 1, 0, _, _, h => by omega
  | k + 1, j + 1, l, h, hj => by
    rw [partsC, partsC]
    split
    · rename_i hc
      rcases cutC_back c l with ⟨_, h2⟩ | ⟨h1, _⟩
      · have hl := congrArg List.length h2
        simp at hl
        rw [partsC_more c k j _ (by omega) (by omega)]
      · rw [h1] at hc; cases hc
    · rfl
/-- Five parts at most. -/
def parts5 (l : List UInt8) : List (List UInt8) := partsC 32 4 l
theorem parts5_eq (l : List UInt8) : Lib.splitK [32] 0 (min 5 (l.length + 1) - 1) l = parts5 l := by
  rw [splitK_parts]
  rcases Nat.lt_or_ge l.length 4 with h | h
  · exact partsC_more 32 _ 4 l (by omega) (by omega)
  · have : min 5 (l.length + 1) - 1 = 4 := by omega
    rw [this]; rfl
theorem partsC_le (c : UInt8) : ∀ (k : Nat) (l : List UInt8), (partsC c k l).length ≤ k + 1 ∧ (partsC c k l).length ≤ l.length + 1
  | 0, l => by simp [partsC]
  | k + 1, l => by
    rw [partsC]
    split
    · rename_i hc
      have ih := partsC_le c k (cutC c l).2.1
      rcases cutC_back c l with ⟨_, h2⟩ | ⟨h1, _⟩
      · have hl := congrArg List.length h2
        simp at hl
        simp only [List.length_cons]; omega
      · rw [h1] at hc; cases hc
    · simp
theorem partsC_join (c : UInt8) : ∀ (k : Nat) (l : List UInt8), Lib.join (partsC c k l) [c] = l
  | 0, l => by simp [partsC, Lib.join_one]
  | k + 1, l => by
    rw [partsC]
    split
    · rename_i hc
      have ih := partsC_join c k (cutC c l).2.1
      rcases cutC_back c l with ⟨_, h2⟩ | ⟨h1, _⟩
      · obtain ⟨a, t, e⟩ : ∃ a t, partsC c k (cutC c l).2.1 = a :: t := by
          cases k with
          | zero => exact ⟨_, _, rfl⟩
          | succ k => rw [partsC]; split <;> exact ⟨_, _, rfl⟩
        rw [e, Lib.join_cons] at ih
        rw [e, Lib.join_cons, joinTail_cons]
        conv => rhs; rw [h2]
        rw [← ih]; simp
      · rw [h1] at hc; cases hc
    · exact Lib.join_one _ _
theorem partsC_app (c : UInt8) (x : List UInt8) (hx : c ∉ x) (k : Nat) (y : List UInt8) : partsC c (k + 1) (x ++ c :: y) = x :: partsC c k y := by
  rw [partsC, cutC_app c y x hx]; rfl
/-- Five parts, the first four without the sign, are the parts of what they are together. -/
theorem parts5_mk (a b c d e : List UInt8) (ha : (32 : UInt8) ∉ a) (hb : (32 : UInt8) ∉ b) (hc : (32 : UInt8) ∉ c) (hd : (32 : UInt8) ∉ d) : parts5 (Lib.join [a, b, c, d, e] [32]) = [a, b, c, d, e] := by
  have : Lib.join [a, b, c, d, e] [32] = a ++ 32 :: (b ++ 32 :: (c ++ 32 :: (d ++ 32 :: e))) := by simp [Lib.join]
  rw [this]
  unfold parts5
  rw [partsC_app 32 a ha, partsC_app 32 b hb, partsC_app 32 c hc, partsC_app 32 d hd]; rfl
theorem parts5_lens (l : List UInt8) : ∀ p ∈ parts5 l, p.length ≤ l.length := by
  have : ∀ (k : Nat) (l : List UInt8), ∀ p ∈ partsC 32 k l, p.length ≤ l.length := by
    intro k
    induction k with
    | zero => intro l p hp; simp [partsC] at hp; simp [hp]
    | succ k ih =>
      intro l p hp
      rw [partsC] at hp
      split at hp
      · rcases List.mem_cons.1 hp with rfl | hp
        · exact (cutC_len 32 l).1
        · exact Nat.le_trans (ih _ p hp) (cutC_len 32 l).2
      · simp at hp; simp [hp]
  exact this 4 l
end Go.Ab
namespace Go.Proofs.YtdebpdjkkblcfaaGreatDoor
open Go.RowKit Go.Ab
theorem splitN_few (l : List UInt8) (w : World) (g : Good w) (hs : l.length < 4294967281) :
    Calls Tryz.prog 42 #[.string ⟨l.toArray⟩, .string ⟨#[32]⟩, .int .i64 5] w fun e w' =>
      ∃ c, e = .returned (.slice (some ⟨w.heap.size, 0, none⟩) (parts5 l).length c) ∧ ∃ x : Ext w, w' = x.w := by
  obtain ⟨m, hm⟩ := g.maxLen
  refine (Tryz.strings_SplitN ⟨l.toArray⟩ ⟨#[32]⟩ 5 m w hs hm (Nat.le_refl 1) (by omega) (by omega)).mono ?_
  rintro e w' ⟨rfl, rfl⟩
  refine ⟨min 5 (l.length + 1), ?_, ((Up.refl w).alloc _).mk⟩
  have hd := Lib.splitB_data ⟨#[32]⟩ 0 (min 5 (l.length + 1) - 1) ⟨l.toArray⟩
  have := congrArg List.length hd
  simp only [List.length_map] at this
  have e2 : (Lib.splitB ⟨#[32]⟩ 0 (min 5 (l.length + 1) - 1) ⟨l.toArray⟩).length = (parts5 l).length := by rw [this, ← parts5_eq]
  show Ending.returned (.slice _ (Lib.splitB ⟨#[32]⟩ 0 (min 5 (l.length + 1) - 1) ⟨l.toArray⟩).length _) = _
  rw [e2]; rfl
theorem splitN_five (l a b c d e : List UInt8) (w : World) (g : Good w) (hs : l.length < 4294967281) (h : parts5 l = [a, b, c, d, e]) :
    Calls Tryz.prog 42 #[.string ⟨l.toArray⟩, .string ⟨#[32]⟩, .int .i64 5] w fun en w' =>
      en = .returned (.slice (some ⟨w.heap.size, 0, none⟩) 5 5) ∧ w' = w.alloc (.cells #[.string ⟨a.toArray⟩, .string ⟨b.toArray⟩, .string ⟨c.toArray⟩, .string ⟨d.toArray⟩, .string ⟨e.toArray⟩] 9) := by
  obtain ⟨m, hm⟩ := g.maxLen
  have hl := (partsC_le 32 4 l).2
  have h5 : (parts5 l).length = 5 := by rw [h]; rfl
  have hmin : min 5 (l.length + 1) = 5 := by unfold parts5 at h5; omega
  have hd := Lib.splitB_data ⟨#[32]⟩ 0 (min 5 (l.length + 1) - 1) ⟨l.toArray⟩
  have hp : (Lib.splitB ⟨#[32]⟩ 0 (min 5 (l.length + 1) - 1) ⟨l.toArray⟩).map (·.data.toList) = [a, b, c, d, e] := by rw [hd, ← h, ← parts5_eq]
  have hB : Lib.splitB ⟨#[32]⟩ 0 (min 5 (l.length + 1) - 1) ⟨l.toArray⟩ = [⟨a.toArray⟩, ⟨b.toArray⟩, ⟨c.toArray⟩, ⟨d.toArray⟩, ⟨e.toArray⟩] := by
    have : (Lib.splitB ⟨#[32]⟩ 0 (min 5 (l.length + 1) - 1) ⟨l.toArray⟩) = ((Lib.splitB ⟨#[32]⟩ 0 (min 5 (l.length + 1) - 1) ⟨l.toArray⟩).map (·.data.toList)).map fun p => ⟨p.toArray⟩ := by
      rw [List.map_map]
      exact (List.map_id _).symm
    rw [this, hp]; rfl
  have hcall := Tryz.strings_SplitN ⟨l.toArray⟩ ⟨#[32]⟩ 5 m w hs hm (Nat.le_refl 1) (by omega) (by omega)
  refine hcall.mono ?_
  rintro en w' ⟨rfl, rfl⟩
  have e1 : (⟨l.toArray⟩ : ByteArray).size = l.length := rfl
  rw [e1, hB, hmin]
  exact ⟨rfl, rfl⟩
end Go.Proofs.YtdebpdjkkblcfaaGreatDoor
