/- Counters and their lines (plain laws): what is written is read back. -/
import Derived.Test.YtbojbnpafoaljaaDoorDDump
import Derived.Test.YtbojbnpafoaljaaDoorTr1
namespace Go.Ab
open Go.Proofs.YtbojbnpafoaljaaDoor
theorem drs_name (r : Nat) (h0 : 1 ≤ r) (h1 : r < 31) : rsN ((namesL[r]?).getD []) = (r : Int) ∧ rsE ((namesL[r]?).getD []) = 0 ∧ (32 : UInt8) ∉ (namesL[r]?).getD [] := by
  have h : ∀ i : Nat, i < 31 → 1 ≤ i → rsN ((namesL[i]?).getD []) = (i : Int) ∧ rsE ((namesL[i]?).getD []) = 0 ∧ (32 : UInt8) ∉ (namesL[i]?).getD [] := by decide
  exact h r h1 h0
theorem drs_bd (s : List UInt8) (h : rsE s = 0) : 1 ≤ rsN s ∧ rsN s < 31 := by
  have := reasonFrom_bd s 30 1 rfl
  unfold rsE reasonOf at h
  unfold rsN reasonOf
  split at h
  · rename_i h1
    rw [if_pos h1]; omega
  · omega
/-- A line read into the counters. -/
def stepC (c : List Int) (s : List UInt8) : Option (List Int) := if rsE (cutC 32 s).1 = 0 then some (c.set (rsN (cutC 32 s).1).toNat (atoiV (cutC 32 s).2.1)) else none
def foldC : List Int → List (List UInt8) → Option (List Int)
  | c, [] => some c
  | c, s :: t => match stepC c s with | none => none | some c' => foldC c' t
def zeroC : List Int := List.replicate 31 0
/-- What is read from some lines. -/
def readC (l : List (List UInt8)) : Option (List Int) :=
  match foldC zeroC l with
  | none => none
  | some c => if (c.all fun n => decide (0 ≤ n)) && (countsL c == l) then some c else none
theorem step_line (pre post : List Int) (x n : Int) (r : Nat) (hr : pre.length = r) (h0 : 1 ≤ r) (h1 : r < 31) (hn : 0 < n) (hm : n ≤ 9223372036854775807) :
    stepC (pre ++ x :: post) (Lib.join [(namesL[r]?).getD [], dec n] [32]) = some (pre ++ n :: post) := by
  obtain ⟨e1, e2, e3⟩ := drs_name r h0 h1
  have hc : cutC 32 (Lib.join [(namesL[r]?).getD [], dec n] [32]) = ((namesL[r]?).getD [], dec n, true) := by
    rw [show Lib.join [(namesL[r]?).getD [], dec n] [32] = (namesL[r]?).getD [] ++ 32 :: dec n by simp [Lib.join]]
    exact cutC_app 32 _ _ e3
  unfold stepC
  rw [hc]
  simp only
  rw [if_pos e2, e1, atoiV_dec64 n (by omega) hm]
  subst hr
  simp
theorem fold_counts : ∀ (t pre : List Int) (r : Nat), pre.length = r → 1 ≤ r → r + t.length ≤ 31 → (∀ n ∈ t, 0 ≤ n ∧ n ≤ 9223372036854775807) → foldC (pre ++ List.replicate t.length 0) (countsFrom r t) = some (pre ++ t)
  | [], pre, r, _, _, _, _ => by simp [countsFrom, foldC]
  | n :: t, pre, r, hr, h0, h1, hb => by
    have hn := hb n (by simp)
    rw [List.length_cons] at h1
    have ih := fold_counts t (pre ++ [n]) (r + 1) (by simp [hr]) (by omega) (by omega) (fun m hm => hb m (by simp [hm]))
    rw [List.append_assoc, List.append_assoc] at ih
    rw [countsFrom, countW, List.length_cons, List.replicate_succ]
    by_cases hp : 0 < n
    · rw [if_pos ⟨h0, hp⟩, List.singleton_append, foldC, step_line pre _ 0 n r hr h0 (by omega) hp hn.2]
      exact ih
    · obtain rfl : n = 0 := by omega
      rw [if_neg (by omega), List.nil_append]
      exact ih
theorem counts_zero (n : Int) (t : List Int) : countsL (n :: t) = countsFrom 1 t := by
  unfold countsL
  rw [countsFrom, countW, if_neg (by omega), List.nil_append]
theorem countsFrom_length : ∀ (t : List Int) (r : Nat), 1 ≤ r → (countsFrom r t).length = (t.filter fun n => decide (0 < n)).length
  | [], _, _ => rfl
  | n :: t, r, h => by
    rw [countsFrom, List.length_append, countsFrom_length t (r + 1) (by omega), countW, List.filter_cons]
    by_cases hp : 0 < n
    · rw [if_pos ⟨h, hp⟩]; simp [hp]; omega
    · rw [if_neg (by omega)]; simp [hp]
/-- What is written is read back, but for the reason 0. -/
theorem readC_counts (n : Int) (t : List Int) (h : t.length = 30) (hb : ∀ m ∈ t, 0 ≤ m ∧ m ≤ 9223372036854775807) : readC (countsL (n :: t)) = some (0 :: t) := by
  unfold readC
  rw [counts_zero]
  have := fold_counts t [0] 1 rfl (by omega) (by omega) hb
  rw [h] at this
  rw [show zeroC = [0] ++ List.replicate 30 0 from rfl, this]
  simp only [List.singleton_append]
  rw [counts_zero]
  have ha : ((0 :: t).all fun n => decide (0 ≤ n)) = true := by
    rw [List.all_eq_true]
    intro m hm
    rcases List.mem_cons.1 hm with rfl | hm
    · rfl
    · exact decide_eq_true (hb m hm).1
  rw [ha]
  simp
theorem step_head {c c' : List Int} {s : List UInt8} (h : stepC c s = some c') (h0 : c.head? = some 0) (hl : c.length = 31) : c'.head? = some 0 ∧ c'.length = 31 := by
  unfold stepC at h
  split at h
  · rename_i h1
    obtain ⟨b0, b1⟩ := drs_bd _ h1
    cases h
    refine ⟨?_, by simpa using hl⟩
    cases c with
    | nil => simp at h0
    | cons a t =>
      obtain ⟨k, hk⟩ : ∃ k, (rsN (cutC 32 s).1).toNat = k + 1 := ⟨(rsN (cutC 32 s).1).toNat - 1, by omega⟩
      rw [hk]
      simpa using h0
  · cases h
theorem fold_head : ∀ (l : List (List UInt8)) (c c' : List Int), foldC c l = some c' → c.head? = some 0 → c.length = 31 → c'.head? = some 0 ∧ c'.length = 31
  | [], c, c', h, h0, hl => by rw [foldC] at h; cases h; exact ⟨h0, hl⟩
  | s :: t, c, c', h, h0, hl => by
    rw [foldC] at h
    cases hs : stepC c s with
    | none => rw [hs] at h; cases h
    | some c1 =>
      rw [hs] at h
      obtain ⟨h1, h2⟩ := step_head hs h0 hl
      exact fold_head t c1 c' h h1 h2
/-- What is read is the text of what it gives. -/
theorem readC_some {l : List (List UInt8)} {c : List Int} (h : readC l = some c) : countsL c = l ∧ c.head? = some 0 ∧ c.length = 31 ∧ ∀ n ∈ c, 0 ≤ n := by
  unfold readC at h
  split at h
  · cases h
  · rename_i c1 h1
    split at h
    · rename_i h2
      cases h
      simp only [Bool.and_eq_true, beq_iff_eq, List.all_eq_true, decide_eq_true_eq] at h2
      obtain ⟨h3, h4⟩ := fold_head l _ _ h1 rfl rfl
      exact ⟨h2.2, h3, h4, h2.1⟩
    · cases h
end Go.Ab
