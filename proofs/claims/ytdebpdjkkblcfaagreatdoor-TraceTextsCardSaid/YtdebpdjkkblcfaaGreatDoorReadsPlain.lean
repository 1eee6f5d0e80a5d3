/- What is read is the text of what it gives; a string is read as one kind of text alone: plain lists, no program in sight. -/
import Derived.Test.YtdebpdjkkblcfaaGreatDoorRound
namespace Go.Ab
open Go.Proofs.YtdebpdjkkblcfaaGreatDoor
theorem numOk_dec_eq {b : Int} {l : List UInt8} (h : numOk b l = true) : dec (numV b l) = l := by
  unfold numOk at h; simp at h; exact h.2
theorem textL_of_oct {v a b c d : Int} (e0 : oct v 0 = a) (e1 : oct v 1 = b) (e2 : oct v 2 = c) (e3 : oct v 3 = d) : textL v = Lib.join [dec a, dec b, dec c, dec d] [46] := by
  unfold textL; rw [e0, e1, e2, e3]
/-- An address that is read has the string as its text. -/
theorem text_read {l : List UInt8} {v : Int} (h : readL l = some v) : textL v = l := by
  unfold readL at h
  split at h
  · rename_i a b c d e
    split at h
    · rename_i hk
      simp only [Bool.and_eq_true] at hk
      obtain ⟨⟨⟨ha, hb⟩, hc⟩, hd⟩ := hk
      injection h with h
      have va := numV_bd a; have vb := numV_bd b; have vc := numV_bd c; have vd := numV_bd d
      simp only [accL, fourL] at h
      have e0 : oct v 0 = v / 16777216 % 256 := rfl
      have e1 : oct v 1 = v / 65536 % 256 := rfl
      have e2 : oct v 2 = v / 256 % 256 := rfl
      have e3 : oct v 3 = v / 1 % 256 := rfl
      rw [textL_of_oct (a := numV 256 a) (b := numV 256 b) (c := numV 256 c) (d := numV 256 d) (by rw [e0]; omega) (by rw [e1]; omega) (by rw [e2]; omega) (by rw [e3]; omega), numOk_dec_eq ha, numOk_dec_eq hb, numOk_dec_eq hc, numOk_dec_eq hd, ← e]
      exact join_split 46 l
    · cases h
  · cases h
theorem prefix_read {l : List UInt8} {a n : Int} (h : readPrefixL l = some (a, n)) : prefixTextL a n = l ∧ rightB a n = true ∧ 0 ≤ a ∧ a < 4294967296 ∧ 0 ≤ n ∧ n < 256 := by
  unfold readPrefixL at h
  split at h
  · rename_i v hv
    split at h
    · rename_i hk
      simp only [Bool.and_eq_true] at hk
      simp only [Option.some.injEq, Prod.mk.injEq] at h
      obtain ⟨rfl, rfl⟩ := h
      have hn := numV_bd (cutC 47 l).2.1
      have hd := numOk_dec_eq hk.1
      rcases cutC_back 47 l with ⟨h1, h2⟩ | ⟨h1, h2, h3⟩
      · refine ⟨?_, hk.2, (readL_bd hv).1, (readL_bd hv).2, hn.1, hn.2⟩
        unfold prefixTextL
        rw [hd, text_read hv, List.append_assoc, List.singleton_append]
        exact h2.symm
      · rw [h3] at hk
        exact absurd hk.1 (by decide)
    · cases h
  · cases h
theorem range_read {l : List UInt8} {p q : Int} (h : readRangeL l = some (p, q)) : rangeTextL p q = l ∧ p ≤ q ∧ 0 ≤ p ∧ p < 65536 ∧ 0 ≤ q ∧ q < 65536 := by
  unfold readRangeL at h
  split at h
  · rename_i hs
    simp only [Option.some.injEq, Prod.mk.injEq] at h
    obtain ⟨rfl, rfl⟩ := h
    exact ⟨hs ▸ rfl, by omega, by omega, by omega, by omega, by omega⟩
  · split at h
    · rename_i hk
      simp only [Option.some.injEq, Prod.mk.injEq] at h
      obtain ⟨rfl, rfl⟩ := h
      have h1 : 0 ≤ fromL l ∧ fromL l < 65536 := by unfold fromL numV; omega
      have h2 : 0 ≤ toL l ∧ toL l < 65536 := by unfold toL numV; omega
      exact ⟨hk.2, hk.1, h1.1, h1.2, h2.1, h2.2⟩
    · cases h
theorem range_chars {p q : Int} (p0 : 0 ≤ p) (q0 : 0 ≤ q) (c : UInt8) (hc : c.toNat = 32 ∨ c.toNat = 46 ∨ c.toNat = 47) : c ∉ rangeTextL p q := by
  have hp := dec_digit p p0 c (by omega)
  have hq := dec_digit q q0 c (by omega)
  have h42 : c ≠ 42 := fun e => by subst e; revert hc; decide
  have h45 : c ≠ 45 := fun e => by subst e; revert hc; decide
  unfold rangeTextL
  split
  · simp [h42]
  · split
    · exact hp
    · simp [hp, hq, h45]
theorem text_dot (a : Int) : (46 : UInt8) ∈ textL a := by unfold textL; simp [Lib.join]
theorem prefix_slash (a n : Int) : (47 : UInt8) ∈ prefixTextL a n := by unfold prefixTextL; simp
theorem prefix_dot (a n : Int) : (46 : UInt8) ∈ prefixTextL a n := by unfold prefixTextL; simp [text_dot]
theorem prefix_space (a n : Int) (h : 0 ≤ n) : (32 : UInt8) ∉ prefixTextL a n := by
  have h1 := text_chars a 32 (by decide)
  have h2 := dec_digit n h 32 (by decide)
  unfold prefixTextL; simp [h1, h2]
theorem key_space (pr s d sp dp : Int) : (32 : UInt8) ∈ keyTextL pr s d sp dp := by unfold keyTextL; simp
/-- The five kinds of strings. -/
inductive Kind (l : List UInt8) : Prop
  | addr (a : Int) : readL l = some a → readPrefixL l = none → readRangeL l = none → kText l ≠ l → Kind l
  | pref (a n : Int) : readL l = none → readPrefixL l = some (a, n) → readRangeL l = none → kText l ≠ l → Kind l
  | range (p q : Int) : readL l = none → readPrefixL l = none → readRangeL l = some (p, q) → kText l ≠ l → Kind l
  | key : readL l = none → readPrefixL l = none → readRangeL l = none → kText l = l → Kind l
  | none : readL l = none → readPrefixL l = none → readRangeL l = none → kText l ≠ l → Kind l
theorem not_addr_pref {l : List UInt8} {a b n : Int} (h1 : readL l = some a) (h2 : readPrefixL l = some (b, n)) : False := by
  have e1 := text_read h1
  have e2 := (prefix_read h2).1
  have c1 := text_chars a 47 (by decide)
  have c2 := prefix_slash b n
  rw [e1] at c1; rw [e2] at c2; exact c1 c2
theorem not_addr_range {l : List UInt8} {a p q : Int} (h1 : readL l = some a) (h3 : readRangeL l = some (p, q)) : False := by
  have e1 := text_read h1
  obtain ⟨e2, _, p0, _, q0, _⟩ := range_read h3
  have c1 := text_dot a
  have c2 := range_chars p0 q0 46 (by decide)
  rw [e1] at c1; rw [e2] at c2; exact c2 c1
theorem not_addr_key {l : List UInt8} {a : Int} (h1 : readL l = some a) (h4 : kText l = l) : False := by
  have e1 := text_read h1
  have c1 := text_chars a 32 (by decide)
  have c2 := key_space (kPr l) (kS l) (kD l) (kSp l) (kDp l)
  unfold kText at h4
  rw [e1] at c1; rw [h4] at c2; exact c1 c2
theorem not_pref_range {l : List UInt8} {b n p q : Int} (h2 : readPrefixL l = some (b, n)) (h3 : readRangeL l = some (p, q)) : False := by
  have e1 := (prefix_read h2).1
  obtain ⟨e2, _, p0, _, q0, _⟩ := range_read h3
  have c1 := prefix_dot b n
  have c2 := range_chars p0 q0 46 (by decide)
  rw [e1] at c1; rw [e2] at c2; exact c2 c1
theorem not_pref_key {l : List UInt8} {b n : Int} (h2 : readPrefixL l = some (b, n)) (h4 : kText l = l) : False := by
  obtain ⟨e1, _, _, _, n0, _⟩ := prefix_read h2
  have c1 := prefix_space b n n0
  have c2 := key_space (kPr l) (kS l) (kD l) (kSp l) (kDp l)
  unfold kText at h4
  rw [e1] at c1; rw [h4] at c2; exact c1 c2
theorem not_range_key {l : List UInt8} {p q : Int} (h3 : readRangeL l = some (p, q)) (h4 : kText l = l) : False := by
  obtain ⟨e2, _, p0, _, q0, _⟩ := range_read h3
  have c1 := range_chars p0 q0 32 (by decide)
  have c2 := key_space (kPr l) (kS l) (kD l) (kSp l) (kDp l)
  unfold kText at h4
  rw [e2] at c1; rw [h4] at c2; exact c1 c2
theorem opt_none {α : Type} {o : Option α} (h : ∀ x, o = some x → False) : o = none := by
  cases o with
  | none => rfl
  | some x => exact (h x rfl).elim
theorem kind (l : List UInt8) : Kind l := by
  by_cases h4 : kText l = l
  · exact .key (opt_none fun _ h => not_addr_key h h4) (opt_none fun _ h => not_pref_key h h4) (opt_none fun _ h => not_range_key h h4) h4
  · cases h1 : readL l with
    | some a => exact .addr a h1 (opt_none fun _ h => not_addr_pref h1 h) (opt_none fun _ h => not_addr_range h1 h) h4
    | none =>
      cases h2 : readPrefixL l with
      | some x => exact .pref x.1 x.2 h1 h2 (opt_none fun _ h => not_pref_range h2 h) h4
      | none =>
        cases h3 : readRangeL l with
        | some x => exact .range x.1 x.2 h1 h2 h3 h4
        | none => exact .none h1 h2 h3 h4
theorem key_bounds (l : List UInt8) : (0 ≤ kPr l ∧ kPr l < 256) ∧ (0 ≤ kS l ∧ kS l < 4294967296) ∧ (0 ≤ kD l ∧ kD l < 4294967296) ∧ (0 ≤ kSp l ∧ kSp l < 65536) ∧ (0 ≤ kDp l ∧ kDp l < 65536) := by
  refine ⟨by unfold kPr numV; omega, readI_bd _, readI_bd _, by unfold kSp numV; omega, by unfold kDp numV; omega⟩
end Go.Ab
