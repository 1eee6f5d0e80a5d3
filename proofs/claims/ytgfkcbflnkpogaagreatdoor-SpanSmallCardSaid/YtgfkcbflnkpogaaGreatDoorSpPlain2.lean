/- Sets of numbers: what Made gives, the next number, texts of sets: plain laws. -/
import Derived.Test.YtgfkcbflnkpogaaGreatDoorSpPlain
import Derived.Test.YtgfkcbflnkpogaaGreatDoorRound
namespace Go.Ab
open Go.RowKit
structure SPc where
  g : Int
  l : Int
  h : Bool
structure SPcB (x : SPc) : Prop where
  g0 : 0 ≤ x.g
  g1 : x.g < 256
  l0 : 0 ≤ x.l
  l1 : x.l < 256
def upS (m : Int) (h : Bool) : Int := if h = true ∧ m < 4294966296 then 4294966296 else m
def madeF : Int → List SPc → List Sp
  | _, [] => []
  | m, x :: r => if 4294967296 ≤ upS m x.h + x.g + x.l % 16 then [] else (upS m x.h + x.g, upS m x.h + x.g + x.l % 16) :: madeF (upS m x.h + x.g + x.l % 16 + 2) r
theorem upS_ge (m : Int) (h : Bool) : m ≤ upS m h := by unfold upS; split <;> omega
theorem upS_le (m : Int) (h : Bool) (k : m ≤ 4294967297) : upS m h ≤ 4294967297 := by unfold upS; split <;> omega
theorem madeF_ok : ∀ (l : List SPc) (m : Int), 0 ≤ m → (∀ x ∈ l, SPcB x) → rF m (madeF m l) = true ∧ (∀ x ∈ madeF m l, SpB x) ∧ (madeF m l).length ≤ l.length
  | [], _, _, _ => ⟨rfl, fun x h => (by cases h), Nat.le_refl _⟩
  | x :: r, m, h0, hb => by
    have hx := hb x (by simp)
    have hu := upS_ge m x.h
    have hx0 := hx.g0
    have hl : 0 ≤ x.l % 16 := by have := hx.l0; omega
    rw [madeF]
    split
    · exact ⟨rfl, fun x h => (by cases h), Nat.zero_le _⟩
    · rename_i hn
      obtain ⟨h1, h2, h3⟩ := madeF_ok r (upS m x.h + x.g + x.l % 16 + 2) (by omega) (fun y hy => hb y (by simp [hy]))
      refine ⟨rF_cons.2 ⟨by simp only; omega, by simp only; omega, h1⟩, fun y hy => ?_, by simp only [List.length_cons]; omega⟩
      rcases List.mem_cons.1 hy with rfl | hy
      · exact ⟨by simp only; omega, by simp only; omega, by simp only; omega, by simp only; omega⟩
      · exact h2 y hy
def madeS (l : List SPc) : List Sp := madeF 0 (l.take 40)
theorem madeS_ok (l : List SPc) (hb : ∀ x ∈ l, SPcB x) : rightS (madeS l) = true ∧ (∀ x ∈ madeS l, SpB x) ∧ (madeS l).length ≤ 40 := by
  obtain ⟨h1, h2, h3⟩ := madeF_ok (l.take 40) 0 (Int.le_refl _) (fun x hx => hb x (List.mem_of_mem_take hx))
  exact ⟨h1, h2, Nat.le_trans h3 (by rw [List.length_take]; omega)⟩

/-! The next number. -/
def nextStep (n : Int) (a : Int × Bool) (x : Sp) : Int × Bool := if max x.1 n ≤ x.2 ∧ (a.2 = false ∨ max x.1 n < a.1) then (max x.1 n, true) else a
def nextL (s : List Sp) (n : Int) : Int × Bool := s.foldl (nextStep n) (0, false)
structure NextOk (s : List Sp) (n : Int) (a : Int × Bool) : Prop where
  no : a.2 = false → a.1 = 0 ∧ ∀ m, n ≤ m → hasS s m = false
  yes : a.2 = true → n ≤ a.1 ∧ hasS s a.1 = true ∧ ∀ m, n ≤ m → m < a.1 → hasS s m = false
theorem spIn_no {x : Sp} {n : Int} (h : ¬ (x.1 ≤ n ∧ n ≤ x.2)) : spIn x n = false := by rw [Bool.eq_false_iff]; exact fun k => h ((spIn_iff _ _).1 k)
theorem NextOk.snoc {p : List Sp} {n : Int} {a : Int × Bool} (h : NextOk p n a) (x : Sp) : NextOk (p ++ [x]) n (nextStep n a x) := by
  unfold nextStep
  split
  · rename_i hc
    refine ⟨fun e => by (cases e), fun _ => ⟨by (try simp only); omega, ?_, fun m h0 h1 => ?_⟩⟩
    · rw [hasS_app, hasS_one, (spIn_iff x _).2 ⟨by (try simp only); omega, hc.1⟩, Bool.or_true]
    · simp only at h1
      rw [hasS_app, hasS_one, spIn_no (by omega), Bool.or_false]
      rcases hc.2 with e | e
      · exact (h.no e).2 m h0
      · cases ha : a.2
        · exact (h.no ha).2 m h0
        · exact (h.yes ha).2.2 m h0 (by omega)
  · rename_i hc
    refine ⟨fun e => ⟨(h.no e).1, fun m h0 => ?_⟩, fun e => ⟨(h.yes e).1, ?_, fun m h0 h1 => ?_⟩⟩
    · rw [hasS_app, (h.no e).2 m h0, hasS_one, spIn_no (fun k => hc ⟨by omega, .inl e⟩)]; rfl
    · rw [hasS_app, (h.yes e).2.1]; rfl
    · rw [hasS_app, (h.yes e).2.2 m h0 h1, hasS_one, spIn_no (fun k => hc ⟨by omega, .inr (by omega)⟩)]; rfl
theorem nextOk_fold (n : Int) : ∀ (s p : List Sp) (a : Int × Bool), NextOk p n a → NextOk (p ++ s) n (s.foldl (nextStep n) a)
  | [], p, a, h => by simpa using h
  | x :: s, p, a, h => by have := nextOk_fold n s (p ++ [x]) _ (h.snoc x); simpa using this
theorem nextL_ok (s : List Sp) (n : Int) : NextOk s n (nextL s n) := by
  have := nextOk_fold n s [] (0, false) ⟨fun _ => ⟨rfl, fun _ _ => rfl⟩, fun e => by cases e⟩
  simpa [nextL] using this
theorem NextOk.eq {s : List Sp} {n : Int} {a b : Int × Bool} (h : NextOk s n a) (k : NextOk s n b) : a = b := by
  obtain ⟨x, p⟩ := a
  obtain ⟨y, q⟩ := b
  cases p <;> cases q
  · rw [Prod.mk.injEq]; exact ⟨(h.no rfl).1.trans (k.no rfl).1.symm, rfl⟩
  · have h1 := (h.no rfl).2 y (k.yes rfl).1
    rw [(k.yes rfl).2.1] at h1; cases h1
  · have h1 := (k.no rfl).2 x (h.yes rfl).1
    rw [(h.yes rfl).2.1] at h1; cases h1
  · obtain ⟨h1, h2, h3⟩ := h.yes rfl
    obtain ⟨k1, k2, k3⟩ := k.yes rfl
    simp only at h1 h2 h3 k1 k2 k3
    have e1 : ¬ x < y := fun c => by rw [k3 x h1 c] at h2; cases h2
    have e2 : ¬ y < x := fun c => by rw [h3 y k1 c] at k2; cases k2
    rw [Prod.mk.injEq]; exact ⟨by omega, rfl⟩

/-! Texts. -/
def spanT (x : Sp) : List UInt8 := dec x.1 ++ (if x.1 < x.2 then 45 :: dec x.2 else [])
def textS (s : List Sp) : List UInt8 := Lib.join (s.map spanT) [44]
def partV (p : List UInt8) : Sp := (atoiV (cutC 45 p).1, atoiV (if (cutC 45 p).2.2 = true then (cutC 45 p).2.1 else (cutC 45 p).1))
def partOk (x : Sp) : Bool := decide (0 ≤ x.1) && decide (x.1 < 4294967296) && decide (0 ≤ x.2) && decide (x.2 < 4294967296)
def foldR : List Sp → List (List UInt8) → Option (List Sp)
  | o, [] => some o
  | o, p :: r => if partOk (partV p) = true ∧ o.length ≤ 4096 then foldR (o ++ [partV p]) r else none
def wrongL (s : List Sp) : Int := if 4096 < s.length then 5 else if rightS s = true then 0 else 2
def readS (t : List UInt8) : Option (List Sp) :=
  if t = [] then some [] else match foldR [] (splitC 44 t) with
    | none => none
    | some s => if wrongL s = 0 ∧ textS s = t then some s else none
theorem partOk_iff {x : Sp} : partOk x = true ↔ SpB x := by
  unfold partOk
  rw [Bool.and_eq_true, Bool.and_eq_true, Bool.and_eq_true, decide_eq_true_eq, decide_eq_true_eq, decide_eq_true_eq, decide_eq_true_eq]
  exact ⟨fun ⟨⟨⟨a, b⟩, c⟩, d⟩ => ⟨a, b, c, d⟩, fun h => ⟨⟨⟨h.f0, h.f1⟩, h.t0⟩, h.t1⟩⟩
theorem foldR_bd : ∀ (r : List (List UInt8)) (o s : List Sp), (∀ x ∈ o, SpB x) → foldR o r = some s → ∀ x ∈ s, SpB x
  | [], _, _, h, e => by cases e; exact h
  | p :: r, o, s, h, e => by
    rw [foldR] at e
    split at e
    · rename_i hc
      exact foldR_bd r _ s (fun x hx => (List.mem_append.1 hx).elim (h x) (fun k => by rw [List.mem_singleton.1 k]; exact partOk_iff.1 hc.1)) e
    · cases e
theorem span_read_some {t : List UInt8} {s : List Sp} (h : readS t = some s) : textS s = t ∧ rightS s = true ∧ s.length ≤ 4096 ∧ ∀ x ∈ s, SpB x := by
  unfold readS at h
  split at h
  · rename_i e; cases h; exact ⟨by rw [e]; rfl, rfl, by simp, fun x h => by cases h⟩
  · cases hf : foldR [] (splitC 44 t) with
    | none => rw [hf] at h; cases h
    | some u =>
      rw [hf] at h
      dsimp only at h
      split at h
      · rename_i hc
        cases h
        have h1 := hc.1
        unfold wrongL at h1
        split at h1
        · cases h1
        · split at h1
          · rename_i h2 h3
            exact ⟨hc.2, h3, by omega, foldR_bd _ _ _ (fun x h => by cases h) hf⟩
          · cases h1
      · cases h
theorem spanT_no (x : Sp) (h0 : 0 ≤ x.1) (h1 : 0 ≤ x.2) (c : UInt8) (hc : c.toNat < 45 ∨ 57 < c.toNat) : c ∉ spanT x := by
  unfold spanT
  intro h
  rcases List.mem_append.1 h with h | h
  · exact dec_digit x.1 h0 c (by omega) h
  · split at h
    · rcases List.mem_cons.1 h with rfl | h
      · revert hc; decide
      · exact dec_digit x.2 h1 c (by omega) h
    · cases h
theorem part_span (x : Sp) (hb : SpB x) (hl : x.1 ≤ x.2) : partV (spanT x) = x := by
  have n45 : (45 : UInt8) ∉ dec x.1 := dec_digit x.1 hb.f0 45 (by decide)
  have a1 := atoiV_dec x.1 hb.f0 (by have := hb.f1; omega)
  have a2 := atoiV_dec x.2 hb.t0 (by have := hb.t1; omega)
  unfold partV spanT
  by_cases h : x.1 < x.2
  · rw [if_pos h, cutC_app 45 _ _ n45]
    simp only [if_true, a1, a2]
  · rw [if_neg h, List.append_nil, cutC_no 45 _ n45]
    simp only [Bool.false_eq_true, if_false, a1]
    exact Prod.ext rfl (by simp only; omega)
theorem foldR_text : ∀ (s o : List Sp), (∀ x ∈ s, SpB x) → (∀ x ∈ s, x.1 ≤ x.2) → o.length + s.length ≤ 4097 → foldR o (s.map spanT) = some (o ++ s)
  | [], o, _, _, _ => by simp [foldR]
  | x :: s, o, hb, hl, hn => by
    have e := part_span x (hb x (by simp)) (hl x (by simp))
    rw [List.map_cons, foldR, e, if_pos ⟨partOk_iff.2 (hb x (by simp)), by simp only [List.length_cons] at hn; omega⟩, foldR_text s (o ++ [x]) (fun y hy => hb y (by simp [hy])) (fun y hy => hl y (by simp [hy])) (by simp only [List.length_append, List.length_cons, List.length_nil] at hn ⊢; omega), List.append_assoc]
    rfl
theorem dec_neS (n : Int) : dec n ≠ [] := by
  unfold dec Lib.itoa
  split
  · simp
  · exact decDigits_ne _
theorem textS_ne {s : List Sp} (h : s ≠ []) : textS s ≠ [] := by
  cases s with
  | nil => exact absurd rfl h
  | cons x s =>
    intro e
    have e2 : Lib.join (spanT x :: s.map spanT) [44] = [] := e
    rw [Lib.join_cons, List.append_eq_nil_iff] at e2
    exact dec_neS x.1 (List.append_eq_nil_iff.1 e2.1).1
theorem span_read_text {s : List Sp} (h : rightS s = true) (hb : ∀ x ∈ s, SpB x) (hn : s.length ≤ 4096) : readS (textS s) = some s := by
  by_cases h0 : s = []
  · subst h0; rfl
  · have hl := rF_le h
    unfold readS
    rw [if_neg (textS_ne h0), show splitC 44 (textS s) = s.map spanT from split_join 44 _ (by simpa using h0) (fun p hp => by
      obtain ⟨x, hx, rfl⟩ := List.mem_map.1 hp
      exact spanT_no x (hb x hx).f0 (hb x hx).t0 44 (by decide)), foldR_text s [] hb hl (by simp only [List.length_nil]; omega), List.nil_append]
    dsimp only
    rw [if_pos ⟨by unfold wrongL; rw [if_neg (by omega), if_pos h], rfl⟩]
end Go.Ab
