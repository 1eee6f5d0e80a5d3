/- Strings cut and split at one byte; decimal numerals read back: plain lists, no program in sight. -/
import Derived.Lib.Split
import Derived.Lib.AtoiAll
import Derived.Lib.ItoaMem
import Derived.Lib.Join
namespace Go.Ab

/-- A string cut at the first c. -/
def cutC (c : UInt8) : List UInt8 → List UInt8 × List UInt8 × Bool
  | [] => ([], [], false)
  | b :: r => if b = c then ([], r, true) else (b :: (cutC c r).1, (cutC c r).2.1, (cutC c r).2.2)
/-- A string split at each c. -/
def splitC (c : UInt8) : List UInt8 → List (List UInt8)
  | [] => [[]]
  | b :: r => if b = c then [] :: splitC c r else (b :: (splitC c r).headD []) :: (splitC c r).tail

theorem splitC_ne (c : UInt8) (l : List UInt8) : splitC c l ≠ [] := by
  cases l with
  | nil => simp [splitC]
  | cons b r => unfold splitC; split <;> simp
theorem splitC_pos (c : UInt8) (l : List UInt8) : 0 < (splitC c l).length := List.length_pos_iff.2 (splitC_ne c l)
theorem splitC_cons (c : UInt8) (l : List UInt8) : splitC c l = (splitC c l).headD [] :: (splitC c l).tail := by
  cases h : splitC c l with
  | nil => exact absurd h (splitC_ne c l)
  | cons a t => rfl

theorem index_cons (b c : UInt8) (r : List UInt8) : Lib.index (b :: r) [c] = if b = c then 0 else if Lib.index r [c] = -1 then -1 else Lib.index r [c] + 1 := by
  rw [Lib.index]
  have e : List.isPrefixOf [c] (b :: r) = (c == b) := by simp [List.isPrefixOf]
  rw [e]
  by_cases h : b = c
  · simp [h]
  · have : (c == b) = false := by simpa using fun h' => h h'.symm
    simp [this, h]
theorem index_nil (c : UInt8) : Lib.index [] [c] = -1 := rfl

theorem cut_eq (c : UInt8) : ∀ (l : List UInt8), Lib.cut l [c] = cutC c l
  | [] => rfl
  | b :: r => by
    have ih := cut_eq c r
    have hge := Lib.index_ge r [c]
    unfold Lib.cut at ih ⊢
    rw [index_cons]
    by_cases h : b = c
    · simp [h, cutC]
    · rw [if_neg h]
      unfold cutC
      rw [if_neg h]
      by_cases h1 : Lib.index r [c] = -1
      · rw [h1] at ih ⊢
        simp only [if_true] at ih ⊢
        have h2 : ¬ (0 : Int) ≤ -1 := by omega
        rw [if_neg h2] at ih ⊢
        rw [← ih]
      · rw [if_neg h1]
        have h2 : 0 ≤ Lib.index r [c] := by omega
        have h3 : 0 ≤ Lib.index r [c] + 1 := by omega
        rw [if_pos h2] at ih
        rw [if_pos h3, ← ih]
        have e : (Lib.index r [c] + 1).toNat = (Lib.index r [c]).toNat + 1 := by omega
        simp only [e, List.take_succ_cons, List.length_cons, List.length_nil, Nat.zero_add, List.drop_succ_cons]

theorem splitC_miss (c : UInt8) : ∀ (l : List UInt8), Lib.index l [c] = -1 → splitC c l = [l]
  | [], _ => rfl
  | b :: r, h => by
    rw [index_cons] at h
    by_cases h1 : b = c
    · rw [if_pos h1] at h; omega
    · rw [if_neg h1] at h
      have hr : Lib.index r [c] = -1 := by
        have := Lib.index_ge r [c]
        by_cases h2 : Lib.index r [c] = -1
        · exact h2
        · rw [if_neg h2] at h; omega
      unfold splitC
      rw [if_neg h1, splitC_miss c r hr]; rfl
theorem splitC_hit (c : UInt8) : ∀ (l : List UInt8) (i : Nat), Lib.index l [c] = i → splitC c l = l.take i :: splitC c (l.drop (i + 1))
  | [], i, h => by rw [index_nil] at h; omega
  | b :: r, i, h => by
    rw [index_cons] at h
    by_cases h1 : b = c
    · rw [if_pos h1] at h
      have : i = 0 := by omega
      subst this
      simp [splitC, h1]
    · rw [if_neg h1] at h
      by_cases h2 : Lib.index r [c] = -1
      · rw [if_pos h2] at h; omega
      · rw [if_neg h2] at h
        have := Lib.index_ge r [c]
        obtain ⟨j, rfl⟩ : ∃ j, i = j + 1 := ⟨i - 1, by omega⟩
        have ih := splitC_hit c r j (by omega)
        rw [splitC, if_neg h1, ih]; rfl
theorem splitK_eq (c : UInt8) : ∀ (n : Nat) (l : List UInt8), l.length ≤ n → Lib.splitK [c] 0 (Lib.count l [c]) l = splitC c l ∧ (splitC c l).length = Lib.count l [c] + 1 := by
  intro n
  induction n with
  | zero =>
    intro l hl
    have : l = [] := List.eq_nil_of_length_eq_zero (by omega)
    subst this
    exact ⟨rfl, rfl⟩
  | succ n ih =>
    intro l hl
    rcases Lib.index_spec l [c] with ⟨h, _⟩ | ⟨i, h, _⟩
    · rw [Lib.count_miss h, splitC_miss c l h]; exact ⟨rfl, rfl⟩
    · have hr := Lib.index_room l [c] (by omega)
      rw [h] at hr
      have hlen : i + 1 ≤ l.length := by simp at hr; omega
      obtain ⟨i1, i2⟩ := ih (l.drop (i + 1)) (by simp; omega)
      have hc := Lib.count_hit (sub := [c]) (by simp) h
      simp only [List.length_cons, List.length_nil, Nat.zero_add] at hc
      rw [hc, splitC_hit c l i h, Nat.add_comm 1]
      refine ⟨?_, by rw [List.length_cons, i2]⟩
      rw [Lib.splitK, h]
      have hne : ¬ ((i : Int) == -1) = true := fun e => by have := beq_iff_eq.1 e; omega
      rw [if_neg hne]
      simp only [Int.toNat_natCast, List.length_cons, List.length_nil, Nat.zero_add, Nat.add_zero, i1]
theorem splitB_eq (c : UInt8) (l : List UInt8) : (Lib.splitB ⟨#[c]⟩ 0 (Lib.countB ⟨l.toArray⟩ ⟨#[c]⟩) ⟨l.toArray⟩).map Value.string = (splitC c l).map fun p => Value.string ⟨p.toArray⟩ := by
  have h := Lib.splitB_data ⟨#[c]⟩ 0 (Lib.countB ⟨l.toArray⟩ ⟨#[c]⟩) ⟨l.toArray⟩
  have h2 := (splitK_eq c l.length l (Nat.le_refl _)).1
  have e : Lib.countB ⟨l.toArray⟩ ⟨#[c]⟩ = Lib.count l [c] := rfl
  rw [e] at h ⊢
  have h3 : (Lib.splitB ⟨#[c]⟩ 0 (Lib.count l [c]) ⟨l.toArray⟩).map (·.data.toList) = splitC c l := by rw [h]; exact h2
  rw [← h3, List.map_map]
  rfl
theorem countB_eq (c : UInt8) (l : List UInt8) : Lib.countB ⟨l.toArray⟩ ⟨#[c]⟩ + 1 = (splitC c l).length := ((splitK_eq c l.length l (Nat.le_refl _)).2).symm

/-- What is split and joined is the string. -/
theorem joinTail_cons (sep x : List UInt8) (r : List (List UInt8)) : Lib.joinTail sep (x :: r) = sep ++ x ++ Lib.joinTail sep r := by simp [Lib.joinTail]
theorem splitC_ex (c : UInt8) (l : List UInt8) : ∃ a t, splitC c l = a :: t := ⟨_, _, splitC_cons c l⟩
theorem join_split (c : UInt8) : ∀ (l : List UInt8), Lib.join (splitC c l) [c] = l
  | [] => rfl
  | b :: r => by
    have ih := join_split c r
    obtain ⟨a, t, e⟩ := splitC_ex c r
    rw [e, Lib.join_cons] at ih
    by_cases h : b = c
    · rw [splitC, if_pos h, Lib.join_cons, e, joinTail_cons]
      simp [ih, h]
    · rw [splitC, if_neg h, Lib.join_cons, e]
      simp [ih]
theorem splitC_no (c : UInt8) : ∀ (l : List UInt8), c ∉ l → splitC c l = [l]
  | [], _ => rfl
  | b :: r, h => by
    have h1 : b ≠ c := fun e => h (by simp [e])
    rw [splitC, if_neg h1, splitC_no c r (fun e => h (by simp [e]))]; rfl
theorem splitC_app (c : UInt8) (y : List UInt8) : ∀ (x : List UInt8), c ∉ x → splitC c (x ++ c :: y) = x :: splitC c y
  | [], _ => by simp [splitC]
  | b :: r, h => by
    have h1 : b ≠ c := fun e => h (by simp [e])
    rw [List.cons_append, splitC, if_neg h1, splitC_app c y r (fun e => h (by simp [e]))]; rfl
theorem split_join (c : UInt8) : ∀ (ps : List (List UInt8)), ps ≠ [] → (∀ p ∈ ps, c ∉ p) → splitC c (Lib.join ps [c]) = ps
  | [], h, _ => absurd rfl h
  | [x], _, h => by rw [Lib.join_one]; exact splitC_no c x (h x (by simp))
  | x :: y :: r, _, h => by
    have ih := split_join c (y :: r) (by simp) (fun p hp => h p (by simp only [List.mem_cons] at hp ⊢; exact .inr hp))
    rw [Lib.join_cons] at ih
    rw [Lib.join_cons, joinTail_cons]
    rw [show x ++ ([c] ++ y ++ Lib.joinTail [c] r) = x ++ c :: (y ++ Lib.joinTail [c] r) by simp, splitC_app c _ x (h x (by simp)), ih]
theorem cutC_app (c : UInt8) (y : List UInt8) : ∀ (x : List UInt8), c ∉ x → cutC c (x ++ c :: y) = (x, y, true)
  | [], _ => by simp [cutC]
  | b :: r, h => by
    have h1 : b ≠ c := fun e => h (by simp [e])
    rw [List.cons_append, cutC, if_neg h1, cutC_app c y r (fun e => h (by simp [e]))]
theorem cutC_no (c : UInt8) : ∀ (x : List UInt8), c ∉ x → cutC c x = (x, [], false)
  | [], _ => rfl
  | b :: r, h => by
    have h1 : b ≠ c := fun e => h (by simp [e])
    rw [cutC, if_neg h1, cutC_no c r (fun e => h (by simp [e]))]
theorem cutC_back (c : UInt8) : ∀ (x : List UInt8), ((cutC c x).2.2 = true ∧ x = (cutC c x).1 ++ c :: (cutC c x).2.1) ∨ ((cutC c x).2.2 = false ∧ (cutC c x).1 = x ∧ (cutC c x).2.1 = [])
  | [] => .inr ⟨rfl, rfl, rfl⟩
  | b :: r => by
    by_cases h : b = c
    · rw [cutC, if_pos h]; exact .inl ⟨rfl, by simp [h]⟩
    · rw [cutC, if_neg h]
      rcases cutC_back c r with ⟨h1, h2⟩ | ⟨h1, h2, h3⟩
      · exact .inl ⟨h1, by rw [List.cons_append, ← h2]⟩
      · exact .inr ⟨h1, by simp [h2], h3⟩
theorem cutC_len (c : UInt8) (x : List UInt8) : (cutC c x).1.length ≤ x.length ∧ (cutC c x).2.1.length ≤ x.length := by
  rcases cutC_back c x with ⟨_, h2⟩ | ⟨_, h2, h3⟩
  · have := congrArg List.length h2
    simp at this; omega
  · rw [h2, h3]; simp
theorem splitC_len (c : UInt8) : ∀ (l : List UInt8), ∀ p ∈ splitC c l, p.length ≤ l.length
  | [], p, hp => by simp [splitC] at hp; simp [hp]
  | b :: r, p, hp => by
    have ih := splitC_len c r
    obtain ⟨a, t, e⟩ := splitC_ex c r
    rw [e] at ih
    rw [splitC, e] at hp
    split at hp
    · rcases List.mem_cons.1 hp with rfl | h
      · simp
      · have := ih p h; simp; omega
    · rcases List.mem_cons.1 hp with rfl | h
      · have := ih a (by simp)
        simp; omega
      · have := ih p (List.mem_cons_of_mem _ h)
        simp; omega

/-! ### Decimal numerals -/
theorem parseUint10_snoc (c : UInt8) : ∀ (l : List UInt8) (acc : Nat), Lib.parseUint10 acc (l ++ [c]) = match Lib.parseUint10 acc l with | .ok a => Lib.parseUint10 a [c] | e => e
  | [], acc => rfl
  | b :: r, acc => by
    rw [List.cons_append, Lib.parseUint10, Lib.parseUint10]
    split
    · split
      · rfl
      · split
        · rfl
        · exact parseUint10_snoc c r _
    · rfl
theorem parse_decDigits (u : Nat) : u < 1000000000000000000 → Lib.parseUint10 0 (Lib.decDigits u) = .ok u := by
  induction u using Nat.strongRecOn with
  | _ u ih =>
    intro hu
    have one : ∀ (a d : Nat), a < 100000000000000000 → d < 10 → Lib.parseUint10 a [UInt8.ofNat (48 + d)] = .ok (a * 10 + d) := by
      intro a d ha hd
      have e : (UInt8.ofNat (48 + d)).toNat = 48 + d := by simp; omega
      rw [Lib.parseUint10, e, if_pos (by omega), if_neg (by omega), if_neg (by omega), Lib.parseUint10]
      congr 1; omega
    by_cases h : u < 10
    · rw [Lib.decDigits_one h, one 0 u (by omega) h]; simp
    · rw [Lib.decDigits, dif_neg h, parseUint10_snoc, ih (u / 10) (by omega) (by omega)]
      dsimp only
      rw [one (u / 10) (u % 10) (by omega) (by omega)]
      congr 1; omega
theorem decDigits_digit (u : Nat) : ∀ c ∈ Lib.decDigits u, 48 ≤ c.toNat ∧ c.toNat ≤ 57 := by
  induction u using Nat.strongRecOn with
  | _ u ih =>
    intro c hc
    rw [Lib.decDigits] at hc
    split at hc
    · simp only [List.mem_singleton] at hc
      subst hc; simp; omega
    · rcases List.mem_append.1 hc with h | h
      · exact ih (u / 10) (by omega) c h
      · simp only [List.mem_singleton] at h
        subst h; simp; omega
theorem decDigits_ne (u : Nat) : Lib.decDigits u ≠ [] := by
  intro h
  have := Lib.decDigits_length u
  rw [h] at this
  have := Lib.nDigits_pos u
  simp at *; omega
theorem atoiAll_dec (n : Int) (h0 : 0 ≤ n) (h1 : n < 1000000000000000000) : Lib.atoiAll (Lib.itoa n) = .ok n := by
  obtain ⟨u, rfl⟩ := Int.eq_ofNat_of_zero_le h0
  rw [Lib.itoa_nonneg]
  have hp := parse_decDigits u (by omega)
  cases hd : Lib.decDigits u with
  | nil => exact absurd hd (decDigits_ne u)
  | cons c r =>
    have hc := decDigits_digit u c (by rw [hd]; simp)
    rw [hd] at hp
    unfold Lib.atoiAll
    dsimp only
    rw [if_neg (by omega)]
    unfold Lib.parseMag
    rw [if_neg (by simp), hp]
    dsimp only
    rw [if_neg (by omega), if_neg (by omega), if_neg (by omega)]
theorem itoa_digit (n : Int) (h0 : 0 ≤ n) : ∀ c ∈ Lib.itoa n, 48 ≤ c.toNat ∧ c.toNat ≤ 57 := by
  obtain ⟨u, rfl⟩ := Int.eq_ofNat_of_zero_le h0
  rw [Lib.itoa_nonneg]; exact decDigits_digit u
end Go.Ab
