/- Changes between two dumps: plain laws. -/
import Derived.Test.YtlbbepgfjigjpaaGreatDoorDDump
namespace Go.Ab
open Go.Proofs.YtlbbepgfjigjpaaGreatDoor
theorem cmp_neg (a b : Ln) : b.cmp a = - a.cmp b := keyCmpFrom_neg _ _ _ _
theorem cmp_self (a : Ln) : a.cmp a = 0 := (keyCmpFrom_zero _ _ 5 0).2 fun _ _ => rfl
theorem cmp_le_trans {a b c : Ln} (h1 : a.cmp b ≤ 0) (h2 : b.cmp c ≤ 0) : a.cmp c ≤ 0 ∧ (a.cmp c = 0 → a.cmp b = 0 ∧ b.cmp c = 0) := keyCmpFrom_trans _ _ _ 5 0 h1 h2
theorem cmp_lt_trans {a b c : Ln} (h1 : a.cmp b < 0) (h2 : b.cmp c < 0) : a.cmp c < 0 := by
  obtain ⟨h3, h4⟩ := cmp_le_trans (Int.le_of_lt h1) (Int.le_of_lt h2)
  rcases Int.lt_or_eq_of_le h3 with h | h
  · exact h
  · have := (h4 h).1; omega
theorem cmp_lt_le {a b c : Ln} (h1 : a.cmp b < 0) (h2 : b.cmp c ≤ 0) : a.cmp c < 0 := by
  obtain ⟨h3, h4⟩ := cmp_le_trans (Int.le_of_lt h1) h2
  rcases Int.lt_or_eq_of_le h3 with h | h
  · exact h
  · have := (h4 h).1; omega
theorem cmp_le_lt {a b c : Ln} (h1 : a.cmp b ≤ 0) (h2 : b.cmp c < 0) : a.cmp c < 0 := by
  obtain ⟨h3, h4⟩ := cmp_le_trans h1 (Int.le_of_lt h2)
  rcases Int.lt_or_eq_of_le h3 with h | h
  · exact h
  · have := (h4 h).2; omega
/-- Each before all behind it. -/
def Srt (l : List Ln) : Prop := l.Pairwise fun a b => a.cmp b < 0
theorem srt_of_ordered : ∀ (l : List Ln), orderedL l = true → Srt l := by
  intro l h
  have step : ∀ k x y, l[k]? = some y → l[k + 1]? = some x → y.cmp x < 0 := by
    intro k x y hy hx
    have := ordered_at h (List.getElem?_eq_some_iff.1 hx).1
    rw [okAt_succ l k x y hx hy] at this
    simp only [Bool.and_eq_true, decide_eq_true_eq] at this
    exact this.2
  clear h
  unfold Srt
  induction l with
  | nil => exact List.Pairwise.nil
  | cons a t ih =>
    have iht := ih fun k x y hy hx => step (k + 1) x y (by simpa using hy) (by simpa using hx)
    refine List.Pairwise.cons ?_ iht
    intro b hb
    cases t with
    | nil => cases hb
    | cons c t =>
      have h1 : a.cmp c < 0 := step 0 c a rfl rfl
      rcases List.mem_cons.1 hb with rfl | hb
      · exact h1
      · exact cmp_lt_trans h1 ((List.pairwise_cons.1 iht).1 b hb)
/-- The same key. -/
def keyB (a b : Ln) : Bool := a.pr == b.pr && (a.s == b.s && (a.d == b.d && (a.sp == b.sp && a.dp == b.dp)))
theorem keyB_cmp (a b : Ln) : keyB a b = (a.cmp b == 0) := by
  have h : a.cmp b = 0 ↔ keyB a b = true := by
    unfold Ln.cmp keyCmp
    rw [keyCmpFrom_zero]
    unfold keyB
    simp only [Bool.and_eq_true, beq_iff_eq]
    constructor
    · intro h
      have h0 := h 0 (by omega); have h1 := h 1 (by omega); have h2 := h 2 (by omega); have h3 := h 3 (by omega); have h4 := h 4 (by omega)
      exact ⟨h0, h1, h3, h2, h4⟩
    · rintro ⟨h0, h1, h3, h2, h4⟩ j hj
      rcases (by omega : j = 0 ∨ j = 1 ∨ j = 2 ∨ j = 3 ∨ j = 4) with rfl | rfl | rfl | rfl | rfl
      · exact h0
      · exact h1
      · exact h2
      · exact h3
      · exact h4
  cases hk : keyB a b
  · rw [hk] at h
    have : a.cmp b ≠ 0 := fun e => by have := h.1 e; cases this
    simp [this]
  · rw [hk] at h
    simp [h.2 rfl]
/-- One change applied. -/
def stepA (out : List Ln) (c : Ch) : List Ln :=
  (if c.kind = 1 then out else out.filter fun x => !keyB x c.old) ++ (if c.kind = 2 then [] else [c.new])
def foldA (out : List Ln) (l : List Ch) : List Ln := l.foldl stepA out
theorem stepA_perm {a b : List Ln} (h : a.Perm b) (c : Ch) : (stepA a c).Perm (stepA b c) := by
  unfold stepA
  refine List.Perm.append_right _ ?_
  split
  · exact h
  · exact h.filter _
theorem foldA_perm : ∀ (l : List Ch) {a b : List Ln}, a.Perm b → (foldA a l).Perm (foldA b l)
  | [], _, _, h => h
  | c :: t, _, _, h => foldA_perm t (stepA_perm h c)
theorem foldA_append (a : List Ln) (l m : List Ch) : foldA a (l ++ m) = foldA (foldA a l) m := List.foldl_append
theorem filter_key {P us : List Ln} {a : Ln} (hP : ∀ x ∈ P, x.cmp a < 0) (ha : ∀ y ∈ us, a.cmp y < 0) : (P ++ a :: us).filter (fun x => !keyB x a) = P ++ us := by
  rw [List.filter_append, List.filter_cons]
  have h0 : (!keyB a a) = false := by rw [keyB_cmp, cmp_self]; rfl
  rw [h0]
  simp only [Bool.false_eq_true, if_false]
  congr 1
  · refine List.filter_eq_self.2 fun x hx => ?_
    have := hP x hx
    rw [keyB_cmp]
    have : x.cmp a ≠ 0 := by omega
    simp [this]
  · refine List.filter_eq_self.2 fun x hx => ?_
    have := ha x hx
    have h2 := cmp_neg a x
    rw [keyB_cmp]
    have : x.cmp a ≠ 0 := by omega
    simp [this]
theorem swap_mid (P us : List Ln) (b : Ln) : ((P ++ us) ++ [b]).Perm ((P ++ [b]) ++ us) := by
  rw [List.append_assoc, List.append_assoc]
  exact List.Perm.append_left P List.perm_append_comm
/-- The changes from one dump to another one, applied to the first one, give the second one, in some order. -/
theorem fold_diff : ∀ (n : Nat) (us bs P : List Ln), us.length + bs.length ≤ n → Srt us → Srt bs → (∀ x ∈ P, ∀ y ∈ us, x.cmp y < 0) → (∀ x ∈ P, ∀ y ∈ bs, x.cmp y < 0) → (foldA (P ++ us) ((pairsL n us bs).flatMap chOf)).Perm (P ++ bs)
  | 0, us, bs, P, h, _, _, _, _ => by
    obtain rfl : us = [] := List.length_eq_zero_iff.1 (by omega)
    obtain rfl : bs = [] := List.length_eq_zero_iff.1 (by omega)
    exact List.Perm.refl _
  | n + 1, [], [], P, _, _, _, _, _ => List.Perm.refl _
  | n + 1, a :: us, [], P, h, sa, sb, hPa, hPb => by
    obtain ⟨sa1, sa2⟩ := List.pairwise_cons.1 sa
    rw [pairsL, List.flatMap_cons, foldA_append]
    have e : foldA (P ++ a :: us) (chOf (some a, none)) = P ++ us := by
      show stepA (P ++ a :: us) ⟨2, a, Ln.zero⟩ = _
      unfold stepA
      rw [if_neg (by simp), if_pos rfl, List.append_nil]
      exact filter_key (fun x hx => hPa x hx a (by simp)) sa1
    rw [e]
    exact fold_diff n us [] P (by simp at h ⊢; omega) sa2 sb (fun x hx y hy => hPa x hx y (by simp [hy])) hPb
  | n + 1, [], b :: bs, P, h, sa, sb, hPa, hPb => by
    obtain ⟨sb1, sb2⟩ := List.pairwise_cons.1 sb
    rw [pairsL, List.flatMap_cons, foldA_append]
    have e : foldA (P ++ []) (chOf (none, some b)) = (P ++ [b]) ++ [] := by
      show stepA (P ++ []) ⟨1, Ln.zero, b⟩ = _
      unfold stepA
      rw [if_pos rfl, if_neg (by simp)]; simp
    rw [e]
    have := fold_diff n [] bs (P ++ [b]) (by simp at h ⊢; omega) List.Pairwise.nil sb2 (fun x _ y hy => by cases hy) (fun x hx y hy => by
      rcases List.mem_append.1 hx with hx | hx
      · exact hPb x hx y (by simp [hy])
      · simp at hx; subst hx; exact sb1 y hy)
    rwa [show P ++ [b] ++ bs = P ++ b :: bs by simp] at this
  | n + 1, a :: us, b :: bs, P, h, sa, sb, hPa, hPb => by
    obtain ⟨sa1, sa2⟩ := List.pairwise_cons.1 sa
    obtain ⟨sb1, sb2⟩ := List.pairwise_cons.1 sb
    have hl : us.length + bs.length + 2 ≤ n + 1 := by simp at h; omega
    have nb := cmp_neg a b
    rw [pairsL]
    by_cases h1 : a.cmp b < 0
    · rw [if_pos h1, List.flatMap_cons, foldA_append]
      have e : foldA (P ++ a :: us) (chOf (some a, none)) = P ++ us := by
        show stepA (P ++ a :: us) ⟨2, a, Ln.zero⟩ = _
        unfold stepA
        rw [if_neg (by simp), if_pos rfl, List.append_nil]
        exact filter_key (fun x hx => hPa x hx a (by simp)) sa1
      rw [e]
      exact fold_diff n us (b :: bs) P (by simp; omega) sa2 sb (fun x hx y hy => hPa x hx y (by simp [hy])) hPb
    · rw [if_neg h1]
      have hPb' : ∀ x ∈ P ++ [b], ∀ y ∈ bs, x.cmp y < 0 := fun x hx y hy => by
        rcases List.mem_append.1 hx with hx | hx
        · exact hPb x hx y (by simp [hy])
        · simp at hx; subst hx; exact sb1 y hy
      by_cases h2 : 0 < a.cmp b
      · rw [if_pos h2, List.flatMap_cons, foldA_append]
        have e : (foldA (P ++ a :: us) (chOf (none, some b))).Perm ((P ++ [b]) ++ a :: us) := by
          have : foldA (P ++ a :: us) (chOf (none, some b)) = (P ++ a :: us) ++ [b] := by
            show stepA (P ++ a :: us) ⟨1, Ln.zero, b⟩ = _
            unfold stepA
            rw [if_pos rfl, if_neg (by simp)]
          rw [this]
          exact swap_mid P (a :: us) b
        refine (foldA_perm _ e).trans ?_
        have := fold_diff n (a :: us) bs (P ++ [b]) (by simp; omega) sa sb2 (fun x hx y hy => by
          rcases List.mem_append.1 hx with hx | hx
          · exact hPa x hx y hy
          · simp at hx; subst hx
            have hba : x.cmp a < 0 := by omega
            rcases List.mem_cons.1 hy with rfl | hy
            · exact hba
            · exact cmp_lt_trans hba (sa1 y hy)) hPb'
        rwa [show P ++ [b] ++ bs = P ++ b :: bs by simp] at this
      · rw [if_neg h2, List.flatMap_cons, foldA_append]
        have h0 : a.cmp b = 0 := by omega
        have e : (foldA (P ++ a :: us) (chOf (some a, some b))).Perm ((P ++ [b]) ++ us) := by
          by_cases hab : a = b
          · subst hab
            rw [show chOf (some a, some a) = [] by simp [chOf]]
            show (P ++ a :: us).Perm _
            rw [List.append_assoc, List.singleton_append]
          · rw [show chOf (some a, some b) = [⟨3, a, b⟩] by simp [chOf, hab]]
            have : foldA (P ++ a :: us) [⟨3, a, b⟩] = (P ++ us) ++ [b] := by
              show stepA (P ++ a :: us) ⟨3, a, b⟩ = _
              unfold stepA
              rw [if_neg (by simp), if_neg (by simp)]
              dsimp only
              rw [filter_key (fun x hx => hPa x hx a (by simp)) sa1]
            rw [this]
            exact swap_mid P us b
        refine (foldA_perm _ e).trans ?_
        have := fold_diff n us bs (P ++ [b]) (by omega) sa2 sb2 (fun x hx y hy => by
          rcases List.mem_append.1 hx with hx | hx
          · exact hPa x hx y (by simp [hy])
          · simp at hx; subst hx
            have h3 : x.cmp a ≤ 0 := by omega
            exact cmp_le_lt h3 (sa1 y hy)) hPb'
        rwa [show P ++ [b] ++ bs = P ++ b :: bs by simp] at this
/-- Two lists in order with the same elements are one. -/
theorem sorted_perm : ∀ (l m : List Ln), l.Pairwise (fun a b => a.cmp b ≤ 0) → Srt m → l.Perm m → l = m
  | [], m, _, _, h => (List.nil_perm.1 h).symm
  | a :: t, [], _, _, h => by simpa using h.length_eq
  | a :: t, b :: u, sl, sm, h => by
    obtain ⟨l1, l2⟩ := List.pairwise_cons.1 sl
    obtain ⟨m1, m2⟩ := List.pairwise_cons.1 sm
    have hab : a = b := by
      have ha : a ∈ b :: u := h.subset (by simp)
      have hb : b ∈ a :: t := h.symm.subset (by simp)
      rcases List.mem_cons.1 ha with e | ha
      · exact e
      · have h1 := m1 a ha
        rcases List.mem_cons.1 hb with e | hb
        · exact e.symm
        · have h2 := l1 b hb
          have h3 := cmp_neg a b
          omega
    subst hab
    rw [sorted_perm t u l2 m2 (List.Perm.cons_inv h)]
theorem diff_self : ∀ (n : Nat) (a : List Ln), (pairsL n a a).flatMap chOf = []
  | 0, _ => rfl
  | n + 1, [] => rfl
  | n + 1, a :: us => by
    rw [pairsL, if_neg (by rw [cmp_self]; decide), if_neg (by rw [cmp_self]; decide), List.flatMap_cons, diff_self n us]
    simp [chOf]
def Ch.back (c : Ch) : Ch := ⟨if c.kind = 1 then 2 else if c.kind = 2 then 1 else 3, c.new, c.old⟩
end Go.Ab
