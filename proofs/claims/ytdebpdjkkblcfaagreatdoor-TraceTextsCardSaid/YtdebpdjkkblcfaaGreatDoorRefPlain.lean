/- The reference's reading of numbers and addresses, on lists; it reads just what the program reads: no program in sight. -/
import Derived.Test.YtdebpdjkkblcfaaGreatDoorReadsPlain
import Derived.Test.YtdebpdjkkblcfaaGreatDoorRef1
namespace Go.Ab
open Go.Proofs.YtdebpdjkkblcfaaGreatDoor
def isDig (c : UInt8) : Bool := decide (48 ≤ c.toNat) && decide (c.toNat ≤ 57)
/-- The number that some digits are. -/
def valL (l : List UInt8) : Int := l.foldl (fun n c => 10 * n + ((c.toNat : Int) - 48)) 0
theorem valL_snoc (l : List UInt8) (c : UInt8) : valL (l ++ [c]) = 10 * valL l + ((c.toNat : Int) - 48) := by simp [valL]
theorem valL_nil : valL [] = 0 := rfl
theorem snoc_ind {α : Type} {P : List α → Prop} (h0 : P []) (h1 : ∀ l a, P l → P (l ++ [a])) (l : List α) : P l := by
  have : ∀ m : List α, P m.reverse := fun m => by
    induction m with
    | nil => exact h0
    | cons a t ih => rw [List.reverse_cons]; exact h1 _ _ ih
  have := this l.reverse
  rwa [List.reverse_reverse] at this
theorem valL_nonneg (l : List UInt8) (h : ∀ c ∈ l, isDig c = true) : 0 ≤ valL l := by
  induction l using snoc_ind with
  | h0 => simp [valL]
  | h1 l c ih =>
    rw [valL_snoc]
    have := ih (fun x hx => h x (by simp [hx]))
    have hc := h c (by simp)
    unfold isDig at hc; simp at hc; omega
theorem valL_mono (l r : List UInt8) (h : ∀ c ∈ l ++ r, isDig c = true) : valL l ≤ valL (l ++ r) := by
  induction r using snoc_ind with
  | h0 => simp
  | h1 r c ih =>
    rw [← List.append_assoc, valL_snoc]
    have h1 := ih (fun x hx => h x (by rw [← List.append_assoc]; exact List.mem_append_left _ hx))
    have h2 := valL_nonneg l (fun x hx => h x (by simp [hx]))
    have hc := h c (by simp)
    unfold isDig at hc; simp at hc; omega
theorem dec_isDig (n : Int) (h : 0 ≤ n) : ∀ c ∈ dec n, isDig c = true := fun c hc => by
  have := itoa_digit n h c hc
  unfold isDig; simp; omega
theorem u8_dig (d : Int) (h0 : 0 ≤ d) (h1 : d < 10) : ((UInt8.ofNat (48 + d).toNat).toNat : Int) - 48 = d := by
  simp; omega
theorem valL_dec (m : Nat) : ∀ n : Int, n.toNat ≤ m → 0 ≤ n → valL (dec n) = n := by
  induction m with
  | zero => intro n hm h; rw [dec_small n h (by omega)]; simp only [valL, List.foldl]; rw [u8_dig n h (by omega)]; omega
  | succ m ih =>
    intro n hm h
    by_cases hs : n < 10
    · rw [dec_small n h hs]; simp only [valL, List.foldl]; rw [u8_dig n h hs]; omega
    · rw [dec_snoc n (by omega), valL_snoc, ih (n / 10) (by omega) (by omega), u8_dig _ (by omega) (by omega)]; omega
theorem val_dec (n : Int) (h : 0 ≤ n) : valL (dec n) = n := valL_dec n.toNat n (Nat.le_refl _) h
theorem dec_ne (n : Int) (h : 0 ≤ n) : dec n ≠ [] := by
  obtain ⟨u, rfl⟩ := Int.eq_ofNat_of_zero_le h
  unfold dec; rw [Lib.itoa_nonneg]; exact decDigits_ne u
/-- No needless 0 ahead. -/
def plainB : List UInt8 → Bool
  | [] => false
  | c :: r => !(c == 48 && !r.isEmpty)
theorem plainB_snoc (c : UInt8) (l : List UInt8) (a : UInt8) : plainB ((c :: l) ++ [a]) = !(c == 48) := by simp [plainB]
theorem dec_plain (m : Nat) : ∀ n : Int, n.toNat ≤ m → 0 ≤ n → plainB (dec n) = true ∧ (1 ≤ n → ∃ c r, dec n = c :: r ∧ c ≠ 48) := by
  induction m with
  | zero =>
    intro n hm h
    rw [dec_small n h (by omega)]
    exact ⟨by simp [plainB], fun h1 => by omega⟩
  | succ m ih =>
    intro n hm h
    by_cases hs : n < 10
    · rw [dec_small n h hs]
      refine ⟨by simp [plainB], fun h1 => ⟨_, _, rfl, fun e => ?_⟩⟩
      have := congrArg UInt8.toNat e
      simp at this; omega
    · obtain ⟨_, i2⟩ := ih (n / 10) (by omega) (by omega)
      obtain ⟨c, r, e, hc⟩ := i2 (by omega)
      rw [dec_snoc n (by omega), e]
      exact ⟨by rw [plainB_snoc]; simp [hc], fun _ => ⟨c, r ++ [_], rfl, hc⟩⟩
/-- Digits without a needless 0 are the numeral of their number. -/
theorem dec_val (l : List UInt8) : (∀ c ∈ l, isDig c = true) → plainB l = true → dec (valL l) = l ∧ ((∃ c r, l = c :: r ∧ c ≠ 48) → 1 ≤ valL l) := by
  induction l using snoc_ind with
  | h0 => intro _ h; cases h
  | h1 l c ih =>
    intro hd hp
    have hc := hd c (by simp)
    have hc2 : 48 ≤ c.toNat ∧ c.toNat ≤ 57 := by unfold isDig at hc; simpa using hc
    have hl := valL_nonneg l (fun x hx => hd x (by simp [hx]))
    rw [valL_snoc]
    cases l with
    | nil =>
      rw [valL_nil]
      refine ⟨?_, ?_⟩
      · rw [dec_small _ (by omega) (by omega)]
        simp only [List.nil_append, List.cons.injEq, and_true]
        apply UInt8.toNat_inj.1
        simp; omega
      · rintro ⟨c', r, e, hne⟩
        simp at e
        obtain ⟨rfl, _⟩ := e
        have : c.toNat ≠ 48 := fun e => hne (UInt8.toNat_inj.1 e)
        omega
    | cons c0 r =>
      rw [plainB_snoc] at hp
      have hc0 : c0 ≠ 48 := by simpa using hp
      obtain ⟨i1, i2⟩ := ih (fun x hx => hd x (by simp only [List.mem_append]; exact .inl hx)) (by simp [plainB, hc0])
      have h1 := i2 ⟨c0, r, rfl, hc0⟩
      refine ⟨?_, fun _ => by omega⟩
      rw [dec_snoc _ (by omega), show (10 * valL (c0 :: r) + ((c.toNat : Int) - 48)) / 10 = valL (c0 :: r) by omega, i1]
      congr 2
      apply UInt8.toNat_inj.1
      simp; omega
/-- The digits at the head, and what follows. -/
def digs (r : List UInt8) : List UInt8 := r.takeWhile isDig
def after (r : List UInt8) : List UInt8 := r.dropWhile isDig
theorem digs_after (r : List UInt8) : digs r ++ after r = r := List.takeWhile_append_dropWhile
theorem digs_dig (r : List UInt8) : ∀ c ∈ digs r, isDig c = true := by
  induction r with
  | nil => simp [digs]
  | cons a t ih =>
    unfold digs
    rw [List.takeWhile_cons]
    split
    · rename_i h
      intro c hc
      rcases List.mem_cons.1 hc with rfl | hc
      · exact h
      · exact ih c hc
    · simp
/-- No digit at the head. -/
def noDig : List UInt8 → Prop
  | [] => True
  | c :: _ => isDig c = false
theorem after_no (r : List UInt8) : noDig (after r) := by
  induction r with
  | nil => trivial
  | cons a t ih =>
    unfold after
    rw [List.dropWhile_cons]
    split
    · exact ih
    · rename_i h; simpa [noDig] using h
theorem digs_app (x r : List UInt8) (hx : ∀ c ∈ x, isDig c = true) (hr : noDig r) : digs (x ++ r) = x ∧ after (x ++ r) = r := by
  induction x with
  | nil =>
    cases r with
    | nil => exact ⟨rfl, rfl⟩
    | cons a t =>
      have : isDig a = false := hr
      exact ⟨by simp [digs, this], by simp [after, this]⟩
  | cons a t ih =>
    obtain ⟨i1, i2⟩ := ih (fun c hc => hx c (List.mem_cons_of_mem _ hc))
    have ha := hx a (by simp)
    unfold digs after at *
    simp only [List.cons_append, List.takeWhile_cons, List.dropWhile_cons, ha, if_true, i1, i2, and_self]
/-- A number from a place on: none if it is too great, or has a needless 0. -/
def numP (most : Int) : Option (List UInt8) → Int × Option (List UInt8)
  | none => (0, none)
  | some r => if plainB (digs r) && decide (valL (digs r) ≤ most) then (valL (digs r), some (after r)) else (0, none)
theorem numP_eq (most : Int) (r : List UInt8) : numP most (some r) = if plainB (digs r) && decide (valL (digs r) ≤ most) then (valL (digs r), some (after r)) else (0, none) := rfl
theorem numP_iff (most : Int) (r : List UInt8) (n : Int) (r' : List UInt8) : numP most (some r) = (n, some r') ↔ (r = dec n ++ r' ∧ 0 ≤ n ∧ n ≤ most ∧ noDig r') := by
  rw [numP_eq]
  constructor
  · intro h
    split at h
    · rename_i hk
      simp only [Bool.and_eq_true, decide_eq_true_eq] at hk
      simp only [Prod.mk.injEq, Option.some.injEq] at h
      obtain ⟨rfl, rfl⟩ := h
      refine ⟨?_, valL_nonneg _ (digs_dig r), hk.2, after_no r⟩
      rw [(dec_val (digs r) (digs_dig r) hk.1).1, digs_after]
    · simp at h
  · rintro ⟨rfl, h0, h1, h2⟩
    obtain ⟨e1, e2⟩ := digs_app (dec n) r' (dec_isDig n h0) h2
    rw [e1, e2, val_dec n h0]
    simp [(dec_plain n.toNat n (Nat.le_refl _) h0).1, h1]
theorem numP_bd (most : Int) (hm : 0 ≤ most) (o : Option (List UInt8)) : 0 ≤ (numP most o).1 ∧ (numP most o).1 ≤ most := by
  cases o with
  | none => simp [numP, hm]
  | some r =>
    rw [numP_eq]
    split
    · rename_i hk
      simp only [Bool.and_eq_true, decide_eq_true_eq] at hk
      exact ⟨valL_nonneg _ (digs_dig r), hk.2⟩
    · simp [hm]
theorem numP_suf (most : Int) (r r' : List UInt8) (n : Int) (h : numP most (some r) = (n, some r')) : r' <:+ r := by
  have := (numP_iff most r n r').1 h
  exact ⟨dec n, this.1.symm⟩
def signP (c : UInt8) : Option (List UInt8) → Option (List UInt8)
  | some (b :: r) => if b = c then some r else none
  | _ => none
theorem signP_iff (c : UInt8) (o : Option (List UInt8)) (r : List UInt8) : signP c o = some r ↔ o = some (c :: r) := by
  match o with
  | none => simp [signP]
  | some [] => simp [signP]
  | some (b :: t) => simp only [signP]; split <;> simp_all
/-- The state of the reading of an address before the number k: what is read, and the place. -/
def addrSt (o : Option (List UInt8)) : Nat → Int × Option (List UInt8)
  | 0 => (0, o)
  | k + 1 =>
    let p := if k = 0 then (addrSt o k).2 else signP 46 (addrSt o k).2
    (256 * (addrSt o k).1 + (numP 255 p).1, (numP 255 p).2)
def addrP (o : Option (List UInt8)) : Int × Option (List UInt8) := addrSt o 4
theorem addrSt_bd (o : Option (List UInt8)) : ∀ k, 0 ≤ (addrSt o k).1 ∧ (addrSt o k).1 < 256 ^ k
  | 0 => by simp [addrSt]
  | k + 1 => by
    have ih := addrSt_bd o k
    simp only [addrSt]
    have h := numP_bd 255 (by omega) (if k = 0 then (addrSt o k).2 else signP 46 (addrSt o k).2)
    have : (256 : Int) ^ (k + 1) = 256 * 256 ^ k := by rw [Int.pow_succ, Int.mul_comm]
    omega
theorem addrP_bd (o : Option (List UInt8)) : 0 ≤ (addrP o).1 ∧ (addrP o).1 < 4294967296 := by
  have := addrSt_bd o 4
  simpa [addrP] using this
theorem noDig_dot (r : List UInt8) : noDig (46 :: r) := by simp [noDig, isDig]
theorem text_eq (a : Int) (r : List UInt8) : textL a ++ r = dec (oct a 0) ++ 46 :: (dec (oct a 1) ++ 46 :: (dec (oct a 2) ++ 46 :: (dec (oct a 3) ++ r))) := by
  unfold textL; simp [Lib.join]
theorem pair_eta {α β : Type} (p : α × β) : p = (p.1, p.2) := rfl
theorem numP_none (most : Int) : numP most none = (0, none) := rfl
theorem numP_some {most : Int} {o : Option (List UInt8)} {r' : List UInt8} (h : (numP most o).2 = some r') : ∃ r, o = some r ∧ r = dec (numP most o).1 ++ r' ∧ 0 ≤ (numP most o).1 ∧ (numP most o).1 ≤ most ∧ noDig r' := by
  cases o with
  | none => simp [numP] at h
  | some r => exact ⟨r, rfl, (numP_iff most r _ r').1 (by rw [← h])⟩
theorem addrP_iff (r : List UInt8) (a : Int) (r' : List UInt8) : addrP (some r) = (a, some r') ↔ (r = textL a ++ r' ∧ 0 ≤ a ∧ a < 4294967296 ∧ noDig r') := by
  constructor
  · intro h
    have hb := addrP_bd (some r)
    rw [h] at hb
    have h1 : (addrP (some r)).1 = a := by rw [h]
    have h2 : (addrP (some r)).2 = some r' := by rw [h]
    unfold addrP at h1 h2
    simp only [addrSt, if_true, show ¬ (1 = 0) by omega, show ¬ (2 = 0) by omega, show ¬ (3 = 0) by omega, if_false, Int.mul_zero, Int.zero_add] at h1 h2
    obtain ⟨r3, e3, f3, a3, b3, n3⟩ := numP_some h2
    rw [signP_iff] at e3
    obtain ⟨r2, e2, f2, a2, b2, n2⟩ := numP_some e3
    rw [signP_iff] at e2
    obtain ⟨r1, e1, f1, a1, b1, n1⟩ := numP_some e2
    rw [signP_iff] at e1
    obtain ⟨r0, e0, f0, a0, b0, n0⟩ := numP_some e1
    simp only [Option.some.injEq] at e0
    subst e0
    generalize (numP 255 (some r)).1 = x0 at *
    generalize (numP 255 (signP 46 (numP 255 (some r)).2)).1 = x1 at *
    generalize (numP 255 (signP 46 (numP 255 (signP 46 (numP 255 (some r)).2)).2)).1 = x2 at *
    generalize (numP 255 (signP 46 (numP 255 (signP 46 (numP 255 (signP 46 (numP 255 (some r)).2)).2)).2)).1 = x3 at *
    refine ⟨?_, by omega, by omega, n3⟩
    have o0 : oct a 0 = a / 16777216 % 256 := rfl
    have o1 : oct a 1 = a / 65536 % 256 := rfl
    have o2 : oct a 2 = a / 256 % 256 := rfl
    have o3 : oct a 3 = a / 1 % 256 := rfl
    rw [text_eq, show oct a 0 = x0 by omega, show oct a 1 = x1 by omega, show oct a 2 = x2 by omega, show oct a 3 = x3 by omega, ← f3, ← f2, ← f1, ← f0]
  · rintro ⟨rfl, h0, h1, h2⟩
    rw [text_eq]
    have b0 := oct_bd a 0; have b1 := oct_bd a 1; have b2 := oct_bd a 2; have b3 := oct_bd a 3
    have c0 := (numP_iff 255 (dec (oct a 0) ++ 46 :: (dec (oct a 1) ++ 46 :: (dec (oct a 2) ++ 46 :: (dec (oct a 3) ++ r')))) (oct a 0) _).2 ⟨rfl, b0.1, by omega, noDig_dot _⟩
    have c1 := (numP_iff 255 (dec (oct a 1) ++ 46 :: (dec (oct a 2) ++ 46 :: (dec (oct a 3) ++ r'))) (oct a 1) _).2 ⟨rfl, b1.1, by omega, noDig_dot _⟩
    have c2 := (numP_iff 255 (dec (oct a 2) ++ 46 :: (dec (oct a 3) ++ r')) (oct a 2) _).2 ⟨rfl, b2.1, by omega, noDig_dot _⟩
    have c3 := (numP_iff 255 (dec (oct a 3) ++ r') (oct a 3) _).2 ⟨rfl, b3.1, by omega, h2⟩
    have s : ∀ x, signP 46 (some (46 :: x)) = some x := fun x => by simp [signP]
    unfold addrP
    simp only [addrSt, if_true, show ¬ (1 = 0) by omega, show ¬ (2 = 0) by omega, show ¬ (3 = 0) by omega, if_false, Int.mul_zero, Int.zero_add, c0, s, c1, c2, c3]
    have o0 : oct a 0 = a / 16777216 % 256 := rfl
    have o1 : oct a 1 = a / 65536 % 256 := rfl
    have o2 : oct a 2 = a / 256 % 256 := rfl
    have o3 : oct a 3 = a / 1 % 256 := rfl
    simp only [Prod.mk.injEq, and_true]
    omega
end Go.Ab
