/- The reference's numerals and numbers, its prefixes by their bounds; its Read of a set: it reads just what the program reads. -/
import Derived.Test.YtgfkcbflnkpogaaGreatDoorAddr2
import Derived.Test.YtgfkcbflnkpogaaGreatDoorInst
import Derived.Deep.RegionHeld3
import Derived.WalkSpells
import Derived.Laws.BytesString
import Derived.Laws.IdiomStrings
import Derived.Test.YtgfkcbflnkpogaaGreatDoorStructEq
import Derived.Test.YtgfkcbflnkpogaaGreatDoorCover
import Derived.Test.YtgfkcbflnkpogaaGreatDoorAddr4
import Derived.Test.YtgfkcbflnkpogaaGreatDoorRound
import Derived.Test.YtgfkcbflnkpogaaGreatDoorCovP
import Derived.Test.YtgfkcbflnkpogaaGreatDoorSpWrP
import Derived.Test.YtgfkcbflnkpogaaGreatDoorSr1
set_option linter.unusedSimpArgs false
set_option linter.unusedVariables false
namespace Go.Proofs.YtgfkcbflnkpogaaGreatDoor
open Go.RowKit Go.Ab

theorem run_byte_cell (w : World) (b : Nat) (c : Int) (hc : w.cell? ⟨b, 0, none⟩ = some (.int .u8 c)) : (convert 125 9 (.slice (some ⟨b, 0, none⟩) 1 1)).run Tryz.prog w = .ok (.string ⟨#[UInt8.ofNat c.toNat]⟩) w := by
  rw [run_convert_bytes_string _ _ _ _ _ _ _ Tryz.underlying125 Tryz.underlying5 Tryz.underlying9]
  have hl := run_loadCells_list (P := Tryz.prog) w ⟨b, 0, none⟩ ([c].map (Value.int .u8)) (fun j v hj => by
    have hj' : j < 1 := by have := (List.getElem?_eq_some_iff.1 hj).1; simpa using this
    obtain rfl : j = 0 := by omega
    simp at hj
    rw [← hj]; simp [Addr.add, hc])
  exact run_bytesToString _ _ 1 1 [c] hl
theorem run_byte_string (w : World) (n : Nat) (c : Int) [h : SizeIs w n] : (convert 125 9 (.slice (some ⟨n, 0, none⟩) 1 1)).run Tryz.prog (w.alloc (.cells #[.int .u8 c] 5)) = .ok (.string ⟨#[UInt8.ofNat c.toNat]⟩) (w.alloc (.cells #[.int .u8 c] 5)) :=
  run_byte_cell _ n c (alloc_at_cellI w n 0 _ _)
theorem run_byte_ext (w : World) (n : Nat) (c : Int) [h : SizeIs w n] (x : Ext (w.alloc (.cells #[.int .u8 c] 5))) : (convert 125 9 (.slice (some ⟨n, 0, none⟩) 1 1)).run Tryz.prog x.w = .ok (.string ⟨#[UInt8.ofNat c.toNat]⟩) x.w :=
  run_byte_cell _ n c ((x.cellI n 0).trans (alloc_at_cellI w n 0 _ _))
theorem run_byte_extd (w : World) (n : Nat) (c : Int) [h : SizeIs w n] (x : Ext (w.alloc (.cells #[.int .u8 c] 5)).drew) : (convert 125 9 (.slice (some ⟨n, 0, none⟩) 1 1)).run Tryz.prog x.w = .ok (.string ⟨#[UInt8.ofNat c.toNat]⟩) x.w :=
  run_byte_cell _ n c ((x.cellI n 0).trans (alloc_at_cellI w n 0 _ _))
theorem run_byte_drew (w : World) (n : Nat) (c : Int) [h : SizeIs w n] : (convert 125 9 (.slice (some ⟨n, 0, none⟩) 1 1)).run Tryz.prog (w.alloc (.cells #[.int .u8 c] 5)).drew = .ok (.string ⟨#[UInt8.ofNat c.toNat]⟩) (w.alloc (.cells #[.int .u8 c] 5)).drew :=
  run_byte_cell _ n c (alloc_at_cellI w n 0 _ _)
attribute [local go_sem] run_byte_drew run_byte_string run_byte_ext run_byte_extd
theorem dec_small (n : Int) (h0 : 0 ≤ n) (h1 : n < 10) : dec n = [UInt8.ofNat (48 + n).toNat] := by
  obtain ⟨u, rfl⟩ := Int.eq_ofNat_of_zero_le h0
  unfold dec
  rw [Lib.itoa_nonneg, Lib.decDigits_one (by omega)]
  congr 2
theorem dec_snoc (n : Int) (h1 : 10 ≤ n) : dec n = dec (n / 10) ++ [UInt8.ofNat (48 + n % 10).toNat] := by
  obtain ⟨u, rfl⟩ := Int.eq_ofNat_of_zero_le (show 0 ≤ n by omega)
  unfold dec
  rw [Lib.itoa_nonneg, show ((u : Int) / 10) = ((u / 10 : Nat) : Int) by omega, Lib.itoa_nonneg, Lib.decDigits, dif_neg (by omega)]
  congr 3

set_option maxHeartbeats 4000000 in
set_option maxRecDepth 100000 in
theorem refDecimal_small (n : Int) (w : World) (h0 : 0 ≤ n) (h1 : n < 10) : Gives Tryz.prog 97 #[.int .i64 n] w (.string ⟨(dec n).toArray⟩) := by
  rw [dec_small n h0 h1]
  unfold Gives
  go_enter Tryz.func97, Tryz.ntmps97
  go_wp2
  go_ret
  exact ⟨rfl, mkI⟩
set_option maxHeartbeats 4000000 in
set_option maxRecDepth 100000 in
theorem refDecimal_upto (m : Nat) : ∀ (n : Int) (w : World), n.toNat ≤ m → 0 ≤ n → n ≤ 9223372036854775807 → Gives Tryz.prog 97 #[.int .i64 n] w (.string ⟨(dec n).toArray⟩) := by
  induction m with
  | zero => intro n w hm h0 h1; exact refDecimal_small n w h0 (by omega)
  | succ m ih =>
    intro n w hm h0 h1
    by_cases hs : n < 10
    · exact refDecimal_small n w h0 hs
    · have e1 : IntKind.i64.wrap (n.tdiv 10) = n / 10 := by rw [Int.tdiv_eq_ediv_of_nonneg h0]; exact IntWalk.i64_in _ (by omega)
      have e2 : n.tmod 10 = n % 10 := Int.tmod_eq_emod_of_nonneg h0
      have e3 : IntKind.i64.wrap (48 + n % 10) = 48 + n % 10 := IntWalk.i64_in _ (by omega)
      have e4 : IntKind.u8.wrap (48 + n % 10) = 48 + n % 10 := by rw [IntKind.wrap_u8]; omega
      have ihq : ∀ w, Gives Tryz.prog 97 #[.int .i64 (n / 10)] w (.string ⟨(dec (n / 10)).toArray⟩) := fun w => ih _ _ (by omega) (by omega) (by omega)
      have l2 := dec_length (n / 10) (by omega) (by omega)
      rw [dec_snoc n (by omega)]
      clear ih hm h1
      unfold Gives
      go_enter Tryz.func97, Tryz.ntmps97
      go_wp2_with fail
      go_region_with (go_at_call 97; refine (ihq _).mono ?_; rintro e w' ⟨rfl, x, rfl⟩)
      all_goals (go_wp2_with fail; go_ret; exact ⟨rfl, mkI⟩)
theorem refDecimal_any (n : Int) (w : World) (h0 : 0 ≤ n) (h1 : n ≤ 9223372036854775807) : Gives Tryz.prog 97 #[.int .i64 n] w (.string ⟨(dec n).toArray⟩) :=
  refDecimal_upto n.toNat n w (Nat.le_refl _) h0 h1
end Go.Proofs.YtgfkcbflnkpogaaGreatDoor
namespace Go.Ab
open Go.Proofs.YtgfkcbflnkpogaaGreatDoor
def isDig (c : UInt8) : Bool := decide (48 ≤ c.toNat) && decide (c.toNat ≤ 57)
/-- The number that some digits are. -/
def valL (l : List UInt8) : Int := l.foldl (fun n c => 10 * n + ((c.toNat : Int) - 48)) 0
theorem valL_snoc (l : List UInt8) (c : UInt8) : valL (l ++ [c]) = 10 * valL l + ((c.toNat : Int) - 48) := by simp [valL]
theorem valL_nil : valL [] = 0 := rfl
theorem snoc_ind {α : Type} {P : List α → Prop} (h0 : P []) (h1 : ∀ l a, P l → P (l ++ [a])) (l : List α) : P l := by
  have : ∀ m : List α, P m.reverse := fun m => by
    induction m with
    | nil => exact h0
    | cons a t ih => rw [List.reverse_cons]; exact h1 _ _ ih
  have := this l.reverse
  rwa [List.reverse_reverse] at this
theorem valL_nonneg (l : List UInt8) (h : ∀ c ∈ l, isDig c = true) : 0 ≤ valL l := by
  induction l using snoc_ind with
  | h0 => simp [valL]
  | h1 l c ih =>
    rw [valL_snoc]
    have := ih (fun x hx => h x (by simp [hx]))
    have hc := h c (by simp)
    unfold isDig at hc; simp at hc; omega
theorem valL_mono (l r : List UInt8) (h : ∀ c ∈ l ++ r, isDig c = true) : valL l ≤ valL (l ++ r) := by
  induction r using snoc_ind with
  | h0 => simp
  | h1 r c ih =>
    rw [← List.append_assoc, valL_snoc]
    have h1 := ih (fun x hx => h x (by rw [← List.append_assoc]; exact List.mem_append_left _ hx))
    have h2 := valL_nonneg l (fun x hx => h x (by simp [hx]))
    have hc := h c (by simp)
    unfold isDig at hc; simp at hc; omega
theorem dec_isDig (n : Int) (h : 0 ≤ n) : ∀ c ∈ dec n, isDig c = true := fun c hc => by
  have := itoa_digit n h c hc
  unfold isDig; simp; omega
theorem u8_dig (d : Int) (h0 : 0 ≤ d) (h1 : d < 10) : ((UInt8.ofNat (48 + d).toNat).toNat : Int) - 48 = d := by
  simp; omega
theorem valL_dec (m : Nat) : ∀ n : Int, n.toNat ≤ m → 0 ≤ n → valL (dec n) = n := by
  induction m with
  | zero => intro n hm h; rw [dec_small n h (by omega)]; simp only [valL, List.foldl]; rw [u8_dig n h (by omega)]; omega
  | succ m ih =>
    intro n hm h
    by_cases hs : n < 10
    · rw [dec_small n h hs]; simp only [valL, List.foldl]; rw [u8_dig n h hs]; omega
    · rw [dec_snoc n (by omega), valL_snoc, ih (n / 10) (by omega) (by omega), u8_dig _ (by omega) (by omega)]; omega
theorem val_dec (n : Int) (h : 0 ≤ n) : valL (dec n) = n := valL_dec n.toNat n (Nat.le_refl _) h
theorem dec_ne (n : Int) (h : 0 ≤ n) : dec n ≠ [] := by
  obtain ⟨u, rfl⟩ := Int.eq_ofNat_of_zero_le h
  unfold dec; rw [Lib.itoa_nonneg]; exact decDigits_ne u
/-- No needless 0 ahead. -/
def plainB : List UInt8 → Bool
  | [] => false
  | c :: r => !(c == 48 && !r.isEmpty)
theorem plainB_snoc (c : UInt8) (l : List UInt8) (a : UInt8) : plainB ((c :: l) ++ [a]) = !(c == 48) := by simp [plainB]
theorem dec_plain (m : Nat) : ∀ n : Int, n.toNat ≤ m → 0 ≤ n → plainB (dec n) = true ∧ (1 ≤ n → ∃ c r, dec n = c :: r ∧ c ≠ 48) := by
  induction m with
  | zero =>
    intro n hm h
    rw [dec_small n h (by omega)]
    exact ⟨by simp [plainB], fun h1 => by omega⟩
  | succ m ih =>
    intro n hm h
    by_cases hs : n < 10
    · rw [dec_small n h hs]
      refine ⟨by simp [plainB], fun h1 => ⟨_, _, rfl, fun e => ?_⟩⟩
      have := congrArg UInt8.toNat e
      simp at this; omega
    · obtain ⟨_, i2⟩ := ih (n / 10) (by omega) (by omega)
      obtain ⟨c, r, e, hc⟩ := i2 (by omega)
      rw [dec_snoc n (by omega), e]
      exact ⟨by rw [plainB_snoc]; simp [hc], fun _ => ⟨c, r ++ [_], rfl, hc⟩⟩
/-- Digits without a needless 0 are the numeral of their number. -/
theorem dec_val (l : List UInt8) : (∀ c ∈ l, isDig c = true) → plainB l = true → dec (valL l) = l ∧ ((∃ c r, l = c :: r ∧ c ≠ 48) → 1 ≤ valL l) := by
  induction l using snoc_ind with
  | h0 => intro _ h; cases h
  | h1 l c ih =>
    intro hd hp
    have hc := hd c (by simp)
    have hc2 : 48 ≤ c.toNat ∧ c.toNat ≤ 57 := by unfold isDig at hc; simpa using hc
    have hl := valL_nonneg l (fun x hx => hd x (by simp [hx]))
    rw [valL_snoc]
    cases l with
    | nil =>
      rw [valL_nil]
      refine ⟨?_, ?_⟩
      · rw [dec_small _ (by omega) (by omega)]
        simp only [List.nil_append, List.cons.injEq, and_true]
        apply UInt8.toNat_inj.1
        simp; omega
      · rintro ⟨c', r, e, hne⟩
        simp at e
        obtain ⟨rfl, _⟩ := e
        have : c.toNat ≠ 48 := fun e => hne (UInt8.toNat_inj.1 e)
        omega
    | cons c0 r =>
      rw [plainB_snoc] at hp
      have hc0 : c0 ≠ 48 := by simpa using hp
      obtain ⟨i1, i2⟩ := ih (fun x hx => hd x (by simp only [List.mem_append]; exact .inl hx)) (by simp [plainB, hc0])
      have h1 := i2 ⟨c0, r, rfl, hc0⟩
      refine ⟨?_, fun _ => by omega⟩
      rw [dec_snoc _ (by omega), show (10 * valL (c0 :: r) + ((c.toNat : Int) - 48)) / 10 = valL (c0 :: r) by omega, i1]
      congr 2
      apply UInt8.toNat_inj.1
      simp; omega
/-- The digits at the head, and what follows. -/
def digs (r : List UInt8) : List UInt8 := r.takeWhile isDig
def after (r : List UInt8) : List UInt8 := r.dropWhile isDig
theorem digs_after (r : List UInt8) : digs r ++ after r = r := List.takeWhile_append_dropWhile
theorem digs_dig (r : List UInt8) : ∀ c ∈ digs r, isDig c = true := by
  induction r with
  | nil => simp [digs]
  | cons a t ih =>
    unfold digs
    rw [List.takeWhile_cons]
    split
    · rename_i h
      intro c hc
      rcases List.mem_cons.1 hc with rfl | hc
      · exact h
      · exact ih c hc
    · simp
/-- No digit at the head. -/
def noDig : List UInt8 → Prop
  | [] => True
  | c :: _ => isDig c = false
theorem after_no (r : List UInt8) : noDig (after r) := by
  induction r with
  | nil => trivial
  | cons a t ih =>
    unfold after
    rw [List.dropWhile_cons]
    split
    · exact ih
    · rename_i h; simpa [noDig] using h
theorem digs_app (x r : List UInt8) (hx : ∀ c ∈ x, isDig c = true) (hr : noDig r) : digs (x ++ r) = x ∧ after (x ++ r) = r := by
  induction x with
  | nil =>
    cases r with
    | nil => exact ⟨rfl, rfl⟩
    | cons a t =>
      have : isDig a = false := hr
      exact ⟨by simp [digs, this], by simp [after, this]⟩
  | cons a t ih =>
    obtain ⟨i1, i2⟩ := ih (fun c hc => hx c (List.mem_cons_of_mem _ hc))
    have ha := hx a (by simp)
    unfold digs after at *
    simp only [List.cons_append, List.takeWhile_cons, List.dropWhile_cons, ha, if_true, i1, i2, and_self]
/-- A number from a place on: none if it is too great, or has a needless 0. -/
def numP (most : Int) : Option (List UInt8) → Int × Option (List UInt8)
  | none => (0, none)
  | some r => if plainB (digs r) && decide (valL (digs r) ≤ most) then (valL (digs r), some (after r)) else (0, none)
theorem numP_eq (most : Int) (r : List UInt8) : numP most (some r) = if plainB (digs r) && decide (valL (digs r) ≤ most) then (valL (digs r), some (after r)) else (0, none) := rfl
theorem numP_iff (most : Int) (r : List UInt8) (n : Int) (r' : List UInt8) : numP most (some r) = (n, some r') ↔ (r = dec n ++ r' ∧ 0 ≤ n ∧ n ≤ most ∧ noDig r') := by
  rw [numP_eq]
  constructor
  · intro h
    split at h
    · rename_i hk
      simp only [Bool.and_eq_true, decide_eq_true_eq] at hk
      simp only [Prod.mk.injEq, Option.some.injEq] at h
      obtain ⟨rfl, rfl⟩ := h
      refine ⟨?_, valL_nonneg _ (digs_dig r), hk.2, after_no r⟩
      rw [(dec_val (digs r) (digs_dig r) hk.1).1, digs_after]
    · simp at h
  · rintro ⟨rfl, h0, h1, h2⟩
    obtain ⟨e1, e2⟩ := digs_app (dec n) r' (dec_isDig n h0) h2
    rw [e1, e2, val_dec n h0]
    simp [(dec_plain n.toNat n (Nat.le_refl _) h0).1, h1]
theorem numP_bd (most : Int) (hm : 0 ≤ most) (o : Option (List UInt8)) : 0 ≤ (numP most o).1 ∧ (numP most o).1 ≤ most := by
  cases o with
  | none => simp [numP, hm]
  | some r =>
    rw [numP_eq]
    split
    · rename_i hk
      simp only [Bool.and_eq_true, decide_eq_true_eq] at hk
      exact ⟨valL_nonneg _ (digs_dig r), hk.2⟩
    · simp [hm]
theorem numP_suf (most : Int) (r r' : List UInt8) (n : Int) (h : numP most (some r) = (n, some r')) : r' <:+ r := by
  have := (numP_iff most r n r').1 h
  exact ⟨dec n, this.1.symm⟩
def signP (c : UInt8) : Option (List UInt8) → Option (List UInt8)
  | some (b :: r) => if b = c then some r else none
  | _ => none
theorem signP_iff (c : UInt8) (o : Option (List UInt8)) (r : List UInt8) : signP c o = some r ↔ o = some (c :: r) := by
  match o with
  | none => simp [signP]
  | some [] => simp [signP]
  | some (b :: t) => simp only [signP]; split <;> simp_all
/-- The state of the reading of an address before the number k: what is read, and the place. -/
def addrSt (o : Option (List UInt8)) : Nat → Int × Option (List UInt8)
  | 0 => (0, o)
  | k + 1 =>
    let p := if k = 0 then (addrSt o k).2 else signP 46 (addrSt o k).2
    (256 * (addrSt o k).1 + (numP 255 p).1, (numP 255 p).2)
def addrP (o : Option (List UInt8)) : Int × Option (List UInt8) := addrSt o 4
theorem addrSt_bd (o : Option (List UInt8)) : ∀ k, 0 ≤ (addrSt o k).1 ∧ (addrSt o k).1 < 256 ^ k
  | 0 => by simp [addrSt]
  | k + 1 => by
    have ih := addrSt_bd o k
    simp only [addrSt]
    have h := numP_bd 255 (by omega) (if k = 0 then (addrSt o k).2 else signP 46 (addrSt o k).2)
    have : (256 : Int) ^ (k + 1) = 256 * 256 ^ k := by rw [Int.pow_succ, Int.mul_comm]
    omega
theorem addrP_bd (o : Option (List UInt8)) : 0 ≤ (addrP o).1 ∧ (addrP o).1 < 4294967296 := by
  have := addrSt_bd o 4
  simpa [addrP] using this
theorem noDig_dot (r : List UInt8) : noDig (46 :: r) := by simp [noDig, isDig]
theorem text_eq (a : Int) (r : List UInt8) : textL a ++ r = dec (oct a 0) ++ 46 :: (dec (oct a 1) ++ 46 :: (dec (oct a 2) ++ 46 :: (dec (oct a 3) ++ r))) := by
  unfold textL; simp [Lib.join]
theorem pair_eta {α β : Type} (p : α × β) : p = (p.1, p.2) := rfl
theorem numP_none (most : Int) : numP most none = (0, none) := rfl
theorem numP_some {most : Int} {o : Option (List UInt8)} {r' : List UInt8} (h : (numP most o).2 = some r') : ∃ r, o = some r ∧ r = dec (numP most o).1 ++ r' ∧ 0 ≤ (numP most o).1 ∧ (numP most o).1 ≤ most ∧ noDig r' := by
  cases o with
  | none => simp [numP] at h
  | some r => exact ⟨r, rfl, (numP_iff most r _ r').1 (by rw [← h])⟩
theorem addrP_iff (r : List UInt8) (a : Int) (r' : List UInt8) : addrP (some r) = (a, some r') ↔ (r = textL a ++ r' ∧ 0 ≤ a ∧ a < 4294967296 ∧ noDig r') := by
  constructor
  · intro h
    have hb := addrP_bd (some r)
    rw [h] at hb
    have h1 : (addrP (some r)).1 = a := by rw [h]
    have h2 : (addrP (some r)).2 = some r' := by rw [h]
    unfold addrP at h1 h2
    simp only [addrSt, if_true, show ¬ (1 = 0) by omega, show ¬ (2 = 0) by omega, show ¬ (3 = 0) by omega, if_false, Int.mul_zero, Int.zero_add] at h1 h2
    obtain ⟨r3, e3, f3, a3, b3, n3⟩ := numP_some h2
    rw [signP_iff] at e3
    obtain ⟨r2, e2, f2, a2, b2, n2⟩ := numP_some e3
    rw [signP_iff] at e2
    obtain ⟨r1, e1, f1, a1, b1, n1⟩ := numP_some e2
    rw [signP_iff] at e1
    obtain ⟨r0, e0, f0, a0, b0, n0⟩ := numP_some e1
    simp only [Option.some.injEq] at e0
    subst e0
    generalize (numP 255 (some r)).1 = x0 at *
    generalize (numP 255 (signP 46 (numP 255 (some r)).2)).1 = x1 at *
    generalize (numP 255 (signP 46 (numP 255 (signP 46 (numP 255 (some r)).2)).2)).1 = x2 at *
    generalize (numP 255 (signP 46 (numP 255 (signP 46 (numP 255 (signP 46 (numP 255 (some r)).2)).2)).2)).1 = x3 at *
    refine ⟨?_, by omega, by omega, n3⟩
    have o0 : oct a 0 = a / 16777216 % 256 := rfl
    have o1 : oct a 1 = a / 65536 % 256 := rfl
    have o2 : oct a 2 = a / 256 % 256 := rfl
    have o3 : oct a 3 = a / 1 % 256 := rfl
    rw [text_eq, show oct a 0 = x0 by omega, show oct a 1 = x1 by omega, show oct a 2 = x2 by omega, show oct a 3 = x3 by omega, ← f3, ← f2, ← f1, ← f0]
  · rintro ⟨rfl, h0, h1, h2⟩
    rw [text_eq]
    have b0 := oct_bd a 0; have b1 := oct_bd a 1; have b2 := oct_bd a 2; have b3 := oct_bd a 3
    have c0 := (numP_iff 255 (dec (oct a 0) ++ 46 :: (dec (oct a 1) ++ 46 :: (dec (oct a 2) ++ 46 :: (dec (oct a 3) ++ r')))) (oct a 0) _).2 ⟨rfl, b0.1, by omega, noDig_dot _⟩
    have c1 := (numP_iff 255 (dec (oct a 1) ++ 46 :: (dec (oct a 2) ++ 46 :: (dec (oct a 3) ++ r'))) (oct a 1) _).2 ⟨rfl, b1.1, by omega, noDig_dot _⟩
    have c2 := (numP_iff 255 (dec (oct a 2) ++ 46 :: (dec (oct a 3) ++ r')) (oct a 2) _).2 ⟨rfl, b2.1, by omega, noDig_dot _⟩
    have c3 := (numP_iff 255 (dec (oct a 3) ++ r') (oct a 3) _).2 ⟨rfl, b3.1, by omega, h2⟩
    have s : ∀ x, signP 46 (some (46 :: x)) = some x := fun x => by simp [signP]
    unfold addrP
    simp only [addrSt, if_true, show ¬ (1 = 0) by omega, show ¬ (2 = 0) by omega, show ¬ (3 = 0) by omega, if_false, Int.mul_zero, Int.zero_add, c0, s, c1, c2, c3]
    have o0 : oct a 0 = a / 16777216 % 256 := rfl
    have o1 : oct a 1 = a / 65536 % 256 := rfl
    have o2 : oct a 2 = a / 256 % 256 := rfl
    have o3 : oct a 3 = a / 1 % 256 := rfl
    simp only [Prod.mk.injEq, and_true]
    omega
end Go.Ab
namespace Go.Ab
/-- A place in a string: how much is left; -1: none. -/
def atOf (l : List UInt8) : Option (List UInt8) → Int
  | none => -1
  | some r => (l.length : Int) - r.length
def Suf (l : List UInt8) (o : Option (List UInt8)) : Prop := ∀ r, o = some r → r <:+ l
theorem suf_drop {l r : List UInt8} (h : r <:+ l) : ∃ k, k ≤ l.length ∧ r = l.drop k := by
  obtain ⟨t, rfl⟩ := h
  exact ⟨t.length, by simp, by simp⟩
theorem atOf_drop (l : List UInt8) (k : Nat) (h : k ≤ l.length) : atOf l (some (l.drop k)) = k := by simp [atOf]; omega
theorem mk_get (l : List UInt8) (k : Nat) (h : k < (ByteArray.mk l.toArray).size) : (ByteArray.mk l.toArray)[k]'h = l[k]'(show k < l.length from h) := rfl
theorem drop_at (l : List UInt8) (k : Nat) (h : k < l.length) : l.drop k = l[k] :: l.drop (k + 1) := List.drop_eq_getElem_cons h
theorem suf_sign {l : List UInt8} {o : Option (List UInt8)} (c : UInt8) (h : Suf l o) : Suf l (signP c o) := fun r hr => by
  rw [signP_iff] at hr
  exact (List.suffix_cons c r).trans (h _ hr)
theorem suf_num {l : List UInt8} {o : Option (List UInt8)} (most : Int) (h : Suf l o) : Suf l (numP most o).2 := fun r hr => by
  obtain ⟨r0, rfl, e, _⟩ := numP_some hr
  exact (List.suffix_append _ r).trans (e ▸ h _ rfl)
theorem suf_self (l : List UInt8) : Suf l (some l) := fun r h => by cases h; exact List.suffix_refl l
theorem suf_addrSt {l : List UInt8} {o : Option (List UInt8)} (h : Suf l o) : ∀ k, Suf l (addrSt o k).2
  | 0 => h
  | k + 1 => by
    simp only [addrSt]
    split
    · exact suf_num _ (suf_addrSt h k)
    · exact suf_num _ (suf_sign _ (suf_addrSt h k))
theorem suf_addr {l : List UInt8} {o : Option (List UInt8)} (h : Suf l o) : Suf l (addrP o).2 := suf_addrSt h 4
theorem atOf_len (l : List UInt8) (o : Option (List UInt8)) : (atOf l o = l.length) ↔ o = some [] := by
  cases o with
  | none => simp [atOf]
  | some r =>
    simp only [atOf, Option.some.injEq]
    constructor
    · intro h; exact List.eq_nil_of_length_eq_zero (by omega)
    · intro h; subst h; simp
theorem atOf_bd {l : List UInt8} {o : Option (List UInt8)} (h : Suf l o) : -1 ≤ atOf l o ∧ atOf l o ≤ l.length := by
  cases o with
  | none => simp [atOf]
  | some r => have := (h r rfl).length_le; simp only [atOf]; omega
end Go.Ab
namespace Go.Ab
open Go.Proofs.YtgfkcbflnkpogaaGreatDoor
theorem refText_eq (a : Int) (a0 : 0 ≤ a) (a1 : a < 4294967296) : dec (a / 16777216) ++ [46] ++ dec (a / 65536 % 256) ++ [46] ++ dec (a / 256 % 256) ++ [46] ++ dec (a % 256) = textL a := by
  have o0 : oct a 0 = a / 16777216 % 256 := rfl
  have o1 : oct a 1 = a / 65536 % 256 := rfl
  have o2 : oct a 2 = a / 256 % 256 := rfl
  have o3 : oct a 3 = a / 1 % 256 := rfl
  unfold textL
  rw [o0, o1, o2, o3, Int.ediv_one, show a / 16777216 % 256 = a / 16777216 by omega]
  simp [Lib.join]
theorem dvd_le_mult {a s b : Int} (hs : 0 < s) (ha : a % s = 0) (hb : b % s = 0) (h : a < b) : a + s ≤ b := by
  obtain ⟨p, rfl⟩ := Int.dvd_of_emod_eq_zero ha
  obtain ⟨q, rfl⟩ := Int.dvd_of_emod_eq_zero hb
  have h1 : p < q := by
    rcases Int.lt_or_le p q with h1 | h1
    · exact h1
    · have := Int.mul_le_mul_of_nonneg_left h1 (Int.le_of_lt hs); omega
  have := Int.mul_le_mul_of_nonneg_left (show p + 1 ≤ q by omega) (Int.le_of_lt hs)
  rw [Int.mul_add, Int.mul_one] at this; omega
theorem sz_dvd {n m : Int} (h0 : 0 ≤ m) (h : m ≤ n) : sz n ∣ sz m := by
  unfold sz; exact pow_dvd (by omega)
theorem sz_lt {n m : Int} (h0 : 0 ≤ n) (h : n < m) (hm : m ≤ 32) : sz m < sz n := by
  have h1 := sz_half m (by omega) hm
  have h2 := sz_pos m
  have h3 := Int.le_of_dvd (by have := sz_pos n; omega) (sz_dvd (n := m - 1) (m := n) h0 (by omega))
  omega
theorem right_parts {a n : Int} (h : rightB a n = true) : n ≤ 32 ∧ a % sz n = 0 := by simpa [rightB] using h
theorem ref_inside {a n b m : Int} (n0 : 0 ≤ n) (m0 : 0 ≤ m) (h : rightB a n = true) : (hasB b m a && hasB b m (a + (sz n - 1))) = insideB a n b m := by
  unfold insideB
  rw [h, Bool.true_and]
  cases hb : rightB b m
  · have : ∀ x, hasB b m x = false := fun x => by unfold hasB; rw [hb]; rfl
    rw [this, this]; simp
  · obtain ⟨hn, ha⟩ := right_parts h
    obtain ⟨hm, hbm⟩ := right_parts hb
    have hs := sz_pos n; have ht := sz_pos m
    rw [hasB_iff hb, hasB_iff hb, Bool.eq_iff_iff]
    simp only [Bool.and_eq_true, decide_eq_true_eq]
    constructor
    · rintro ⟨⟨h1, h2⟩, h3, h4⟩
      refine ⟨?_, h1, h2⟩
      rcases Int.lt_or_le n m with hlt | hle
      · have := sz_lt n0 hlt hm; omega
      · exact hle
    · rintro ⟨hle, h1, h2⟩
      refine ⟨⟨h1, h2⟩, by omega, ?_⟩
      have hd := sz_dvd m0 hle
      have hb2 : (b + sz m) % sz n = 0 := Int.emod_eq_zero_of_dvd (Int.dvd_add (Int.dvd_trans hd (Int.dvd_of_emod_eq_zero hbm)) hd)
      have := dvd_le_mult (by omega) ha hb2 (by omega)
      omega
theorem ref_meet {a n b m : Int} (n0 : 0 ≤ n) (m0 : 0 ≤ m) (h : rightB a n = true) (hb : rightB b m = true) : (decide (a ≤ b + (sz m - 1)) && decide (b ≤ a + (sz n - 1))) = meetB a n b m := by
  unfold meetB insideB
  rw [h, hb, Bool.true_and, Bool.true_and, hasB_iff hb, hasB_iff h, Bool.eq_iff_iff]
  simp only [Bool.and_eq_true, Bool.or_eq_true, decide_eq_true_eq]
  obtain ⟨hn, ha⟩ := right_parts h
  obtain ⟨hm, hbm⟩ := right_parts hb
  have hs := sz_pos n; have ht := sz_pos m
  constructor
  · rintro ⟨h1, h2⟩
    rcases Int.le_total m n with hle | hle
    · left
      refine ⟨hle, ?_, h1⟩
      rcases Int.lt_or_le a b with hlt | hge
      · have := dvd_le_mult (by omega) ha (Int.emod_eq_zero_of_dvd (Int.dvd_trans (sz_dvd m0 hle) (Int.dvd_of_emod_eq_zero hbm))) hlt; omega
      · exact hge
    · right
      refine ⟨hle, ?_, h2⟩
      rcases Int.lt_or_le b a with hlt | hge
      · have := dvd_le_mult (by omega) hbm (Int.emod_eq_zero_of_dvd (Int.dvd_trans (sz_dvd n0 hle) (Int.dvd_of_emod_eq_zero ha))) hlt; omega
      · exact hge
  · rintro (⟨_, h1, h2⟩ | ⟨_, h1, h2⟩) <;> omega
end Go.Ab
namespace Go.Proofs.YtgfkcbflnkpogaaGreatDoor
open Go.RowKit Go.Ab
attribute [local go_sem high] eq_prefix
theorem szN (n : Int) (h0 : 0 ≤ n) : 1 ≤ sz n ∧ sz n ≤ 4294967296 := ⟨sz_pos n, sz_le n h0⟩
set_option maxHeartbeats 4000000 in
set_option maxRecDepth 100000 in
theorem refSize_any (n : Int) (w : World) (h0 : 0 ≤ n) (h1 : n < 256) : Gives Tryz.prog 119 #[.int .u8 n] w (.int .i64 (sz n)) := by
  unfold Gives
  go_enter Tryz.func119, Tryz.ntmps119
  go_wp2_with fail
  go_loopw [3, 4] (fun o i wr => ∃ (o' i' : Int), o = .int .i64 o' ∧ i = .int .u8 i' ∧ 0 ≤ i' ∧ i' < 256 ∧ 1 ≤ o' ∧ o' ≤ 4294967296 ∧ Hid (o' * sz i' = sz n) ∧ wr = w) (fun _ i _ => 256 - (intOf i).toNat)
  case atStart => exact ⟨1, n, rfl, rfl, h0, h1, by omega, by omega, Lib.hid (by omega), rfl⟩
  case round =>
    obtain ⟨o', i', rfl, rfl, i0, i1, o0, o1, Ho, rfl⟩ := hrel
    by_cases hi : i' < 32
    · have hh := sz_half (i' + 1) (by omega) (by omega)
      rw [Int.add_sub_cancel] at hh
      have hp := sz_pos (i' + 1)
      have hn := sz_le n h0
      have hm : o' * 2 ≤ 4294967296 := by
        have h2 := Ho.out
        rw [hh, ← Int.mul_assoc] at h2
        have := Int.mul_le_mul_of_nonneg_left hp (show 0 ≤ o' * 2 by omega)
        omega
      have Hn : Hid (o' * 2 * sz (i' + 1) = sz n) := Lib.hid (by rw [Int.mul_assoc, ← hh]; exact Ho.out)
      clear hh hp hn
      go_wp2
      go_roundw
      case rel => exact ⟨o' * 2, i' + 1, by go_num, by go_num, by omega, by omega, by omega, by omega, Hn, trivial⟩
      case measure => simp [intOf]; omega
    · have hs := sz_big i' (by omega)
      have e : o' = sz n := by have := Ho.out; rw [hs] at this; omega
      subst e
      clear hs
      go_wp2
      go_ret
      exact ⟨rfl, mkI⟩
set_option maxHeartbeats 4000000 in
set_option maxRecDepth 100000 in
theorem refRight_any (a n : Int) (w : World) (h0 : 0 ≤ n) (h1 : n < 256) (a0 : 0 ≤ a) (a1 : a < 4294967296) : Gives Tryz.prog 118 #[.agg #[.int .u32 a, .int .u8 n]] w (.bool (rightB a n)) := by
  unfold Gives
  obtain ⟨s0, s1⟩ := szN n h0
  by_cases h : n ≤ 32
  · have e : rightB a n = (a % sz n == 0) := by simp [rightB, h]
    have E := Lib.hid e
    have em : a.tmod (sz n) = a % sz n := Int.tmod_eq_emod_of_nonneg a0
    clear e
    go_enter Tryz.func118, Tryz.ntmps118
    go_wp2_with fail
    (refine wp_region_ext (by kernel_rfl) (by kernel_rfl) ?_; (repeat (go_big_quiet_step ((go_at_call 119; exact (refSize_any _ _ h0 h1).ext)))); refine wpQuiet_nil ?_; rintro _ ⟨y, rfl⟩)
    go_wp2
    go_ret
    exact ⟨ret_bool E.out.symm, mkI⟩
  · have hd : decide (n ≤ 32) = false := by simpa using h
    have E : Hid (rightB a n = false) := Lib.hid (by simp [rightB, hd])
    go_enter Tryz.func118, Tryz.ntmps118
    go_wp2_with fail
    (refine wp_region_ext (by kernel_rfl) (by kernel_rfl) ?_; (repeat (go_big_quiet_step ((go_at_call 119; exact (refSize_any _ _ h0 h1).ext)))); refine wpQuiet_nil ?_; rintro _ ⟨y, rfl⟩)
    go_wp2
    go_ret
    exact ⟨ret_bool E.out.symm, mkI⟩
set_option maxHeartbeats 4000000 in
set_option maxRecDepth 100000 in
theorem refBounds_any (a n : Int) (w : World) (h0 : 0 ≤ n) (h1 : n < 256) (a0 : 0 ≤ a) (a1 : a < 4294967296) : Gives Tryz.prog 92 #[.agg #[.int .u32 a, .int .u8 n]] w
    (if rightB a n then .tuple #[.int .u32 a, .int .u32 (a + (sz n - 1)), .int .i64 0] else .tuple #[.int .u32 0, .int .u32 0, .int .i64 31]) := by
  unfold Gives
  obtain ⟨s0, s1⟩ := szN n h0
  have hr := fun w => refRight_any a n w h0 h1 a0 a1
  cases hrb : rightB a n
  · rw [hrb] at hr
    clear hrb
    go_enter Tryz.func92, Tryz.ntmps92
    go_wp2_with (go_at_call 118; refine (hr _).mono ?_; rintro e w' ⟨rfl, x, rfl⟩)
    go_ret3
    exact ⟨rfl, mkI⟩
  · rw [hrb] at hr
    have hb : a + sz n ≤ 4294967296 := by
      obtain ⟨hn, hd⟩ := right_parts hrb
      have e : (4294967296 : Int) % sz n = 0 := by
        have := sz_mul n h0 hn
        exact Int.emod_eq_zero_of_dvd ⟨_, this.symm⟩
      exact dvd_le_mult (by omega) hd e a1
    have e1 : IntKind.i64.wrap (a + sz n) = a + sz n := IntWalk.i64_in _ (by omega)
    have e2 : IntKind.i64.wrap (a + sz n - 1) = a + (sz n - 1) := by rw [IntWalk.i64_in _ (by omega)]; omega
    have e3 : IntKind.u32.wrap (a + (sz n - 1)) = a + (sz n - 1) := by rw [IntKind.wrap_u32]; omega
    clear hrb
    go_enter Tryz.func92, Tryz.ntmps92
    go_wp2_with (go_at_call 118; refine (hr _).mono ?_; rintro e w' ⟨rfl, x, rfl⟩)
    (refine wp_region_ext (by kernel_rfl) (by kernel_rfl) ?_; (repeat (go_big_quiet_step ((go_at_call 119; exact (refSize_any _ _ h0 h1).ext)))); refine wpQuiet_nil ?_; rintro _ ⟨y, rfl⟩)
    go_wp2
    go_ret3
    exact ⟨rfl, mkI⟩
end Go.Proofs.YtgfkcbflnkpogaaGreatDoor
namespace Go.Ab
open Go.RowKit
theorem joinTail_cons44 (y : List UInt8) (l : List (List UInt8)) : Lib.joinTail [44] (y :: l) = 44 :: (y ++ Lib.joinTail [44] l) := by simp [Lib.joinTail]
theorem joinTail_app44 (a b : List (List UInt8)) : Lib.joinTail [44] (a ++ b) = Lib.joinTail [44] a ++ Lib.joinTail [44] b := by simp [Lib.joinTail]
theorem textS_cons (x : Sp) (s : List Sp) : textS (x :: s) = spanT x ++ Lib.joinTail [44] (s.map spanT) := by
  unfold textS; rw [List.map_cons, Lib.join_cons]
theorem textS_app (a b : List Sp) (ha : a ≠ []) : textS (a ++ b) = textS a ++ Lib.joinTail [44] (b.map spanT) := by
  cases a with
  | nil => exact absurd rfl ha
  | cons x a => rw [List.cons_append, textS_cons, textS_cons, List.map_append, joinTail_app44, List.append_assoc]
theorem noDig_tail (l : List (List UInt8)) : noDig (Lib.joinTail [44] l) := by
  cases l with
  | nil => trivial
  | cons y l => rw [joinTail_cons44]; show isDig 44 = false; decide
theorem head_tail (l : List (List UInt8)) : (Lib.joinTail [44] l).head? ≠ some 45 := by
  cases l with
  | nil => simp [Lib.joinTail]
  | cons y l => rw [joinTail_cons44]; simp
def numS (r : List UInt8) : Int × Option (List UInt8) := numP 4294967295 (some r)
theorem numS_iff (r : List UInt8) (n : Int) (r' : List UInt8) : numS r = (n, some r') ↔ (r = dec n ++ r' ∧ 0 ≤ n ∧ n ≤ 4294967295 ∧ noDig r') := numP_iff 4294967295 r n r'
theorem numS_bd (r : List UInt8) : 0 ≤ (numS r).1 ∧ (numS r).1 ≤ 4294967295 := numP_bd 4294967295 (by decide) (some r)
/-- One span of a text, as the reference reads it. -/
def itemP (r : List UInt8) : Option (Sp × List UInt8) :=
  match (numS r).2 with
  | none => none
  | some r1 => if r1.head? = some 45 then
      match (numS r1.tail).2 with
      | none => none
      | some r3 => if (numS r1.tail).1 ≤ (numS r).1 then none else some (((numS r).1, (numS r1.tail).1), r3)
    else some (((numS r).1, (numS r).1), r1)
theorem itemP_none {r : List UInt8} (h : (numS r).2 = none) : itemP r = none := by unfold itemP; rw [h]
theorem itemP_one {r r1 : List UInt8} (h : (numS r).2 = some r1) (h45 : r1.head? ≠ some 45) : itemP r = some (((numS r).1, (numS r).1), r1) := by unfold itemP; rw [h]; dsimp only; rw [if_neg h45]
theorem itemP_bad {r r1 : List UInt8} (h : (numS r).2 = some (45 :: r1)) (h2 : (numS r1).2 = none) : itemP r = none := by unfold itemP; rw [h]; dsimp only; rw [if_pos (show (45 :: r1).head? = some 45 from rfl), List.tail_cons, h2]
theorem itemP_low {r r1 r3 : List UInt8} (h : (numS r).2 = some (45 :: r1)) (h2 : (numS r1).2 = some r3) (hl : (numS r1).1 ≤ (numS r).1) : itemP r = none := by unfold itemP; rw [h]; dsimp only; rw [if_pos (show (45 :: r1).head? = some 45 from rfl), List.tail_cons, h2]; dsimp only; rw [if_pos hl]
theorem itemP_two {r r1 r3 : List UInt8} (h : (numS r).2 = some (45 :: r1)) (h2 : (numS r1).2 = some r3) (hl : ¬ (numS r1).1 ≤ (numS r).1) : itemP r = some (((numS r).1, (numS r1).1), r3) := by unfold itemP; rw [h]; dsimp only; rw [if_pos (show (45 :: r1).head? = some 45 from rfl), List.tail_cons, h2]; dsimp only; rw [if_neg hl]
theorem item_mk (x : Sp) (r : List UInt8) (hb : SpB x) (hl : x.1 ≤ x.2) (hn : noDig r) (h45 : r.head? ≠ some 45) : itemP (spanT x ++ r) = some (x, r) := by
  obtain ⟨f0, f1, t0, t1⟩ := hb
  unfold spanT
  by_cases h : x.1 < x.2
  · rw [if_pos h, List.append_assoc, List.cons_append]
    have e1 := (numS_iff (dec x.1 ++ 45 :: (dec x.2 ++ r)) x.1 (45 :: (dec x.2 ++ r))).2 ⟨rfl, f0, by omega, by show isDig 45 = false; decide⟩
    have e2 := (numS_iff (dec x.2 ++ r) x.2 r).2 ⟨rfl, t0, by omega, hn⟩
    rw [itemP_two (r1 := dec x.2 ++ r) (r3 := r) (by rw [e1]) (by rw [e2]) (by rw [e1, e2]; simp only; omega), e1, e2]
  · rw [if_neg h, List.append_nil]
    have e1 := (numS_iff (dec x.1 ++ r) x.1 r).2 ⟨rfl, f0, by omega, hn⟩
    rw [itemP_one (r1 := r) (by rw [e1]) h45, e1]
    have : x.1 = x.2 := by omega
    rw [show ((x.1, x.1) : Sp) = x from Prod.ext rfl this]
theorem item_some {r r' : List UInt8} {x : Sp} (h : itemP r = some (x, r')) : r = spanT x ++ r' ∧ SpB x ∧ x.1 ≤ x.2 := by
  unfold itemP at h
  split at h
  · cases h
  · rename_i r1 h1
    obtain ⟨a1, a2, a3, a4⟩ := (numS_iff r (numS r).1 r1).1 (Prod.ext rfl h1)
    split at h
    · rename_i h45
      split at h
      · cases h
      · rename_i r3 h3
        obtain ⟨b1, b2, b3, b4⟩ := (numS_iff r1.tail (numS r1.tail).1 r3).1 (Prod.ext rfl h3)
        split at h
        · cases h
        · rename_i hlt
          simp only [Option.some.injEq, Prod.mk.injEq] at h
          obtain ⟨rfl, rfl⟩ := h
          have e1 : r1 = 45 :: r1.tail := by
            cases r1 with
            | nil => simp at h45
            | cons c t => simp only [List.head?_cons, Option.some.injEq] at h45; rw [h45]; rfl
          refine ⟨?_, ⟨a2, by simp only; omega, b2, by simp only; omega⟩, by simp only; omega⟩
          unfold spanT
          rw [if_pos (by simp only; omega)]
          simp only [List.append_assoc, List.cons_append]
          rw [← b1, ← e1]
          exact a1
    · simp only [Option.some.injEq, Prod.mk.injEq] at h
      obtain ⟨rfl, rfl⟩ := h
      refine ⟨?_, ⟨a2, by simp only; omega, a2, by simp only; omega⟩, Int.le_refl _⟩
      unfold spanT
      rw [if_neg (by simp), List.append_nil]
      exact a1
/-- What is read so far, and what is left. -/
structure RInv (t : List UInt8) (out : List Sp) (r : List UInt8) : Prop where
  txt : t = textS out ++ r
  ok : ∀ x ∈ out, SpB x ∧ x.1 ≤ x.2
  all : ∀ s, rightS s = true → (∀ x ∈ s, SpB x) → textS s = t → ∃ s', s = out ++ s'
theorem RInv.start (t : List UInt8) : RInv t [] t := ⟨rfl, fun x h => (List.not_mem_nil h).elim, fun s _ _ _ => ⟨s, rfl⟩⟩
theorem readS_no {t : List UInt8} (h : ∀ s, rightS s = true → (∀ x ∈ s, SpB x) → s.length ≤ 4096 → textS s = t → False) : readS t = none := by
  cases hr : readS t with
  | none => rfl
  | some s =>
    obtain ⟨h1, h2, h3, h4⟩ := span_read_some hr
    exact (h s h2 h4 h3 h1).elim
/-- What of the reading is left, as the next span is read. -/
def restOk (out : List Sp) (r r1 : List UInt8) : Prop := (out = [] ∧ r1 = r) ∨ (out ≠ [] ∧ r = 44 :: r1)
theorem RInv.next {t : List UInt8} {out : List Sp} {r : List UInt8} (h : RInv t out r) (hr : r ≠ []) {s : List Sp} (h1 : rightS s = true) (h2 : ∀ x ∈ s, SpB x) (h3 : textS s = t) :
    ∃ y s'', s = out ++ y :: s'' ∧ SpB y ∧ y.1 ≤ y.2 ∧ ∃ r1, restOk out r r1 ∧ r1 = spanT y ++ Lib.joinTail [44] (s''.map spanT) := by
  obtain ⟨s', rfl⟩ := h.all s h1 h2 h3
  have ht := h.txt
  by_cases ho : out = []
  · subst ho
    rw [List.nil_append] at h3 h1 h2
    have e : r = textS s' := by rw [h3, ht]; rfl
    cases s' with
    | nil => exact absurd e hr
    | cons y s'' => exact ⟨y, s'', rfl, h2 y (by simp), rF_le h1 y (by simp), r, .inl ⟨rfl, rfl⟩, by rw [e, textS_cons]⟩
  · rw [textS_app out s' ho, ht] at h3
    have e := List.append_cancel_left h3
    cases s' with
    | nil => exact absurd e.symm hr
    | cons y s'' =>
      rw [List.map_cons, joinTail_cons44] at e
      exact ⟨y, s'', rfl, h2 y (by simp), rF_le h1 y (by simp), _, .inr ⟨ho, e.symm⟩, rfl⟩
theorem RInv.no_comma {t : List UInt8} {out : List Sp} {r : List UInt8} (h : RInv t out r) (hr : r ≠ []) (ho : out ≠ []) (hc : r.head? ≠ some 44) : readS t = none :=
  readS_no fun s h1 h2 _ h3 => by
    obtain ⟨y, s'', _, _, _, r1, hk, _⟩ := h.next hr h1 h2 h3
    rcases hk with ⟨e, _⟩ | ⟨_, e⟩
    · exact ho e
    · rw [e] at hc; exact hc rfl
theorem restOk.eq {out : List Sp} {r a b : List UInt8} (h : restOk out r a) (k : restOk out r b) : a = b := by
  rcases h with ⟨e, h⟩ | ⟨e, h⟩ <;> rcases k with ⟨f, k⟩ | ⟨f, k⟩
  · rw [h, k]
  · exact absurd e f
  · exact absurd f e
  · rw [h] at k; exact (List.cons.inj k).2
theorem RInv.no_item {t : List UInt8} {out : List Sp} {r r1 : List UInt8} (h : RInv t out r) (hr : r ≠ []) (hk : restOk out r r1) (hi : itemP r1 = none) : readS t = none :=
  readS_no fun s h1 h2 _ h3 => by
    obtain ⟨y, s'', _, yb, yl, r2, hk2, e⟩ := h.next hr h1 h2 h3
    obtain rfl := hk.eq hk2
    rw [e, item_mk y _ yb yl (noDig_tail _) (head_tail _)] at hi
    cases hi
theorem RInv.step {t : List UInt8} {out : List Sp} {r r1 r' : List UInt8} {x : Sp} (h : RInv t out r) (hr : r ≠ []) (hk : restOk out r r1) (hi : itemP r1 = some (x, r')) : RInv t (out ++ [x]) r' where
  txt := by
    obtain ⟨e, _, _⟩ := item_some hi
    rw [h.txt]
    rcases hk with ⟨ho, hk⟩ | ⟨ho, hk⟩
    · subst ho; subst hk; rw [List.nil_append, textS_cons, e]; simp [Lib.joinTail, textS, Lib.join]
    · rw [textS_app out [x] ho, hk, e]; simp [Lib.joinTail]
  ok := fun y hy => by
    rcases List.mem_append.1 hy with hy | hy
    · exact h.ok y hy
    · rw [List.mem_singleton.1 hy]; exact (item_some hi).2
  all := fun s h1 h2 h3 => by
    obtain ⟨y, s'', hs, yb, yl, r2, hk2, e⟩ := h.next hr h1 h2 h3
    obtain rfl := hk.eq hk2
    rw [e, item_mk y _ yb yl (noDig_tail _) (head_tail _)] at hi
    simp only [Option.some.injEq, Prod.mk.injEq] at hi
    obtain ⟨rfl, _⟩ := hi
    exact ⟨s'', by rw [hs]; simp⟩
theorem RInv.fin {t : List UInt8} {out : List Sp} (h : RInv t out []) (hw : wrongL out = 0) : readS t = some out := by
  have ht := h.txt
  rw [List.append_nil] at ht
  unfold wrongL at hw
  split at hw
  · cases hw
  · split at hw
    · rename_i h1 h2
      rw [ht]
      exact span_read_text h2 (fun x hx => (h.ok x hx).1) (by omega)
    · cases hw
theorem RInv.fin_no {t : List UInt8} {out : List Sp} (h : RInv t out []) (hw : wrongL out ≠ 0) : readS t = none :=
  readS_no fun s h1 h2 h4 h3 => by
    obtain ⟨s', rfl⟩ := h.all s h1 h2 h3
    have ht := h.txt
    rw [List.append_nil] at ht
    have hs : s' = [] := by
      by_cases ho : out = []
      · subst ho
        rw [ht, List.nil_append] at h3
        by_cases e : s' = []
        · exact e
        · exact absurd h3 (textS_ne e)
      · rw [textS_app out s' ho, ht] at h3
        cases s' with
        | nil => rfl
        | cons y s'' =>
          rw [List.map_cons, joinTail_cons44] at h3
          have := congrArg List.length h3
          simp at this
    subst hs
    rw [List.append_nil] at h1 h4
    apply hw
    unfold wrongL
    rw [if_neg (by omega), if_pos h1]
theorem spanT_ne (x : Sp) : spanT x ≠ [] := by
  unfold spanT; intro h; exact dec_neS x.1 (List.append_eq_nil_iff.1 h).1
theorem RInv.lt {t : List UInt8} {out : List Sp} {r r1 r' : List UInt8} {x : Sp} (h : RInv t out r) (hk : restOk out r r1) (hi : itemP r1 = some (x, r')) : r'.length < r.length := by
  obtain ⟨e, _, _⟩ := item_some hi
  have := List.length_pos_iff.2 (spanT_ne x)
  rcases hk with ⟨_, rfl⟩ | ⟨_, rfl⟩ <;> rw [e] <;> simp <;> omega
end Go.Ab
namespace Go.Proofs.YtgfkcbflnkpogaaGreatDoor
open Go.RowKit Go.Ab
theorem numP_stop (most : Int) (r : List UInt8) (j : Nat) (hj : j ≤ r.length) (hd : ∀ c ∈ r.take j, isDig c = true) (hs : most < valL (r.take j) ∨ noDig (r.drop j)) :
    (j = 0 → numP most (some r) = (0, none)) ∧ (most < valL (r.take j) → numP most (some r) = (0, none)) ∧
    (valL (r.take j) ≤ most → (∀ h : 0 < r.length, r[0] = 48 → 1 < j → numP most (some r) = (0, none)) ∧
      (∀ h : 0 < r.length, 0 < j → (r[0] = 48 → j ≤ 1) → numP most (some r) = (valL (r.take j), some (r.drop j)))) := by
  have hno : most < valL (r.take j) → numP most (some r) = (0, none) := fun h => by
    rw [numP_eq]
    have e : ∃ t, digs r = r.take j ++ t := by
      have h1 : r.take j ++ r.drop j = r := List.take_append_drop j r
      refine ⟨digs (r.drop j), ?_⟩
      unfold digs
      conv => lhs; rw [← h1]
      rw [List.takeWhile_append_of_pos hd]
    obtain ⟨t, e⟩ := e
    have h2 := valL_mono (r.take j) t (by rw [← e]; exact digs_dig r)
    rw [e, if_neg]
    simp only [Bool.and_eq_true, decide_eq_true_eq]; omega
  have hok : valL (r.take j) ≤ most → digs r = r.take j ∧ after r = r.drop j := fun h => by
    have := digs_app (r.take j) (r.drop j) hd (by rcases hs with hs | hs; · omega
                                                  · exact hs)
    rwa [List.take_append_drop] at this
  refine ⟨fun h0 => ?_, hno, fun h => ⟨fun hl h48 h1 => ?_, fun hl h1 h48 => ?_⟩⟩
  · subst h0
    by_cases h : most < valL (r.take 0)
    · exact hno h
    · have := (hok (by omega)).1
      rw [numP_eq, this]; simp [plainB]
  · rw [numP_eq, (hok h).1]
    obtain ⟨a, t, rfl⟩ : ∃ a t, r = a :: t := by cases r with | nil => simp at hl | cons a t => exact ⟨a, t, rfl⟩
    obtain ⟨i, rfl⟩ : ∃ i, j = i + 2 := ⟨j - 2, by omega⟩
    simp only [List.getElem_cons_zero] at h48
    subst h48
    have : t ≠ [] := fun e => by subst e; simp at hj
    obtain ⟨b, u, rfl⟩ : ∃ b u, t = b :: u := by cases t with | nil => exact absurd rfl this | cons b u => exact ⟨b, u, rfl⟩
    rw [if_neg]; simp [plainB]
  · rw [numP_eq, (hok h).1, (hok h).2, if_pos]
    simp only [Bool.and_eq_true, decide_eq_true_eq]
    refine ⟨?_, h⟩
    obtain ⟨a, t, rfl⟩ : ∃ a t, r = a :: t := by cases r with | nil => simp at hl | cons a t => exact ⟨a, t, rfl⟩
    obtain ⟨i, rfl⟩ : ∃ i, j = i + 1 := ⟨j - 1, by omega⟩
    simp only [List.getElem_cons_zero] at h48
    by_cases ha : a = 48
    · have := h48 ha
      obtain rfl : i = 0 := by omega
      simp [plainB]
    · simp [plainB, ha]
attribute [local go_sem] mk_get
attribute [local go_sem high] wrapI64 wrapK64
set_option maxHeartbeats 16000000 in
set_option maxRecDepth 100000 in
theorem rnum_at (l : List UInt8) (k : Nat) (w : World) (hl : l.length < 4294967281) (hk : k ≤ l.length) :
    Gives Tryz.prog 91 #[.string ⟨l.toArray⟩, .int .i64 (k : Int)] w (.tuple #[.int .i64 (numP 4294967295 (some (l.drop k))).1, .int .i64 (atOf l (numP 4294967295 (some (l.drop k))).2)]) := by
  unfold Gives
  go_enter Tryz.func91, Tryz.ntmps91
  go_wp2_with fail
  go_loopw [6, 7] (fun n i wr => ∃ (j i' : Nat) (v : Int), i' ≤ l.length ∧ k ≤ i' ∧ Hid (i' = k + j) ∧ i = .int .i64 (i' : Int) ∧ n = .int .i64 v ∧ 0 ≤ v ∧ v ≤ 42949672959 ∧ Hid (v = valL ((l.drop k).take j)) ∧ Hid (∀ c ∈ (l.drop k).take j, isDig c = true) ∧ wr = w) (fun _ i _ => l.length - (intOf i).toNat)
  case atStart => exact ⟨0, k, 0, hk, Nat.le_refl _, Lib.hid rfl, rfl, rfl, by omega, by omega, Lib.hid (by simp [valL]), Lib.hid (by simp), rfl⟩
  case round =>
    obtain ⟨j, i', v, hi, hki, Hi, rfl, rfl, v0, v1, Hv, Hd, rfl⟩ := hrel
    have hlen : (l.drop k).length = l.length - k := by simp
    have stop := fun hs => numP_stop 4294967295 (l.drop k) j (by rw [hlen]; have := Hi.out; omega) Hd.out hs
    rw [← Hv.out] at stop
    have Hlen := Lib.hid hlen
    have Hst := Lib.hid stop
    clear stop hlen
    by_cases hA : i' < l.length
    · obtain ⟨b, hb⟩ : ∃ b, l[i'] = b := ⟨_, rfl⟩
      have hdr : (l.drop k).drop j = b :: l.drop (i' + 1) := by rw [List.drop_drop, ← Hi.out, drop_at l i' hA, hb]
      have hdk : l.drop i' = b :: l.drop (i' + 1) := by rw [drop_at l i' hA, hb]
      have Hdr := Lib.hid hdr
      have Hb := Lib.hid hb
      clear hdr hdk
      by_cases hd : 48 ≤ b.toNat ∧ b.toNat ≤ 57
      · obtain ⟨hd1, hd2⟩ := hd
        by_cases hv : v ≤ 4294967295
        · clear Hst
          have hsn : (l.drop k).take (j + 1) = (l.drop k).take j ++ [b] := by
            have hj2 : j < (l.drop k).length := by rw [Hlen.out]; have := Hi.out; omega
            rw [List.take_succ_eq_append_getElem hj2]
            congr 2
            rw [List.getElem_drop]
            have := Hi.out
            rw [← Hb.out]; congr 1; omega
          have Hsn := Lib.hid hsn
          clear hsn
          go_wp2
          all_goals (first | (exfalso; omega) | skip)
          go_roundw
          case rel =>
            refine ⟨j + 1, i' + 1, 10 * v + ((b.toNat : Int) - 48), by omega, by omega, Lib.hid (by have := Hi.out; omega), by go_num, ?_, by omega, by omega, Lib.hid ?_, Lib.hid ?_, trivial⟩
            · first | rfl | (congr 1; omega) | (congr 2; omega)
            · rw [Hsn.out, valL_snoc, ← Hv.out]
            · rw [Hsn.out]
              intro c hc
              rcases List.mem_append.1 hc with h | h
              · exact Hd.out c h
              · simp at h; subst h; unfold isDig; simp; omega
          case measure => simp [intOf]; omega
        · have HS : 4294967295 < v ∨ noDig ((l.drop k).drop j) := .inl (by omega)
          obtain ⟨R0, R1, R2⟩ := Hst.out HS
          by_cases hj : j = 0
          · have Z := Lib.hid (R0 hj)
            clear R0 R1 R2
            have hi2 := Hi.out
            have b1 : ((i' : Int) == k) = true := by simp; omega
            clear hi2 hj
            go_wp2
            all_goals (first | (exfalso; omega) | (go_ret2; exact ⟨by rw [Z.out]; rfl, mkI⟩))
          · have hki2 : k < i' := by have := Hi.out; omega
            have b1 : ((i' : Int) == k) = false := by simp; omega
            by_cases hmv : 4294967295 < v
            · have Z := Lib.hid (R1 hmv)
              clear R0 R1 R2 hj
              go_wp2
              all_goals (first | (exfalso; omega) | (go_ret2; exact ⟨by rw [Z.out]; rfl, mkI⟩))
            · have hkl : k < l.length := by omega
              obtain ⟨b0, hb0⟩ : ∃ b0, l[k] = b0 := ⟨_, rfl⟩
              have hr0 : ∀ h : 0 < (l.drop k).length, (l.drop k)[0] = b0 := fun h => by rw [← hb0]; simp
              have hpos : 0 < (l.drop k).length := by rw [Hlen.out]; omega
              by_cases h48 : b0 = 48
              · have c48 : ((b0.toNat : Int) == 48) = true := by rw [h48]; rfl
                by_cases h1 : 1 < j
                · have Z := Lib.hid ((R2 (by omega)).1 hpos (by rw [hr0 hpos, h48]) h1)
                  have hk2 : k + 1 < i' := by have := Hi.out; omega
                  clear R0 R1 R2 hj hr0 hpos h48 h1
                  go_wp2
                  all_goals (first | (exfalso; omega) | (go_ret2; exact ⟨by rw [Z.out]; rfl, mkI⟩))
                · have Z := Lib.hid ((R2 (by omega)).2 hpos (by omega) (fun _ => by omega))
                  have hk2 : i' ≤ k + 1 := by have := Hi.out; omega
                  clear R0 R1 R2 hj hr0 hpos h48 h1
                  go_wp2
                  all_goals (first | (exfalso; omega) | (go_ret2; exact ⟨by rw [Z.out, List.drop_drop, ← Hi.out]; show _ = Ending.returned (.tuple #[.int .i64 v, .int .i64 (atOf l (some (l.drop i')))]); rw [atOf_drop l i' hi]; rfl, mkI⟩))
              · have c48 : ((b0.toNat : Int) == 48) = false := by
                  simp only [beq_eq_false_iff_ne, ne_eq]
                  intro h; exact h48 (UInt8.toNat_inj.1 (by simp; omega))
                have Z := Lib.hid ((R2 (by omega)).2 hpos (by omega) (fun h => absurd ((hr0 hpos).symm.trans h) h48))
                clear R0 R1 R2 hj hr0 hpos h48
                go_wp2
                all_goals (first | (exfalso; omega) | (go_ret2; exact ⟨by rw [Z.out, List.drop_drop, ← Hi.out]; show _ = Ending.returned (.tuple #[.int .i64 v, .int .i64 (atOf l (some (l.drop i')))]); rw [atOf_drop l i' hi]; rfl, mkI⟩))
      · have HS : 4294967295 < v ∨ noDig ((l.drop k).drop j) := .inr (by rw [Hdr.out]; unfold noDig isDig; simp; omega)
        obtain ⟨R0, R1, R2⟩ := Hst.out HS
        by_cases hj : j = 0
        · have Z := Lib.hid (R0 hj)
          clear R0 R1 R2
          have hi2 := Hi.out
          have b1 : ((i' : Int) == k) = true := by simp; omega
          clear hi2 hj
          go_wp2
          all_goals (first | (exfalso; omega) | (go_ret2; exact ⟨by rw [Z.out]; rfl, mkI⟩))
        · have hki2 : k < i' := by have := Hi.out; omega
          have b1 : ((i' : Int) == k) = false := by simp; omega
          by_cases hmv : 4294967295 < v
          · have Z := Lib.hid (R1 hmv)
            clear R0 R1 R2 hj
            go_wp2
            all_goals (first | (exfalso; omega) | (go_ret2; exact ⟨by rw [Z.out]; rfl, mkI⟩))
          · have hkl : k < l.length := by omega
            obtain ⟨b0, hb0⟩ : ∃ b0, l[k] = b0 := ⟨_, rfl⟩
            have hr0 : ∀ h : 0 < (l.drop k).length, (l.drop k)[0] = b0 := fun h => by rw [← hb0]; simp
            have hpos : 0 < (l.drop k).length := by rw [Hlen.out]; omega
            by_cases h48 : b0 = 48
            · have c48 : ((b0.toNat : Int) == 48) = true := by rw [h48]; rfl
              by_cases h1 : 1 < j
              · have Z := Lib.hid ((R2 (by omega)).1 hpos (by rw [hr0 hpos, h48]) h1)
                have hk2 : k + 1 < i' := by have := Hi.out; omega
                clear R0 R1 R2 hj hr0 hpos h48 h1
                go_wp2
                all_goals (first | (exfalso; omega) | (go_ret2; exact ⟨by rw [Z.out]; rfl, mkI⟩))
              · have Z := Lib.hid ((R2 (by omega)).2 hpos (by omega) (fun _ => by omega))
                have hk2 : i' ≤ k + 1 := by have := Hi.out; omega
                clear R0 R1 R2 hj hr0 hpos h48 h1
                go_wp2
                all_goals (first | (exfalso; omega) | (go_ret2; exact ⟨by rw [Z.out, List.drop_drop, ← Hi.out]; show _ = Ending.returned (.tuple #[.int .i64 v, .int .i64 (atOf l (some (l.drop i')))]); rw [atOf_drop l i' hi]; rfl, mkI⟩))
            · have c48 : ((b0.toNat : Int) == 48) = false := by
                simp only [beq_eq_false_iff_ne, ne_eq]
                intro h; exact h48 (UInt8.toNat_inj.1 (by simp; omega))
              have Z := Lib.hid ((R2 (by omega)).2 hpos (by omega) (fun h => absurd ((hr0 hpos).symm.trans h) h48))
              clear R0 R1 R2 hj hr0 hpos h48
              go_wp2
              all_goals (first | (exfalso; omega) | (go_ret2; exact ⟨by rw [Z.out, List.drop_drop, ← Hi.out]; show _ = Ending.returned (.tuple #[.int .i64 v, .int .i64 (atOf l (some (l.drop i')))]); rw [atOf_drop l i' hi]; rfl, mkI⟩))
    · have HS : 4294967295 < v ∨ noDig ((l.drop k).drop j) := .inr (by rw [List.drop_eq_nil_of_le (by rw [Hlen.out]; have := Hi.out; omega)]; trivial)
      obtain ⟨R0, R1, R2⟩ := Hst.out HS
      by_cases hj : j = 0
      · have Z := Lib.hid (R0 hj)
        clear R0 R1 R2
        have hi2 := Hi.out
        have b1 : ((i' : Int) == k) = true := by simp; omega
        clear hi2 hj
        go_wp2
        all_goals (first | (exfalso; omega) | (go_ret2; exact ⟨by rw [Z.out]; rfl, mkI⟩))
      · have hki2 : k < i' := by have := Hi.out; omega
        have b1 : ((i' : Int) == k) = false := by simp; omega
        by_cases hmv : 4294967295 < v
        · have Z := Lib.hid (R1 hmv)
          clear R0 R1 R2 hj
          go_wp2
          all_goals (first | (exfalso; omega) | (go_ret2; exact ⟨by rw [Z.out]; rfl, mkI⟩))
        · have hkl : k < l.length := by omega
          obtain ⟨b0, hb0⟩ : ∃ b0, l[k] = b0 := ⟨_, rfl⟩
          have hr0 : ∀ h : 0 < (l.drop k).length, (l.drop k)[0] = b0 := fun h => by rw [← hb0]; simp
          have hpos : 0 < (l.drop k).length := by rw [Hlen.out]; omega
          by_cases h48 : b0 = 48
          · have c48 : ((b0.toNat : Int) == 48) = true := by rw [h48]; rfl
            by_cases h1 : 1 < j
            · have Z := Lib.hid ((R2 (by omega)).1 hpos (by rw [hr0 hpos, h48]) h1)
              have hk2 : k + 1 < i' := by have := Hi.out; omega
              clear R0 R1 R2 hj hr0 hpos h48 h1
              go_wp2
              all_goals (first | (exfalso; omega) | (go_ret2; exact ⟨by rw [Z.out]; rfl, mkI⟩))
            · have Z := Lib.hid ((R2 (by omega)).2 hpos (by omega) (fun _ => by omega))
              have hk2 : i' ≤ k + 1 := by have := Hi.out; omega
              clear R0 R1 R2 hj hr0 hpos h48 h1
              go_wp2
              all_goals (first | (exfalso; omega) | (go_ret2; exact ⟨by rw [Z.out, List.drop_drop, ← Hi.out]; show _ = Ending.returned (.tuple #[.int .i64 v, .int .i64 (atOf l (some (l.drop i')))]); rw [atOf_drop l i' hi]; rfl, mkI⟩))
          · have c48 : ((b0.toNat : Int) == 48) = false := by
              simp only [beq_eq_false_iff_ne, ne_eq]
              intro h; exact h48 (UInt8.toNat_inj.1 (by simp; omega))
            have Z := Lib.hid ((R2 (by omega)).2 hpos (by omega) (fun h => absurd ((hr0 hpos).symm.trans h) h48))
            clear R0 R1 R2 hj hr0 hpos h48
            go_wp2
            all_goals (first | (exfalso; omega) | (go_ret2; exact ⟨by rw [Z.out, List.drop_drop, ← Hi.out]; show _ = Ending.returned (.tuple #[.int .i64 v, .int .i64 (atOf l (some (l.drop i')))]); rw [atOf_drop l i' hi]; rfl, mkI⟩))
end Go.Proofs.YtgfkcbflnkpogaaGreatDoor
/-! Read. -/
namespace Go.Ab
open Go.RowKit
theorem num_place {t : List UInt8} {m : Nat} {r1 : List UInt8} (hm : m ≤ t.length) (h : (numS (t.drop m)).2 = some r1) : ∃ q, q ≤ t.length ∧ m < q ∧ r1 = t.drop q := by
  obtain ⟨n, hn⟩ : ∃ n, numS (t.drop m) = (n, some r1) := ⟨_, Prod.ext rfl h⟩
  obtain ⟨h1, h2, h3, h4⟩ := (numS_iff _ n r1).1 hn
  have hs : r1 <:+ t := (List.IsSuffix.trans ⟨_, h1.symm⟩ (List.drop_suffix m t))
  obtain ⟨q, hq, rfl⟩ := suf_drop hs
  refine ⟨q, hq, ?_, rfl⟩
  have := congrArg List.length h1
  have hd := List.length_pos_iff.2 (dec_neS n)
  simp only [List.length_append, List.length_drop] at this
  omega
theorem num_at {t : List UInt8} {m q : Nat} (hq : q ≤ t.length) (h : (numS (t.drop m)).2 = some (t.drop q)) : atOf t (numS (t.drop m)).2 = (q : Int) := by rw [h, atOf_drop t q hq]
theorem num_no {t : List UInt8} {m : Nat} (h : (numS (t.drop m)).2 = none) : atOf t (numS (t.drop m)).2 = -1 := by rw [h]; rfl
theorem head45 {t : List UInt8} {q : Nat} (h : q < t.length) (hc : t[q] = 45) : t.drop q = 45 :: t.drop (q + 1) := by rw [drop_at t q h, hc]
theorem head_no {t : List UInt8} {q : Nat} (h : ¬ ∃ h : q < t.length, t[q] = 45) : (t.drop q).head? ≠ some 45 := by
  by_cases hq : q < t.length
  · rw [drop_at t q hq]
    simp only [List.head?_cons, ne_eq, Option.some.injEq]
    exact fun e => h ⟨hq, e⟩
  · rw [List.drop_eq_nil_of_le (by omega)]; simp
def RReadPost (P : World → Value → List Sp → Prop) (t : List UInt8) (e : Ending) (w' : World) : Prop := match readS t with
  | none => e = .returned (.tuple #[.slice none 0 0, .int .i64 40])
  | some s => ∃ p c, e = .returned (.tuple #[.slice p s.length c, .int .i64 0]) ∧ Hid (P w' (.slice p s.length c) s)
theorem RReadPost.none {P : World → Value → List Sp → Prop} {t : List UInt8} {w' : World} (h : readS t = none) : RReadPost P t (.returned (.tuple #[.slice none 0 0, .int .i64 40])) w' := by unfold RReadPost; rw [h]
theorem RReadPost.some {P : World → Value → List Sp → Prop} {t : List UInt8} {w' : World} {s : List Sp} {p : Option Addr} {c : Nat} (h : readS t = some s) (k : Hid (P w' (.slice p s.length c) s)) : RReadPost P t (.returned (.tuple #[.slice p s.length c, .int .i64 0])) w' := by unfold RReadPost; rw [h]; exact ⟨p, c, rfl, k⟩
end Go.Ab
namespace Go.Proofs.YtgfkcbflnkpogaaGreatDoor
open Go.RowKit Go.Ab
attribute [local go_sem] mk_get
attribute [local go_sem high] wrapI64 wrapK64
set_option maxHeartbeats 64000000 in
set_option maxRecDepth 100000 in
theorem rread_any (t : List UInt8) (w : World) (hl : t.length ≤ 1000000) :
    Calls Tryz.prog 59 #[.string ⟨t.toArray⟩] w fun e w' => RReadPost RsRow t e w' ∧ ∃ x : Ext w, w' = x.w := by
  have hn := fun (k : Nat) (W : World) (hk : k ≤ t.length) => rnum_at t k W (by omega) hk
  have Hn := Lib.hid (fun (k : Nat) (W : World) (hk : k ≤ t.length) => (show Gives Tryz.prog 91 #[.string ⟨t.toArray⟩, .int .i64 (k : Int)] W (.tuple #[.int .i64 (numS (t.drop k)).1, .int .i64 (atOf t (numS (t.drop k)).2)]) from hn k W hk))
  clear hn
  obtain ⟨i0, hi, hy0, hy1, hy2⟩ := info_parts infoRSpan
  have Hi := Lib.hid hi; have Hy0 := Lib.hid hy0; have Hy1 := Lib.hid hy1; have Hy2 := Lib.hid hy2
  clear hi hy0 hy1 hy2
  go_enter Tryz.func59, Tryz.ntmps59
  go_wp2_with fail
  go_loopw [4, 5] (fun u i wr => ∃ (m : Nat) (O : List Sp), m ≤ t.length ∧ i = .int .i64 (m : Int) ∧ Hid (RInv t O (t.drop m)) ∧ O.length ≤ m ∧ Hid (O = [] ↔ m = 0) ∧ Hid (wr.ownsRow w.heap.size 137 2 u O.length (O.flatMap rsCells)) ∧ Up w wr) (fun _ i _ => t.length - (intOf i).toNat)
  case atStart => exact ⟨0, [], Nat.zero_le _, rfl, Lib.hid (RInv.start t), Nat.zero_le _, Lib.hid (by simp), Lib.hid (World.ownsRow_nil _ _ _ _), Up.refl _⟩
  case round =>
    obtain ⟨m, O, hm, rfl, HR, hOl, HO0, Hown, hup⟩ := hrel
    haveI : UpI w wr := ⟨hup⟩
    by_cases hlt : m < t.length
    · have hlt' : (m : Int) < (t.length : Int) := by omega
      have m0 : (0 : Int) ≤ (m : Int) := by omega
      have Hne := Lib.hid (show t.drop m ≠ [] from fun h => by have := congrArg List.length h; rw [List.length_drop, List.length_nil] at this; omega)
      by_cases hz : m = 0
      · have hz' : (m : Int) = 0 := by omega
        have hz0 : ¬ (0 : Int) < (m : Int) := by omega
        have HK := Lib.hid (show restOk O (t.drop m) (t.drop m) from .inl ⟨HO0.out.2 hz, rfl⟩)
        clear hz' hz
        have hMl : m ≤ t.length := by omega
        have c1 := fun W => Hn.out (m) W hMl
        have Hb1 := Lib.hid (numS_bd (t.drop (m)))
        rcases ho1 : (numS (t.drop (m))).2 with _ | r1
        · have Z := Lib.hid (HR.out.no_item Hne.out HK.out (itemP_none ho1))
          rw [num_no ho1] at c1
          clear ho1 Hb1
          generalize (numS (t.drop (m))).1 = n1 at *
          go_wp2_with (first | (go_at_call 91; refine (c1 _).mono ?_; clear c1; rintro e w' ⟨rfl, x1, rfl⟩))
          go_ret2
          exact ⟨.none Z.out, mkI⟩
        · obtain ⟨q, hq, hmq, rfl⟩ := num_place hMl ho1
          rw [num_at hq ho1] at c1
          have Ho1 := Lib.hid ho1
          obtain ⟨n1, hn1⟩ : ∃ n1, (numS (t.drop (m))).1 = n1 := ⟨_, rfl⟩
          have Hn1 := Lib.hid hn1
          rw [hn1] at c1 Hb1
          obtain ⟨n10, n11⟩ := Hb1.out
          have q0 : (0 : Int) ≤ (q : Int) := by omega
          have q1 : ¬ (q : Int) < 0 := by omega
          clear ho1 hn1 Hb1
          by_cases h45 : ∃ h : q < t.length, t[q] = 45
          · obtain ⟨hql, hq45⟩ := h45
            have hql' : (q : Int) < (t.length : Int) := by omega
            have e45 := head45 hql hq45
            obtain ⟨bq, hbq⟩ : ∃ bq, t[q] = bq := ⟨_, rfl⟩
            have d45 : ((bq.toNat : Int) == 45) = true := by rw [← hbq, hq45]; rfl
            have Ho1' := Lib.hid (show (numS (t.drop (m))).2 = some (45 :: t.drop (q + 1)) by rw [Ho1.out, e45])
            have c2 := fun W => Hn.out (q + 1) W hql
            have hq1 : ((q + 1 : Nat) : Int) = (q : Int) + 1 := by omega
            rw [hq1] at c2
            have Hb2 := Lib.hid (numS_bd (t.drop (q + 1)))
            haveI : In64 ((q : Int) + 1) := ⟨by omega⟩
            clear Hn Ho1 e45 hq1 hq45
            rcases ho2 : (numS (t.drop (q + 1))).2 with _ | r2
            · have Z := Lib.hid (HR.out.no_item Hne.out HK.out (itemP_bad Ho1'.out ho2))
              rw [num_no ho2] at c2
              clear ho2 Hb2
              generalize (numS (t.drop (q + 1))).1 = n2 at *
              go_wp2_with (first | (go_at_call 91; refine (c1 _).mono ?_; clear c1; rintro e w' ⟨rfl, x1, rfl⟩) | (go_at_call 91; refine (c2 _).mono ?_; clear c2; rintro e w' ⟨rfl, x2, rfl⟩))
              go_ret2
              exact ⟨.none Z.out, mkI⟩
            · obtain ⟨q2, hq2, hqq, rfl⟩ := num_place hql ho2
              rw [num_at hq2 ho2] at c2
              have Ho2 := Lib.hid ho2
              obtain ⟨n2, hn2⟩ : ∃ n2, (numS (t.drop (q + 1))).1 = n2 := ⟨_, rfl⟩
              have Hn2 := Lib.hid hn2
              rw [hn2] at c2 Hb2
              obtain ⟨n20, n21⟩ := Hb2.out
              have q20 : (0 : Int) ≤ (q2 : Int) := by omega
              have q21 : decide ((q2 : Int) < 0) = false := decide_eq_false (by omega)
              clear ho2 hn2 Hb2
              by_cases hle : n2 ≤ n1
              · have Z := Lib.hid (HR.out.no_item Hne.out HK.out (itemP_low Ho1'.out Ho2.out (by rw [Hn1.out, Hn2.out]; exact hle)))
                have d3 : decide (n2 ≤ n1) = true := decide_eq_true hle
                clear Ho1' Ho2 Hn1 Hn2
                go_wp2_with (first | (go_at_call 91; refine (c1 _).mono ?_; clear c1; rintro e w' ⟨rfl, x1, rfl⟩) | (go_at_call 91; refine (c2 _).mono ?_; clear c2; rintro e w' ⟨rfl, x2, rfl⟩))
                go_ret2
                exact ⟨.none Z.out, mkI⟩
              · have HI := Lib.hid (show itemP (t.drop (m)) = some ((n1, n2), t.drop q2) by rw [itemP_two Ho1'.out Ho2.out (by rw [Hn1.out, Hn2.out]; exact hle), Hn1.out, Hn2.out])
                have d3 : decide (n2 ≤ n1) = false := decide_eq_false hle
                clear Ho1' Ho2 Hn1 Hn2
                go_upto_region 12 with (go_at_call 91; refine (c1 _).mono ?_; clear c1; rintro e w' ⟨rfl, x1, rfl⟩)
                obtain ⟨D, hD⟩ : ∃ D, x1.w.heap.size = D := ⟨_, rfl⟩
                haveI : GeSize x1.w D := ⟨Nat.le_of_eq hD⟩
                refine wp_letterS (fun Z => UpI x1.w Z ∧ Z.cell? ⟨D, 0, none⟩ = some (.int .i64 n1) ∧ Z.cell? ⟨D, 1, none⟩ = some (.int .i64 n1) ∧ Z.frozen? ⟨D, 1, none⟩ = false) ?hst ?_
                case hst =>
                  subst hD
                  exact ⟨inferInstance, by simp [go_sem], by simp [go_sem], by simp [go_sem]⟩
                (try rw [hD])
                rintro Z ⟨uZ, z0, z1, zf⟩
                haveI := uZ
                haveI : UpI wr Z := ⟨(upI : Up wr x1.w).trans uZ.up⟩
                haveI : UpI w Z := ⟨hup.trans (upI : Up wr Z)⟩
                haveI : LtSize D Z := ⟨cell_lt' z0⟩
                clear hD
                go_upto_region 14 with (first | (go_at_call 91; refine (c2 _).mono ?_; clear c2; rintro e w' ⟨rfl, x2, rfl⟩))
                refine wp_letterS (fun Y => UpI x1.w Y ∧ Y.cell? ⟨D, 0, none⟩ = some (.int .i64 n1) ∧ Y.cell? ⟨D, 1, none⟩ = some (.int .i64 n2)) ?hst2 ?_
                case hst2 => exact ⟨inferInstance, by simp [go_sem, z0], by simp [go_sem, z1]⟩
                clear z0 z1 zf
                rintro Y ⟨uY, z0, z1⟩
                haveI := uY
                haveI : UpI wr Y := ⟨(upI : Up wr x1.w).trans uY.up⟩
                haveI : UpI w Y := ⟨hup.trans (upI : Up wr Y)⟩
                haveI : LtSize D Y := ⟨cell_lt' z0⟩
                go_wp2_with (at_builtin; refine wpList_append_list (cells := rsCells) (k := 2) rsCells_length rs_one (by decide) rfl _ _ 78 rfl w.heap.size 137 i0 (.agg #[.int .i64 0, .int .i64 0]) 16 Tryz.underlying78 Hi.out Hy0.out Hy1.out Hy2.out rfl O _ rfl (owns_up Hown.out (upI : Up wr _)) [(n1, n2)] _ rfl (one_rowR Y (n1, n2) _ rfl) (by unfold maxLen; simp; omega) (by simp; omega) (upI : Up w _).size ?_; intro v9 w1 hown' hgrow)
                have hup3 : Up w w1 := (upI : Up w _).grown hgrow (owns_row Hown.out)
                have Hown' := Lib.hid hown'
                clear hown' hgrow
                go_wp2_with fail
                go_roundw
                case rel => exact ⟨q2, O ++ [(n1, n2)], by omega, by go_num, Lib.hid (HR.out.step Hne.out HK.out HI.out), by simp; omega, Lib.hid ⟨fun h => by simp at h, fun h => by omega⟩, Hown', hup3⟩
                case measure => simp [intOf]; omega
          · have hno := head_no h45
            have HI := Lib.hid (show itemP (t.drop (m)) = some ((n1, n1), t.drop q) by rw [itemP_one Ho1.out hno, Hn1.out])
            clear Ho1 Hn1 Hn hno
            by_cases hql : q < t.length
            · have hql' : (q : Int) < (t.length : Int) := by omega
              obtain ⟨bq, hbq⟩ : ∃ bq, t[q] = bq := ⟨_, rfl⟩
              have d45 : ((bq.toNat : Int) == 45) = false := by
                simp only [beq_eq_false_iff_ne, ne_eq]
                intro h; exact h45 ⟨hql, UInt8.toNat_inj.1 (by rw [hbq]; simp; omega)⟩
              clear h45
              go_upto_region 12 with (go_at_call 91; refine (c1 _).mono ?_; clear c1; rintro e w' ⟨rfl, x1, rfl⟩)
              obtain ⟨D, hD⟩ : ∃ D, x1.w.heap.size = D := ⟨_, rfl⟩
              haveI : GeSize x1.w D := ⟨Nat.le_of_eq hD⟩
              refine wp_letterS (fun Z => UpI x1.w Z ∧ Z.cell? ⟨D, 0, none⟩ = some (.int .i64 n1) ∧ Z.cell? ⟨D, 1, none⟩ = some (.int .i64 n1) ∧ Z.frozen? ⟨D, 1, none⟩ = false) ?hst ?_
              case hst =>
                subst hD
                exact ⟨inferInstance, by simp [go_sem], by simp [go_sem], by simp [go_sem]⟩
              (try rw [hD])
              rintro Z ⟨uZ, z0, z1, zf⟩
              haveI := uZ
              haveI : UpI wr Z := ⟨(upI : Up wr x1.w).trans uZ.up⟩
              haveI : UpI w Z := ⟨hup.trans (upI : Up wr Z)⟩
              haveI : LtSize D Z := ⟨cell_lt' z0⟩
              clear hD
              go_wp2_with (at_builtin; refine wpList_append_list (cells := rsCells) (k := 2) rsCells_length rs_one (by decide) rfl _ _ 78 rfl w.heap.size 137 i0 (.agg #[.int .i64 0, .int .i64 0]) 16 Tryz.underlying78 Hi.out Hy0.out Hy1.out Hy2.out rfl O _ rfl (owns_up Hown.out (upI : Up wr _)) [(n1, n1)] _ rfl (one_rowR Z (n1, n1) _ rfl) (by unfold maxLen; simp; omega) (by simp; omega) (upI : Up w _).size ?_; intro v9 w1 hown' hgrow)
              have hup3 : Up w w1 := (upI : Up w _).grown hgrow (owns_row Hown.out)
              have Hown' := Lib.hid hown'
              clear hown' hgrow
              go_wp2_with fail
              go_roundw
              case rel => exact ⟨q, O ++ [(n1, n1)], by omega, by go_num, Lib.hid (HR.out.step Hne.out HK.out HI.out), by simp; omega, Lib.hid ⟨fun h => by simp at h, fun h => by omega⟩, Hown', hup3⟩
              case measure => simp [intOf]; omega
            · have hql' : ¬ (q : Int) < (t.length : Int) := by omega
              clear h45
              go_upto_region 12 with (go_at_call 91; refine (c1 _).mono ?_; clear c1; rintro e w' ⟨rfl, x1, rfl⟩)
              obtain ⟨D, hD⟩ : ∃ D, x1.w.heap.size = D := ⟨_, rfl⟩
              haveI : GeSize x1.w D := ⟨Nat.le_of_eq hD⟩
              refine wp_letterS (fun Z => UpI x1.w Z ∧ Z.cell? ⟨D, 0, none⟩ = some (.int .i64 n1) ∧ Z.cell? ⟨D, 1, none⟩ = some (.int .i64 n1) ∧ Z.frozen? ⟨D, 1, none⟩ = false) ?hst ?_
              case hst =>
                subst hD
                exact ⟨inferInstance, by simp [go_sem], by simp [go_sem], by simp [go_sem]⟩
              (try rw [hD])
              rintro Z ⟨uZ, z0, z1, zf⟩
              haveI := uZ
              haveI : UpI wr Z := ⟨(upI : Up wr x1.w).trans uZ.up⟩
              haveI : UpI w Z := ⟨hup.trans (upI : Up wr Z)⟩
              haveI : LtSize D Z := ⟨cell_lt' z0⟩
              clear hD
              go_wp2_with (at_builtin; refine wpList_append_list (cells := rsCells) (k := 2) rsCells_length rs_one (by decide) rfl _ _ 78 rfl w.heap.size 137 i0 (.agg #[.int .i64 0, .int .i64 0]) 16 Tryz.underlying78 Hi.out Hy0.out Hy1.out Hy2.out rfl O _ rfl (owns_up Hown.out (upI : Up wr _)) [(n1, n1)] _ rfl (one_rowR Z (n1, n1) _ rfl) (by unfold maxLen; simp; omega) (by simp; omega) (upI : Up w _).size ?_; intro v9 w1 hown' hgrow)
              have hup3 : Up w w1 := (upI : Up w _).grown hgrow (owns_row Hown.out)
              have Hown' := Lib.hid hown'
              clear hown' hgrow
              go_wp2_with fail
              go_roundw
              case rel => exact ⟨q, O ++ [(n1, n1)], by omega, by go_num, Lib.hid (HR.out.step Hne.out HK.out HI.out), by simp; omega, Lib.hid ⟨fun h => by simp at h, fun h => by omega⟩, Hown', hup3⟩
              case measure => simp [intOf]; omega
      · have hz0 : (0 : Int) < (m : Int) := by omega
        have hOne : O ≠ [] := fun h => hz (HO0.out.1 h)
        by_cases h44 : t[m] = 44
        · obtain ⟨bm, hbm⟩ : ∃ bm, t[m] = bm := ⟨_, rfl⟩
          have d44 : ((bm.toNat : Int) != 44) = false := by rw [← hbm, h44]; rfl
          have d44' : ((bm.toNat : Int) == 44) = true := by rw [← hbm, h44]; rfl
          have HK := Lib.hid (show restOk O (t.drop m) (t.drop (m + 1)) from .inr ⟨hOne, by rw [drop_at t m hlt, h44]⟩)
          have hm1 : ((m + 1 : Nat) : Int) = (m : Int) + 1 := by omega
          haveI : In64 ((m : Int) + 1) := ⟨by omega⟩
          have Hm1 := Lib.hid hm1
          clear h44 hm1
          have hMl : m + 1 ≤ t.length := by omega
          have c1 := fun W => Hn.out (m + 1) W hMl
          rw [Hm1.out] at c1
          have Hb1 := Lib.hid (numS_bd (t.drop (m + 1)))
          rcases ho1 : (numS (t.drop (m + 1))).2 with _ | r1
          · have Z := Lib.hid (HR.out.no_item Hne.out HK.out (itemP_none ho1))
            rw [num_no ho1] at c1
            clear ho1 Hb1
            generalize (numS (t.drop (m + 1))).1 = n1 at *
            go_wp2_with (first | (go_at_call 91; refine (c1 _).mono ?_; clear c1; rintro e w' ⟨rfl, x1, rfl⟩))
            go_ret2
            exact ⟨.none Z.out, mkI⟩
          · obtain ⟨q, hq, hmq, rfl⟩ := num_place hMl ho1
            rw [num_at hq ho1] at c1
            have Ho1 := Lib.hid ho1
            obtain ⟨n1, hn1⟩ : ∃ n1, (numS (t.drop (m + 1))).1 = n1 := ⟨_, rfl⟩
            have Hn1 := Lib.hid hn1
            rw [hn1] at c1 Hb1
            obtain ⟨n10, n11⟩ := Hb1.out
            have q0 : (0 : Int) ≤ (q : Int) := by omega
            have q1 : ¬ (q : Int) < 0 := by omega
            clear ho1 hn1 Hb1
            by_cases h45 : ∃ h : q < t.length, t[q] = 45
            · obtain ⟨hql, hq45⟩ := h45
              have hql' : (q : Int) < (t.length : Int) := by omega
              have e45 := head45 hql hq45
              obtain ⟨bq, hbq⟩ : ∃ bq, t[q] = bq := ⟨_, rfl⟩
              have d45 : ((bq.toNat : Int) == 45) = true := by rw [← hbq, hq45]; rfl
              have Ho1' := Lib.hid (show (numS (t.drop (m + 1))).2 = some (45 :: t.drop (q + 1)) by rw [Ho1.out, e45])
              have c2 := fun W => Hn.out (q + 1) W hql
              have hq1 : ((q + 1 : Nat) : Int) = (q : Int) + 1 := by omega
              rw [hq1] at c2
              have Hb2 := Lib.hid (numS_bd (t.drop (q + 1)))
              haveI : In64 ((q : Int) + 1) := ⟨by omega⟩
              clear Hn Ho1 e45 hq1 hq45
              rcases ho2 : (numS (t.drop (q + 1))).2 with _ | r2
              · have Z := Lib.hid (HR.out.no_item Hne.out HK.out (itemP_bad Ho1'.out ho2))
                rw [num_no ho2] at c2
                clear ho2 Hb2
                generalize (numS (t.drop (q + 1))).1 = n2 at *
                go_wp2_with (first | (go_at_call 91; refine (c1 _).mono ?_; clear c1; rintro e w' ⟨rfl, x1, rfl⟩) | (go_at_call 91; refine (c2 _).mono ?_; clear c2; rintro e w' ⟨rfl, x2, rfl⟩))
                go_ret2
                exact ⟨.none Z.out, mkI⟩
              · obtain ⟨q2, hq2, hqq, rfl⟩ := num_place hql ho2
                rw [num_at hq2 ho2] at c2
                have Ho2 := Lib.hid ho2
                obtain ⟨n2, hn2⟩ : ∃ n2, (numS (t.drop (q + 1))).1 = n2 := ⟨_, rfl⟩
                have Hn2 := Lib.hid hn2
                rw [hn2] at c2 Hb2
                obtain ⟨n20, n21⟩ := Hb2.out
                have q20 : (0 : Int) ≤ (q2 : Int) := by omega
                have q21 : decide ((q2 : Int) < 0) = false := decide_eq_false (by omega)
                clear ho2 hn2 Hb2
                by_cases hle : n2 ≤ n1
                · have Z := Lib.hid (HR.out.no_item Hne.out HK.out (itemP_low Ho1'.out Ho2.out (by rw [Hn1.out, Hn2.out]; exact hle)))
                  have d3 : decide (n2 ≤ n1) = true := decide_eq_true hle
                  clear Ho1' Ho2 Hn1 Hn2
                  go_wp2_with (first | (go_at_call 91; refine (c1 _).mono ?_; clear c1; rintro e w' ⟨rfl, x1, rfl⟩) | (go_at_call 91; refine (c2 _).mono ?_; clear c2; rintro e w' ⟨rfl, x2, rfl⟩))
                  go_ret2
                  exact ⟨.none Z.out, mkI⟩
                · have HI := Lib.hid (show itemP (t.drop (m + 1)) = some ((n1, n2), t.drop q2) by rw [itemP_two Ho1'.out Ho2.out (by rw [Hn1.out, Hn2.out]; exact hle), Hn1.out, Hn2.out])
                  have d3 : decide (n2 ≤ n1) = false := decide_eq_false hle
                  clear Ho1' Ho2 Hn1 Hn2
                  go_upto_region 12 with (go_at_call 91; refine (c1 _).mono ?_; clear c1; rintro e w' ⟨rfl, x1, rfl⟩)
                  obtain ⟨D, hD⟩ : ∃ D, x1.w.heap.size = D := ⟨_, rfl⟩
                  haveI : GeSize x1.w D := ⟨Nat.le_of_eq hD⟩
                  refine wp_letterS (fun Z => UpI x1.w Z ∧ Z.cell? ⟨D, 0, none⟩ = some (.int .i64 n1) ∧ Z.cell? ⟨D, 1, none⟩ = some (.int .i64 n1) ∧ Z.frozen? ⟨D, 1, none⟩ = false) ?hst ?_
                  case hst =>
                    subst hD
                    exact ⟨inferInstance, by simp [go_sem], by simp [go_sem], by simp [go_sem]⟩
                  (try rw [hD])
                  rintro Z ⟨uZ, z0, z1, zf⟩
                  haveI := uZ
                  haveI : UpI wr Z := ⟨(upI : Up wr x1.w).trans uZ.up⟩
                  haveI : UpI w Z := ⟨hup.trans (upI : Up wr Z)⟩
                  haveI : LtSize D Z := ⟨cell_lt' z0⟩
                  clear hD
                  go_upto_region 14 with (first | (go_at_call 91; refine (c2 _).mono ?_; clear c2; rintro e w' ⟨rfl, x2, rfl⟩))
                  refine wp_letterS (fun Y => UpI x1.w Y ∧ Y.cell? ⟨D, 0, none⟩ = some (.int .i64 n1) ∧ Y.cell? ⟨D, 1, none⟩ = some (.int .i64 n2)) ?hst2 ?_
                  case hst2 => exact ⟨inferInstance, by simp [go_sem, z0], by simp [go_sem, z1]⟩
                  clear z0 z1 zf
                  rintro Y ⟨uY, z0, z1⟩
                  haveI := uY
                  haveI : UpI wr Y := ⟨(upI : Up wr x1.w).trans uY.up⟩
                  haveI : UpI w Y := ⟨hup.trans (upI : Up wr Y)⟩
                  haveI : LtSize D Y := ⟨cell_lt' z0⟩
                  go_wp2_with (at_builtin; refine wpList_append_list (cells := rsCells) (k := 2) rsCells_length rs_one (by decide) rfl _ _ 78 rfl w.heap.size 137 i0 (.agg #[.int .i64 0, .int .i64 0]) 16 Tryz.underlying78 Hi.out Hy0.out Hy1.out Hy2.out rfl O _ rfl (owns_up Hown.out (upI : Up wr _)) [(n1, n2)] _ rfl (one_rowR Y (n1, n2) _ rfl) (by unfold maxLen; simp; omega) (by simp; omega) (upI : Up w _).size ?_; intro v9 w1 hown' hgrow)
                  have hup3 : Up w w1 := (upI : Up w _).grown hgrow (owns_row Hown.out)
                  have Hown' := Lib.hid hown'
                  clear hown' hgrow
                  go_wp2_with fail
                  go_roundw
                  case rel => exact ⟨q2, O ++ [(n1, n2)], by omega, by go_num, Lib.hid (HR.out.step Hne.out HK.out HI.out), by simp; omega, Lib.hid ⟨fun h => by simp at h, fun h => by omega⟩, Hown', hup3⟩
                  case measure => simp [intOf]; omega
            · have hno := head_no h45
              have HI := Lib.hid (show itemP (t.drop (m + 1)) = some ((n1, n1), t.drop q) by rw [itemP_one Ho1.out hno, Hn1.out])
              clear Ho1 Hn1 Hn hno
              by_cases hql : q < t.length
              · have hql' : (q : Int) < (t.length : Int) := by omega
                obtain ⟨bq, hbq⟩ : ∃ bq, t[q] = bq := ⟨_, rfl⟩
                have d45 : ((bq.toNat : Int) == 45) = false := by
                  simp only [beq_eq_false_iff_ne, ne_eq]
                  intro h; exact h45 ⟨hql, UInt8.toNat_inj.1 (by rw [hbq]; simp; omega)⟩
                clear h45
                go_upto_region 12 with (go_at_call 91; refine (c1 _).mono ?_; clear c1; rintro e w' ⟨rfl, x1, rfl⟩)
                obtain ⟨D, hD⟩ : ∃ D, x1.w.heap.size = D := ⟨_, rfl⟩
                haveI : GeSize x1.w D := ⟨Nat.le_of_eq hD⟩
                refine wp_letterS (fun Z => UpI x1.w Z ∧ Z.cell? ⟨D, 0, none⟩ = some (.int .i64 n1) ∧ Z.cell? ⟨D, 1, none⟩ = some (.int .i64 n1) ∧ Z.frozen? ⟨D, 1, none⟩ = false) ?hst ?_
                case hst =>
                  subst hD
                  exact ⟨inferInstance, by simp [go_sem], by simp [go_sem], by simp [go_sem]⟩
                (try rw [hD])
                rintro Z ⟨uZ, z0, z1, zf⟩
                haveI := uZ
                haveI : UpI wr Z := ⟨(upI : Up wr x1.w).trans uZ.up⟩
                haveI : UpI w Z := ⟨hup.trans (upI : Up wr Z)⟩
                haveI : LtSize D Z := ⟨cell_lt' z0⟩
                clear hD
                go_wp2_with (at_builtin; refine wpList_append_list (cells := rsCells) (k := 2) rsCells_length rs_one (by decide) rfl _ _ 78 rfl w.heap.size 137 i0 (.agg #[.int .i64 0, .int .i64 0]) 16 Tryz.underlying78 Hi.out Hy0.out Hy1.out Hy2.out rfl O _ rfl (owns_up Hown.out (upI : Up wr _)) [(n1, n1)] _ rfl (one_rowR Z (n1, n1) _ rfl) (by unfold maxLen; simp; omega) (by simp; omega) (upI : Up w _).size ?_; intro v9 w1 hown' hgrow)
                have hup3 : Up w w1 := (upI : Up w _).grown hgrow (owns_row Hown.out)
                have Hown' := Lib.hid hown'
                clear hown' hgrow
                go_wp2_with fail
                go_roundw
                case rel => exact ⟨q, O ++ [(n1, n1)], by omega, by go_num, Lib.hid (HR.out.step Hne.out HK.out HI.out), by simp; omega, Lib.hid ⟨fun h => by simp at h, fun h => by omega⟩, Hown', hup3⟩
                case measure => simp [intOf]; omega
              · have hql' : ¬ (q : Int) < (t.length : Int) := by omega
                clear h45
                go_upto_region 12 with (go_at_call 91; refine (c1 _).mono ?_; clear c1; rintro e w' ⟨rfl, x1, rfl⟩)
                obtain ⟨D, hD⟩ : ∃ D, x1.w.heap.size = D := ⟨_, rfl⟩
                haveI : GeSize x1.w D := ⟨Nat.le_of_eq hD⟩
                refine wp_letterS (fun Z => UpI x1.w Z ∧ Z.cell? ⟨D, 0, none⟩ = some (.int .i64 n1) ∧ Z.cell? ⟨D, 1, none⟩ = some (.int .i64 n1) ∧ Z.frozen? ⟨D, 1, none⟩ = false) ?hst ?_
                case hst =>
                  subst hD
                  exact ⟨inferInstance, by simp [go_sem], by simp [go_sem], by simp [go_sem]⟩
                (try rw [hD])
                rintro Z ⟨uZ, z0, z1, zf⟩
                haveI := uZ
                haveI : UpI wr Z := ⟨(upI : Up wr x1.w).trans uZ.up⟩
                haveI : UpI w Z := ⟨hup.trans (upI : Up wr Z)⟩
                haveI : LtSize D Z := ⟨cell_lt' z0⟩
                clear hD
                go_wp2_with (at_builtin; refine wpList_append_list (cells := rsCells) (k := 2) rsCells_length rs_one (by decide) rfl _ _ 78 rfl w.heap.size 137 i0 (.agg #[.int .i64 0, .int .i64 0]) 16 Tryz.underlying78 Hi.out Hy0.out Hy1.out Hy2.out rfl O _ rfl (owns_up Hown.out (upI : Up wr _)) [(n1, n1)] _ rfl (one_rowR Z (n1, n1) _ rfl) (by unfold maxLen; simp; omega) (by simp; omega) (upI : Up w _).size ?_; intro v9 w1 hown' hgrow)
                have hup3 : Up w w1 := (upI : Up w _).grown hgrow (owns_row Hown.out)
                have Hown' := Lib.hid hown'
                clear hown' hgrow
                go_wp2_with fail
                go_roundw
                case rel => exact ⟨q, O ++ [(n1, n1)], by omega, by go_num, Lib.hid (HR.out.step Hne.out HK.out HI.out), by simp; omega, Lib.hid ⟨fun h => by simp at h, fun h => by omega⟩, Hown', hup3⟩
                case measure => simp [intOf]; omega
        · obtain ⟨bm, hbm⟩ : ∃ bm, t[m] = bm := ⟨_, rfl⟩
          have d44 : ((bm.toNat : Int) != 44) = true := by
            simp only [bne_iff_ne, ne_eq]
            intro h; exact h44 (UInt8.toNat_inj.1 (by rw [hbm]; simp; omega))
          have d44' : ((bm.toNat : Int) == 44) = false := by
            simp only [beq_eq_false_iff_ne, ne_eq]
            intro h; exact h44 (UInt8.toNat_inj.1 (by rw [hbm]; simp; omega))
          have Z := Lib.hid (HR.out.no_comma Hne.out hOne (by rw [drop_at t m hlt, List.head?_cons]; exact fun e => h44 (Option.some.inj e)))
          clear h44 hOne
          go_wp2_with fail
          go_ret2
          exact ⟨.none Z.out, mkI⟩
    · obtain rfl : m = t.length := by omega
      have hR := HR.out
      rw [List.drop_length] at hR
      have rO := rs_row Hown.out
      have cw := fun (W : World) (u : UpI wr W) => (rwrong_any O [] u4 (.slice none 0 0) W (rO.up u.up) (RowOf.nil W) (fun x hx => (hR.ok x hx).1) (fun x hx => by cases hx) (by omega) (by simp)).cast (v := .int .i64 (wrongL O)) (by rw [wrongLs_nil])
      obtain ⟨p, c, hu⟩ := owns_sliceN Hown.out
      subst hu
      obtain ⟨e, he⟩ : ∃ e, wrongL O = e := ⟨_, rfl⟩
      rw [he] at cw
      have HRO := Lib.hid rO
      by_cases h0 : e = 0
      · have hz : (e != 0) = false := by simp [h0]
        have Z := Lib.hid (hR.fin (he.trans h0))
        clear hR rO he h0 HR HO0 Hown Hn
        go_wp2_with (go_at_call 43; refine (cw _ inferInstance).mono ?_; clear cw; rintro e w' ⟨rfl, x1, rfl⟩)
        go_ret2
        exact ⟨.some Z.out (Lib.hid (HRO.out.up upI)), mkI⟩
      · have hz : (e != 0) = true := by simp [h0]
        have Z := Lib.hid (hR.fin_no (fun h => h0 (he.symm.trans h)))
        clear hR rO he h0 HR HO0 Hown Hn
        go_wp2_with (go_at_call 43; refine (cw _ inferInstance).mono ?_; clear cw; rintro e w' ⟨rfl, x1, rfl⟩)
        go_ret2
        exact ⟨.none Z.out, mkI⟩
end Go.Proofs.YtgfkcbflnkpogaaGreatDoor
