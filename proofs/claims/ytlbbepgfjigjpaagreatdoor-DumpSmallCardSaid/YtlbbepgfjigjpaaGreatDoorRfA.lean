/- The reference's numerals and texts. The reference's reading of numbers and addresses, on lists; it reads just what the program reads: no program in sight. The reference's reading: signs, numbers, addresses. The reference reads just what the program reads: plain lists, no program in sight. The reference's Read of a line, on lists: it reads just what the program reads. The prefixes that cover a range: they follow one another, no two neighbours are one prefix, there are at most 62: plain lists, no program in sight. The reference's text of an address; prefixes by their bounds. What the reference's functions of prefixes, ranges and keys return: just what the program's return. What the reference's Compare, ReadRange and ReadKey return: just what the program's return. The reference's words of a line: what begins with a word, a number, names, right lines. The reference's Read of a line, walked. -/
import Derived.Test.YtlbbepgfjigjpaaGreatDoorAddr2
import Derived.Test.YtlbbepgfjigjpaaGreatDoorInst
import Derived.Deep.RegionHeld3
import Derived.WalkSpells
import Derived.Laws.BytesString
import Derived.Laws.IdiomStrings
import Derived.Test.YtlbbepgfjigjpaaGreatDoorDLine
import Derived.Test.YtlbbepgfjigjpaaGreatDoorCover
import Derived.Test.YtlbbepgfjigjpaaGreatDoorDDump
import Derived.Test.YtlbbepgfjigjpaaGreatDoorAddr3
import Derived.Test.YtlbbepgfjigjpaaGreatDoorDR
import Derived.Test.YtlbbepgfjigjpaaGreatDoorDEx
namespace Go.Proofs.YtlbbepgfjigjpaaGreatDoor
open Go.RowKit Go.Ab

theorem run_byte_cell (w : World) (b : Nat) (c : Int) (hc : w.cell? ⟨b, 0, none⟩ = some (.int .u8 c)) : (convert 160 9 (.slice (some ⟨b, 0, none⟩) 1 1)).run Tryz.prog w = .ok (.string ⟨#[UInt8.ofNat c.toNat]⟩) w := by
  rw [run_convert_bytes_string _ _ _ _ _ _ _ Tryz.underlying160 Tryz.underlying5 Tryz.underlying9]
  have hl := run_loadCells_list (P := Tryz.prog) w ⟨b, 0, none⟩ ([c].map (Value.int .u8)) (fun j v hj => by
    have hj' : j < 1 := by have := (List.getElem?_eq_some_iff.1 hj).1; simpa using this
    obtain rfl : j = 0 := by omega
    simp at hj
    rw [← hj]; simp [Addr.add, hc])
  exact run_bytesToString _ _ 1 1 [c] hl
theorem run_byte_string (w : World) (n : Nat) (c : Int) [h : SizeIs w n] : (convert 160 9 (.slice (some ⟨n, 0, none⟩) 1 1)).run Tryz.prog (w.alloc (.cells #[.int .u8 c] 5)) = .ok (.string ⟨#[UInt8.ofNat c.toNat]⟩) (w.alloc (.cells #[.int .u8 c] 5)) :=
  run_byte_cell _ n c (alloc_at_cellI w n 0 _ _)
theorem run_byte_ext (w : World) (n : Nat) (c : Int) [h : SizeIs w n] (x : Ext (w.alloc (.cells #[.int .u8 c] 5))) : (convert 160 9 (.slice (some ⟨n, 0, none⟩) 1 1)).run Tryz.prog x.w = .ok (.string ⟨#[UInt8.ofNat c.toNat]⟩) x.w :=
  run_byte_cell _ n c ((x.cellI n 0).trans (alloc_at_cellI w n 0 _ _))
theorem run_byte_extd (w : World) (n : Nat) (c : Int) [h : SizeIs w n] (x : Ext (w.alloc (.cells #[.int .u8 c] 5)).drew) : (convert 160 9 (.slice (some ⟨n, 0, none⟩) 1 1)).run Tryz.prog x.w = .ok (.string ⟨#[UInt8.ofNat c.toNat]⟩) x.w :=
  run_byte_cell _ n c ((x.cellI n 0).trans (alloc_at_cellI w n 0 _ _))
theorem run_byte_drew (w : World) (n : Nat) (c : Int) [h : SizeIs w n] : (convert 160 9 (.slice (some ⟨n, 0, none⟩) 1 1)).run Tryz.prog (w.alloc (.cells #[.int .u8 c] 5)).drew = .ok (.string ⟨#[UInt8.ofNat c.toNat]⟩) (w.alloc (.cells #[.int .u8 c] 5)).drew :=
  run_byte_cell _ n c (alloc_at_cellI w n 0 _ _)
attribute [local go_sem] run_byte_drew run_byte_string run_byte_ext run_byte_extd
theorem dec_small (n : Int) (h0 : 0 ≤ n) (h1 : n < 10) : dec n = [UInt8.ofNat (48 + n).toNat] := by
  obtain ⟨u, rfl⟩ := Int.eq_ofNat_of_zero_le h0
  unfold dec
  rw [Lib.itoa_nonneg, Lib.decDigits_one (by omega)]
  congr 2
theorem dec_snoc (n : Int) (h1 : 10 ≤ n) : dec n = dec (n / 10) ++ [UInt8.ofNat (48 + n % 10).toNat] := by
  obtain ⟨u, rfl⟩ := Int.eq_ofNat_of_zero_le (show 0 ≤ n by omega)
  unfold dec
  rw [Lib.itoa_nonneg, show ((u : Int) / 10) = ((u / 10 : Nat) : Int) by omega, Lib.itoa_nonneg, Lib.decDigits, dif_neg (by omega)]
  congr 3

set_option maxHeartbeats 4000000 in
set_option maxRecDepth 100000 in
theorem refDecimal_small (n : Int) (w : World) (h0 : 0 ≤ n) (h1 : n < 10) : Gives Tryz.prog 54 #[.int .i64 n] w (.string ⟨(dec n).toArray⟩) := by
  rw [dec_small n h0 h1]
  unfold Gives
  go_enter Tryz.func54, Tryz.ntmps54
  go_wp2
  go_ret
  exact ⟨rfl, mkI⟩
set_option maxHeartbeats 4000000 in
set_option maxRecDepth 100000 in
theorem refDecimal_upto (m : Nat) : ∀ (n : Int) (w : World), n.toNat ≤ m → 0 ≤ n → n ≤ 9223372036854775807 → Gives Tryz.prog 54 #[.int .i64 n] w (.string ⟨(dec n).toArray⟩) := by
  induction m with
  | zero => intro n w hm h0 h1; exact refDecimal_small n w h0 (by omega)
  | succ m ih =>
    intro n w hm h0 h1
    by_cases hs : n < 10
    · exact refDecimal_small n w h0 hs
    · have e1 : IntKind.i64.wrap (n.tdiv 10) = n / 10 := by rw [Int.tdiv_eq_ediv_of_nonneg h0]; exact IntWalk.i64_in _ (by omega)
      have e2 : n.tmod 10 = n % 10 := Int.tmod_eq_emod_of_nonneg h0
      have e3 : IntKind.i64.wrap (48 + n % 10) = 48 + n % 10 := IntWalk.i64_in _ (by omega)
      have e4 : IntKind.u8.wrap (48 + n % 10) = 48 + n % 10 := by rw [IntKind.wrap_u8]; omega
      have ihq : ∀ w, Gives Tryz.prog 54 #[.int .i64 (n / 10)] w (.string ⟨(dec (n / 10)).toArray⟩) := fun w => ih _ _ (by omega) (by omega) (by omega)
      have l2 := dec_length (n / 10) (by omega) (by omega)
      rw [dec_snoc n (by omega)]
      clear ih hm h1
      unfold Gives
      go_enter Tryz.func54, Tryz.ntmps54
      go_wp2_with fail
      go_region_with (go_at_call 54; refine (ihq _).mono ?_; rintro e w' ⟨rfl, x, rfl⟩)
      all_goals (go_wp2_with fail; go_ret; exact ⟨rfl, mkI⟩)
theorem refDecimal_any (n : Int) (w : World) (h0 : 0 ≤ n) (h1 : n ≤ 9223372036854775807) : Gives Tryz.prog 54 #[.int .i64 n] w (.string ⟨(dec n).toArray⟩) :=
  refDecimal_upto n.toNat n w (Nat.le_refl _) h0 h1
end Go.Proofs.YtlbbepgfjigjpaaGreatDoor
namespace Go.Ab
open Go.Proofs.YtlbbepgfjigjpaaGreatDoor
def isDig (c : UInt8) : Bool := decide (48 ≤ c.toNat) && decide (c.toNat ≤ 57)
/-- The number that some digits are. -/
def valL (l : List UInt8) : Int := l.foldl (fun n c => 10 * n + ((c.toNat : Int) - 48)) 0
theorem valL_snoc (l : List UInt8) (c : UInt8) : valL (l ++ [c]) = 10 * valL l + ((c.toNat : Int) - 48) := by simp [valL]
theorem valL_nil : valL [] = 0 := rfl
theorem snoc_ind {α : Type} {P : List α → Prop} (h0 : P []) (h1 : ∀ l a, P l → P (l ++ [a])) (l : List α) : P l := by
  have : ∀ m : List α, P m.reverse := fun m => by
    induction m with
    | nil => exact h0
    | cons a t ih => rw [List.reverse_cons]; exact h1 _ _ ih
  have := this l.reverse
  rwa [List.reverse_reverse] at this
theorem valL_nonneg (l : List UInt8) (h : ∀ c ∈ l, isDig c = true) : 0 ≤ valL l := by
  induction l using snoc_ind with
  | h0 => simp [valL]
  | h1 l c ih =>
    rw [valL_snoc]
    have := ih (fun x hx => h x (by simp [hx]))
    have hc := h c (by simp)
    unfold isDig at hc; simp at hc; omega
theorem valL_mono (l r : List UInt8) (h : ∀ c ∈ l ++ r, isDig c = true) : valL l ≤ valL (l ++ r) := by
  induction r using snoc_ind with
  | h0 => simp
  | h1 r c ih =>
    rw [← List.append_assoc, valL_snoc]
    have h1 := ih (fun x hx => h x (by rw [← List.append_assoc]; exact List.mem_append_left _ hx))
    have h2 := valL_nonneg l (fun x hx => h x (by simp [hx]))
    have hc := h c (by simp)
    unfold isDig at hc; simp at hc; omega
theorem dec_isDig (n : Int) (h : 0 ≤ n) : ∀ c ∈ dec n, isDig c = true := fun c hc => by
  have := itoa_digit n h c hc
  unfold isDig; simp; omega
theorem u8_dig (d : Int) (h0 : 0 ≤ d) (h1 : d < 10) : ((UInt8.ofNat (48 + d).toNat).toNat : Int) - 48 = d := by
  simp; omega
theorem valL_dec (m : Nat) : ∀ n : Int, n.toNat ≤ m → 0 ≤ n → valL (dec n) = n := by
  induction m with
  | zero => intro n hm h; rw [dec_small n h (by omega)]; simp only [valL, List.foldl]; rw [u8_dig n h (by omega)]; omega
  | succ m ih =>
    intro n hm h
    by_cases hs : n < 10
    · rw [dec_small n h hs]; simp only [valL, List.foldl]; rw [u8_dig n h hs]; omega
    · rw [dec_snoc n (by omega), valL_snoc, ih (n / 10) (by omega) (by omega), u8_dig _ (by omega) (by omega)]; omega
theorem val_dec (n : Int) (h : 0 ≤ n) : valL (dec n) = n := valL_dec n.toNat n (Nat.le_refl _) h
/-- No needless 0 ahead. -/
def plainB : List UInt8 → Bool
  | [] => false
  | c :: r => !(c == 48 && !r.isEmpty)
theorem plainB_snoc (c : UInt8) (l : List UInt8) (a : UInt8) : plainB ((c :: l) ++ [a]) = !(c == 48) := by simp [plainB]
theorem dec_plain (m : Nat) : ∀ n : Int, n.toNat ≤ m → 0 ≤ n → plainB (dec n) = true ∧ (1 ≤ n → ∃ c r, dec n = c :: r ∧ c ≠ 48) := by
  induction m with
  | zero =>
    intro n hm h
    rw [dec_small n h (by omega)]
    exact ⟨by simp [plainB], fun h1 => by omega⟩
  | succ m ih =>
    intro n hm h
    by_cases hs : n < 10
    · rw [dec_small n h hs]
      refine ⟨by simp [plainB], fun h1 => ⟨_, _, rfl, fun e => ?_⟩⟩
      have := congrArg UInt8.toNat e
      simp at this; omega
    · obtain ⟨_, i2⟩ := ih (n / 10) (by omega) (by omega)
      obtain ⟨c, r, e, hc⟩ := i2 (by omega)
      rw [dec_snoc n (by omega), e]
      exact ⟨by rw [plainB_snoc]; simp [hc], fun _ => ⟨c, r ++ [_], rfl, hc⟩⟩
/-- Digits without a needless 0 are the numeral of their number. -/
theorem dec_val (l : List UInt8) : (∀ c ∈ l, isDig c = true) → plainB l = true → dec (valL l) = l ∧ ((∃ c r, l = c :: r ∧ c ≠ 48) → 1 ≤ valL l) := by
  induction l using snoc_ind with
  | h0 => intro _ h; cases h
  | h1 l c ih =>
    intro hd hp
    have hc := hd c (by simp)
    have hc2 : 48 ≤ c.toNat ∧ c.toNat ≤ 57 := by unfold isDig at hc; simpa using hc
    have hl := valL_nonneg l (fun x hx => hd x (by simp [hx]))
    rw [valL_snoc]
    cases l with
    | nil =>
      rw [valL_nil]
      refine ⟨?_, ?_⟩
      · rw [dec_small _ (by omega) (by omega)]
        simp only [List.nil_append, List.cons.injEq, and_true]
        apply UInt8.toNat_inj.1
        simp; omega
      · rintro ⟨c', r, e, hne⟩
        simp at e
        obtain ⟨rfl, _⟩ := e
        have : c.toNat ≠ 48 := fun e => hne (UInt8.toNat_inj.1 e)
        omega
    | cons c0 r =>
      rw [plainB_snoc] at hp
      have hc0 : c0 ≠ 48 := by simpa using hp
      obtain ⟨i1, i2⟩ := ih (fun x hx => hd x (by simp only [List.mem_append]; exact .inl hx)) (by simp [plainB, hc0])
      have h1 := i2 ⟨c0, r, rfl, hc0⟩
      refine ⟨?_, fun _ => by omega⟩
      rw [dec_snoc _ (by omega), show (10 * valL (c0 :: r) + ((c.toNat : Int) - 48)) / 10 = valL (c0 :: r) by omega, i1]
      congr 2
      apply UInt8.toNat_inj.1
      simp; omega
/-- The digits at the head, and what follows. -/
def digs (r : List UInt8) : List UInt8 := r.takeWhile isDig
def after (r : List UInt8) : List UInt8 := r.dropWhile isDig
theorem digs_after (r : List UInt8) : digs r ++ after r = r := List.takeWhile_append_dropWhile
theorem digs_dig (r : List UInt8) : ∀ c ∈ digs r, isDig c = true := by
  induction r with
  | nil => simp [digs]
  | cons a t ih =>
    unfold digs
    rw [List.takeWhile_cons]
    split
    · rename_i h
      intro c hc
      rcases List.mem_cons.1 hc with rfl | hc
      · exact h
      · exact ih c hc
    · simp
/-- No digit at the head. -/
def noDig : List UInt8 → Prop
  | [] => True
  | c :: _ => isDig c = false
theorem after_no (r : List UInt8) : noDig (after r) := by
  induction r with
  | nil => trivial
  | cons a t ih =>
    unfold after
    rw [List.dropWhile_cons]
    split
    · exact ih
    · rename_i h; simpa [noDig] using h
theorem digs_app (x r : List UInt8) (hx : ∀ c ∈ x, isDig c = true) (hr : noDig r) : digs (x ++ r) = x ∧ after (x ++ r) = r := by
  induction x with
  | nil =>
    cases r with
    | nil => exact ⟨rfl, rfl⟩
    | cons a t =>
      have : isDig a = false := hr
      exact ⟨by simp [digs, this], by simp [after, this]⟩
  | cons a t ih =>
    obtain ⟨i1, i2⟩ := ih (fun c hc => hx c (List.mem_cons_of_mem _ hc))
    have ha := hx a (by simp)
    unfold digs after at *
    simp only [List.cons_append, List.takeWhile_cons, List.dropWhile_cons, ha, if_true, i1, i2, and_self]
/-- A number from a place on: none if it is too great, or has a needless 0. -/
def numP (most : Int) : Option (List UInt8) → Int × Option (List UInt8)
  | none => (0, none)
  | some r => if plainB (digs r) && decide (valL (digs r) ≤ most) then (valL (digs r), some (after r)) else (0, none)
theorem numP_eq (most : Int) (r : List UInt8) : numP most (some r) = if plainB (digs r) && decide (valL (digs r) ≤ most) then (valL (digs r), some (after r)) else (0, none) := rfl
theorem numP_iff (most : Int) (r : List UInt8) (n : Int) (r' : List UInt8) : numP most (some r) = (n, some r') ↔ (r = dec n ++ r' ∧ 0 ≤ n ∧ n ≤ most ∧ noDig r') := by
  rw [numP_eq]
  constructor
  · intro h
    split at h
    · rename_i hk
      simp only [Bool.and_eq_true, decide_eq_true_eq] at hk
      simp only [Prod.mk.injEq, Option.some.injEq] at h
      obtain ⟨rfl, rfl⟩ := h
      refine ⟨?_, valL_nonneg _ (digs_dig r), hk.2, after_no r⟩
      rw [(dec_val (digs r) (digs_dig r) hk.1).1, digs_after]
    · simp at h
  · rintro ⟨rfl, h0, h1, h2⟩
    obtain ⟨e1, e2⟩ := digs_app (dec n) r' (dec_isDig n h0) h2
    rw [e1, e2, val_dec n h0]
    simp [(dec_plain n.toNat n (Nat.le_refl _) h0).1, h1]
theorem numP_bd (most : Int) (hm : 0 ≤ most) (o : Option (List UInt8)) : 0 ≤ (numP most o).1 ∧ (numP most o).1 ≤ most := by
  cases o with
  | none => simp [numP, hm]
  | some r =>
    rw [numP_eq]
    split
    · rename_i hk
      simp only [Bool.and_eq_true, decide_eq_true_eq] at hk
      exact ⟨valL_nonneg _ (digs_dig r), hk.2⟩
    · simp [hm]
def signP (c : UInt8) : Option (List UInt8) → Option (List UInt8)
  | some (b :: r) => if b = c then some r else none
  | _ => none
theorem signP_iff (c : UInt8) (o : Option (List UInt8)) (r : List UInt8) : signP c o = some r ↔ o = some (c :: r) := by
  match o with
  | none => simp [signP]
  | some [] => simp [signP]
  | some (b :: t) => simp only [signP]; split <;> simp_all
/-- The state of the reading of an address before the number k: what is read, and the place. -/
def addrSt (o : Option (List UInt8)) : Nat → Int × Option (List UInt8)
  | 0 => (0, o)
  | k + 1 =>
    let p := if k = 0 then (addrSt o k).2 else signP 46 (addrSt o k).2
    (256 * (addrSt o k).1 + (numP 255 p).1, (numP 255 p).2)
def addrP (o : Option (List UInt8)) : Int × Option (List UInt8) := addrSt o 4
theorem addrSt_bd (o : Option (List UInt8)) : ∀ k, 0 ≤ (addrSt o k).1 ∧ (addrSt o k).1 < 256 ^ k
  | 0 => by simp [addrSt]
  | k + 1 => by
    have ih := addrSt_bd o k
    simp only [addrSt]
    have h := numP_bd 255 (by omega) (if k = 0 then (addrSt o k).2 else signP 46 (addrSt o k).2)
    have : (256 : Int) ^ (k + 1) = 256 * 256 ^ k := by rw [Int.pow_succ, Int.mul_comm]
    omega
theorem addrP_bd (o : Option (List UInt8)) : 0 ≤ (addrP o).1 ∧ (addrP o).1 < 4294967296 := by
  have := addrSt_bd o 4
  simpa [addrP] using this
theorem noDig_dot (r : List UInt8) : noDig (46 :: r) := by simp [noDig, isDig]
theorem text_eq (a : Int) (r : List UInt8) : textL a ++ r = dec (oct a 0) ++ 46 :: (dec (oct a 1) ++ 46 :: (dec (oct a 2) ++ 46 :: (dec (oct a 3) ++ r))) := by
  unfold textL; simp [Lib.join]
theorem numP_some {most : Int} {o : Option (List UInt8)} {r' : List UInt8} (h : (numP most o).2 = some r') : ∃ r, o = some r ∧ r = dec (numP most o).1 ++ r' ∧ 0 ≤ (numP most o).1 ∧ (numP most o).1 ≤ most ∧ noDig r' := by
  cases o with
  | none => simp [numP] at h
  | some r => exact ⟨r, rfl, (numP_iff most r _ r').1 (by rw [← h])⟩
theorem addrP_iff (r : List UInt8) (a : Int) (r' : List UInt8) : addrP (some r) = (a, some r') ↔ (r = textL a ++ r' ∧ 0 ≤ a ∧ a < 4294967296 ∧ noDig r') := by
  constructor
  · intro h
    have hb := addrP_bd (some r)
    rw [h] at hb
    have h1 : (addrP (some r)).1 = a := by rw [h]
    have h2 : (addrP (some r)).2 = some r' := by rw [h]
    unfold addrP at h1 h2
    simp only [addrSt, if_true, show ¬ (1 = 0) by omega, show ¬ (2 = 0) by omega, show ¬ (3 = 0) by omega, if_false, Int.mul_zero, Int.zero_add] at h1 h2
    obtain ⟨r3, e3, f3, a3, b3, n3⟩ := numP_some h2
    rw [signP_iff] at e3
    obtain ⟨r2, e2, f2, a2, b2, n2⟩ := numP_some e3
    rw [signP_iff] at e2
    obtain ⟨r1, e1, f1, a1, b1, n1⟩ := numP_some e2
    rw [signP_iff] at e1
    obtain ⟨r0, e0, f0, a0, b0, n0⟩ := numP_some e1
    simp only [Option.some.injEq] at e0
    subst e0
    generalize (numP 255 (some r)).1 = x0 at *
    generalize (numP 255 (signP 46 (numP 255 (some r)).2)).1 = x1 at *
    generalize (numP 255 (signP 46 (numP 255 (signP 46 (numP 255 (some r)).2)).2)).1 = x2 at *
    generalize (numP 255 (signP 46 (numP 255 (signP 46 (numP 255 (signP 46 (numP 255 (some r)).2)).2)).2)).1 = x3 at *
    refine ⟨?_, by omega, by omega, n3⟩
    have o0 : oct a 0 = a / 16777216 % 256 := rfl
    have o1 : oct a 1 = a / 65536 % 256 := rfl
    have o2 : oct a 2 = a / 256 % 256 := rfl
    have o3 : oct a 3 = a / 1 % 256 := rfl
    rw [text_eq, show oct a 0 = x0 by omega, show oct a 1 = x1 by omega, show oct a 2 = x2 by omega, show oct a 3 = x3 by omega, ← f3, ← f2, ← f1, ← f0]
  · rintro ⟨rfl, h0, h1, h2⟩
    rw [text_eq]
    have b0 := oct_bd a 0; have b1 := oct_bd a 1; have b2 := oct_bd a 2; have b3 := oct_bd a 3
    have c0 := (numP_iff 255 (dec (oct a 0) ++ 46 :: (dec (oct a 1) ++ 46 :: (dec (oct a 2) ++ 46 :: (dec (oct a 3) ++ r')))) (oct a 0) _).2 ⟨rfl, b0.1, by omega, noDig_dot _⟩
    have c1 := (numP_iff 255 (dec (oct a 1) ++ 46 :: (dec (oct a 2) ++ 46 :: (dec (oct a 3) ++ r'))) (oct a 1) _).2 ⟨rfl, b1.1, by omega, noDig_dot _⟩
    have c2 := (numP_iff 255 (dec (oct a 2) ++ 46 :: (dec (oct a 3) ++ r')) (oct a 2) _).2 ⟨rfl, b2.1, by omega, noDig_dot _⟩
    have c3 := (numP_iff 255 (dec (oct a 3) ++ r') (oct a 3) _).2 ⟨rfl, b3.1, by omega, h2⟩
    have s : ∀ x, signP 46 (some (46 :: x)) = some x := fun x => by simp [signP]
    unfold addrP
    simp only [addrSt, if_true, show ¬ (1 = 0) by omega, show ¬ (2 = 0) by omega, show ¬ (3 = 0) by omega, if_false, Int.mul_zero, Int.zero_add, c0, s, c1, c2, c3]
    have o0 : oct a 0 = a / 16777216 % 256 := rfl
    have o1 : oct a 1 = a / 65536 % 256 := rfl
    have o2 : oct a 2 = a / 256 % 256 := rfl
    have o3 : oct a 3 = a / 1 % 256 := rfl
    simp only [Prod.mk.injEq, and_true]
    omega
end Go.Ab
namespace Go.Ab
/-- A place in a string: how much is left; -1: none. -/
def atOf (l : List UInt8) : Option (List UInt8) → Int
  | none => -1
  | some r => (l.length : Int) - r.length
def Suf (l : List UInt8) (o : Option (List UInt8)) : Prop := ∀ r, o = some r → r <:+ l
theorem suf_drop {l r : List UInt8} (h : r <:+ l) : ∃ k, k ≤ l.length ∧ r = l.drop k := by
  obtain ⟨t, rfl⟩ := h
  exact ⟨t.length, by simp, by simp⟩
theorem atOf_drop (l : List UInt8) (k : Nat) (h : k ≤ l.length) : atOf l (some (l.drop k)) = k := by simp [atOf]; omega
theorem mk_get (l : List UInt8) (k : Nat) (h : k < (ByteArray.mk l.toArray).size) : (ByteArray.mk l.toArray)[k]'h = l[k]'(show k < l.length from h) := rfl
theorem drop_at (l : List UInt8) (k : Nat) (h : k < l.length) : l.drop k = l[k] :: l.drop (k + 1) := List.drop_eq_getElem_cons h
theorem suf_sign {l : List UInt8} {o : Option (List UInt8)} (c : UInt8) (h : Suf l o) : Suf l (signP c o) := fun r hr => by
  rw [signP_iff] at hr
  exact (List.suffix_cons c r).trans (h _ hr)
theorem suf_num {l : List UInt8} {o : Option (List UInt8)} (most : Int) (h : Suf l o) : Suf l (numP most o).2 := fun r hr => by
  obtain ⟨r0, rfl, e, _⟩ := numP_some hr
  exact (List.suffix_append _ r).trans (e ▸ h _ rfl)
theorem suf_self (l : List UInt8) : Suf l (some l) := fun r h => by cases h; exact List.suffix_refl l
theorem suf_addrSt {l : List UInt8} {o : Option (List UInt8)} (h : Suf l o) : ∀ k, Suf l (addrSt o k).2
  | 0 => h
  | k + 1 => by
    simp only [addrSt]
    split
    · exact suf_num _ (suf_addrSt h k)
    · exact suf_num _ (suf_sign _ (suf_addrSt h k))
theorem suf_addr {l : List UInt8} {o : Option (List UInt8)} (h : Suf l o) : Suf l (addrP o).2 := suf_addrSt h 4
theorem atOf_len (l : List UInt8) (o : Option (List UInt8)) : (atOf l o = l.length) ↔ o = some [] := by
  cases o with
  | none => simp [atOf]
  | some r =>
    simp only [atOf, Option.some.injEq]
    constructor
    · intro h; exact List.eq_nil_of_length_eq_zero (by omega)
    · intro h; subst h; simp
end Go.Ab
namespace Go.Proofs.YtlbbepgfjigjpaaGreatDoor
open Go.RowKit Go.Ab
attribute [local go_sem] mk_get

set_option maxHeartbeats 4000000 in
set_option maxRecDepth 100000 in
theorem sign_neg (l : List UInt8) (c : UInt8) (w : World) : Gives Tryz.prog 86 #[.string ⟨l.toArray⟩, .int .i64 (-1), .int .u8 (c.toNat : Int)] w (.int .i64 (-1)) := by
  unfold Gives
  go_enter Tryz.func86, Tryz.ntmps86
  go_wp2
  go_ret
  exact ⟨rfl, mkI⟩
set_option maxHeartbeats 4000000 in
set_option maxRecDepth 100000 in
theorem sign_end (l : List UInt8) (c : UInt8) (w : World) : Gives Tryz.prog 86 #[.string ⟨l.toArray⟩, .int .i64 (l.length : Int), .int .u8 (c.toNat : Int)] w (.int .i64 (-1)) := by
  unfold Gives
  have d0 : decide ((l.length : Int) < 0) = false := by simp
  have d1 : decide (l.length ≤ l.length) = true := by simp
  go_enter Tryz.func86, Tryz.ntmps86
  go_wp2
  go_ret
  exact ⟨rfl, mkI⟩
set_option maxHeartbeats 4000000 in
set_option maxRecDepth 100000 in
theorem sign_at (l : List UInt8) (k : Nat) (b c : UInt8) (w : World) (hl : l.length < 4294967281) (h : k < l.length) (hb : l[k] = b) (v : Int) (hv : if b = c then v = k + 1 else v = -1) :
    Gives Tryz.prog 86 #[.string ⟨l.toArray⟩, .int .i64 (k : Int), .int .u8 (c.toNat : Int)] w (.int .i64 v) := by
  unfold Gives
  have d0 : decide ((k : Int) < 0) = false := by simp
  have d1 : decide (l.length ≤ k) = false := by simp; omega
  by_cases e : b = c
  · rw [if_pos e] at hv
    subst e hv
    go_enter Tryz.func86, Tryz.ntmps86
    go_wp2
    go_ret
    exact ⟨rfl, mkI⟩
  · rw [if_neg e] at hv
    subst hv
    have d2 : ((b.toNat : Int) != (c.toNat : Int)) = true := by
      simp only [bne_iff_ne, ne_eq]
      intro h; exact e (UInt8.toNat_inj.1 (by omega))
    clear e
    go_enter Tryz.func86, Tryz.ntmps86
    go_wp2
    go_ret
    exact ⟨rfl, mkI⟩
theorem sign_any (l : List UInt8) (o : Option (List UInt8)) (c : UInt8) (w : World) (hl : l.length < 4294967281) (hs : Suf l o) :
    Gives Tryz.prog 86 #[.string ⟨l.toArray⟩, .int .i64 (atOf l o), .int .u8 (c.toNat : Int)] w (.int .i64 (atOf l (signP c o))) := by
  cases o with
  | none => exact sign_neg l c w
  | some r =>
    obtain ⟨k, hk, rfl⟩ := suf_drop (hs r rfl)
    rw [atOf_drop l k hk]
    rcases Nat.lt_or_ge k l.length with h | h
    · refine sign_at l k l[k] c w hl h rfl _ ?_
      rw [drop_at l k h]
      simp only [signP]
      split
      · have := atOf_drop l (k + 1) (by omega)
        rw [this]; omega
      · rfl
    · obtain rfl : k = l.length := by omega
      rw [List.drop_length]
      exact sign_end l c w

/-- How the loop ends, and what the number is then. -/
theorem numP_stop (most : Int) (r : List UInt8) (j : Nat) (hj : j ≤ r.length) (hd : ∀ c ∈ r.take j, isDig c = true) (hs : most < valL (r.take j) ∨ noDig (r.drop j)) :
    (j = 0 → numP most (some r) = (0, none)) ∧ (most < valL (r.take j) → numP most (some r) = (0, none)) ∧
    (valL (r.take j) ≤ most → (∀ h : 0 < r.length, r[0] = 48 → 1 < j → numP most (some r) = (0, none)) ∧
      (∀ h : 0 < r.length, 0 < j → (r[0] = 48 → j ≤ 1) → numP most (some r) = (valL (r.take j), some (r.drop j)))) := by
  have hno : most < valL (r.take j) → numP most (some r) = (0, none) := fun h => by
    rw [numP_eq]
    have e : ∃ t, digs r = r.take j ++ t := by
      have h1 : r.take j ++ r.drop j = r := List.take_append_drop j r
      refine ⟨digs (r.drop j), ?_⟩
      unfold digs
      conv => lhs; rw [← h1]
      rw [List.takeWhile_append_of_pos hd]
    obtain ⟨t, e⟩ := e
    have h2 := valL_mono (r.take j) t (by rw [← e]; exact digs_dig r)
    rw [e, if_neg]
    simp only [Bool.and_eq_true, decide_eq_true_eq]; omega
  have hok : valL (r.take j) ≤ most → digs r = r.take j ∧ after r = r.drop j := fun h => by
    have := digs_app (r.take j) (r.drop j) hd (by rcases hs with hs | hs; · omega
                                                  · exact hs)
    rwa [List.take_append_drop] at this
  refine ⟨fun h0 => ?_, hno, fun h => ⟨fun hl h48 h1 => ?_, fun hl h1 h48 => ?_⟩⟩
  · subst h0
    by_cases h : most < valL (r.take 0)
    · exact hno h
    · have := (hok (by omega)).1
      rw [numP_eq, this]; simp [plainB]
  · rw [numP_eq, (hok h).1]
    obtain ⟨a, t, rfl⟩ : ∃ a t, r = a :: t := by cases r with | nil => simp at hl | cons a t => exact ⟨a, t, rfl⟩
    obtain ⟨i, rfl⟩ : ∃ i, j = i + 2 := ⟨j - 2, by omega⟩
    simp only [List.getElem_cons_zero] at h48
    subst h48
    have : t ≠ [] := fun e => by subst e; simp at hj
    obtain ⟨b, u, rfl⟩ : ∃ b u, t = b :: u := by cases t with | nil => exact absurd rfl this | cons b u => exact ⟨b, u, rfl⟩
    rw [if_neg]; simp [plainB]
  · rw [numP_eq, (hok h).1, (hok h).2, if_pos]
    simp only [Bool.and_eq_true, decide_eq_true_eq]
    refine ⟨?_, h⟩
    obtain ⟨a, t, rfl⟩ : ∃ a t, r = a :: t := by cases r with | nil => simp at hl | cons a t => exact ⟨a, t, rfl⟩
    obtain ⟨i, rfl⟩ : ∃ i, j = i + 1 := ⟨j - 1, by omega⟩
    simp only [List.getElem_cons_zero] at h48
    by_cases ha : a = 48
    · have := h48 ha
      obtain rfl : i = 0 := by omega
      simp [plainB]
    · simp [plainB, ha]
set_option maxHeartbeats 4000000 in
set_option maxRecDepth 100000 in
theorem number_neg (l : List UInt8) (most : Int) (w : World) : Gives Tryz.prog 85 #[.string ⟨l.toArray⟩, .int .i64 (-1), .int .i64 most] w (.tuple #[.int .i64 0, .int .i64 (-1)]) := by
  unfold Gives
  go_enter Tryz.func85, Tryz.ntmps85
  go_wp2_with fail
  go_loopw [8, 9] (fun n i wr => n = .int .i64 0 ∧ i = .int .i64 (-1) ∧ wr = w) (fun _ _ _ => 0)
  case atStart => exact ⟨rfl, rfl, rfl⟩
  case round =>
    obtain ⟨rfl, rfl, rfl⟩ := hrel
    go_wp2
    go_ret2
    exact ⟨rfl, mkI⟩
set_option maxHeartbeats 16000000 in
set_option maxRecDepth 100000 in
theorem number_at (l : List UInt8) (k : Nat) (most : Int) (w : World) (hl : l.length < 4294967281) (hk : k ≤ l.length) (hm : 0 ≤ most) (hm1 : most ≤ 65535) :
    Gives Tryz.prog 85 #[.string ⟨l.toArray⟩, .int .i64 (k : Int), .int .i64 most] w (.tuple #[.int .i64 (numP most (some (l.drop k))).1, .int .i64 (atOf l (numP most (some (l.drop k))).2)]) := by
  have d0 : decide ((k : Int) < 0) = false := by simp
  have d1 : decide ((0 : Int) ≤ k) = true := by simp
  unfold Gives
  go_enter Tryz.func85, Tryz.ntmps85
  go_wp2_with fail
  go_loopw [8, 9] (fun n i wr => ∃ (j i' : Nat) (v : Int), i' ≤ l.length ∧ k ≤ i' ∧ Hid (i' = k + j) ∧ i = .int .i64 (i' : Int) ∧ n = .int .i64 v ∧ 0 ≤ v ∧ v ≤ 700000 ∧ Hid (v = valL ((l.drop k).take j)) ∧ Hid (∀ c ∈ (l.drop k).take j, isDig c = true) ∧ wr = w) (fun _ i _ => l.length - (intOf i).toNat)
  case atStart => exact ⟨0, k, 0, hk, Nat.le_refl _, Lib.hid rfl, rfl, rfl, by omega, by omega, Lib.hid (by simp [valL]), Lib.hid (by simp), rfl⟩
  case round =>
    obtain ⟨j, i', v, hi, hki, Hi, rfl, rfl, v0, v1, Hv, Hd, rfl⟩ := hrel
    have hlen : (l.drop k).length = l.length - k := by simp
    have stop := fun hs => numP_stop most (l.drop k) j (by rw [hlen]; have := Hi.out; omega) Hd.out hs
    rw [← Hv.out] at stop
    have Hlen := Lib.hid hlen
    have Hst := Lib.hid stop
    clear stop hlen
    by_cases hA : i' < l.length
    · obtain ⟨b, hb⟩ : ∃ b, l[i'] = b := ⟨_, rfl⟩
      have hdr : (l.drop k).drop j = b :: l.drop (i' + 1) := by rw [List.drop_drop, ← Hi.out, drop_at l i' hA, hb]
      have hdk : l.drop i' = b :: l.drop (i' + 1) := by rw [drop_at l i' hA, hb]
      have Hdr := Lib.hid hdr
      have Hb := Lib.hid hb
      clear hdr hdk
      by_cases hd : 48 ≤ b.toNat ∧ b.toNat ≤ 57
      · obtain ⟨hd1, hd2⟩ := hd
        by_cases hv : v ≤ most
        · clear Hst
          have hsn : (l.drop k).take (j + 1) = (l.drop k).take j ++ [b] := by
            have hj2 : j < (l.drop k).length := by rw [Hlen.out]; have := Hi.out; omega
            rw [List.take_succ_eq_append_getElem hj2]
            congr 2
            rw [List.getElem_drop]
            have := Hi.out
            rw [← Hb.out]; congr 1; omega
          have Hsn := Lib.hid hsn
          clear hsn
          go_wp2
          all_goals (first | (exfalso; omega) | skip)
          go_roundw
          case rel =>
            refine ⟨j + 1, i' + 1, 10 * v + ((b.toNat : Int) - 48), by omega, by omega, Lib.hid (by have := Hi.out; omega), by go_num, ?_, by omega, by omega, Lib.hid ?_, Lib.hid ?_, trivial⟩
            · first | rfl | (congr 1; omega) | (congr 2; omega)
            · rw [Hsn.out, valL_snoc, ← Hv.out]
            · rw [Hsn.out]
              intro c hc
              rcases List.mem_append.1 hc with h | h
              · exact Hd.out c h
              · simp at h; subst h; unfold isDig; simp; omega
          case measure => simp [intOf]; omega
        · have HS : most < v ∨ noDig ((l.drop k).drop j) := .inl (by omega)
          obtain ⟨R0, R1, R2⟩ := Hst.out HS
          by_cases hj : j = 0
          · have Z := Lib.hid (R0 hj)
            clear R0 R1 R2
            have hi2 := Hi.out
            have b1 : ((i' : Int) == k) = true := by simp; omega
            clear hi2 hj
            go_wp2
            all_goals (first | (exfalso; omega) | (go_ret2; exact ⟨by rw [Z.out]; rfl, mkI⟩))
          · have hki2 : k < i' := by have := Hi.out; omega
            have b1 : ((i' : Int) == k) = false := by simp; omega
            by_cases hmv : most < v
            · have Z := Lib.hid (R1 hmv)
              clear R0 R1 R2 hj
              go_wp2
              all_goals (first | (exfalso; omega) | (go_ret2; exact ⟨by rw [Z.out]; rfl, mkI⟩))
            · have hkl : k < l.length := by omega
              obtain ⟨b0, hb0⟩ : ∃ b0, l[k] = b0 := ⟨_, rfl⟩
              have hr0 : ∀ h : 0 < (l.drop k).length, (l.drop k)[0] = b0 := fun h => by rw [← hb0]; simp
              have hpos : 0 < (l.drop k).length := by rw [Hlen.out]; omega
              by_cases h48 : b0 = 48
              · have c48 : ((b0.toNat : Int) == 48) = true := by rw [h48]; rfl
                by_cases h1 : 1 < j
                · have Z := Lib.hid ((R2 (by omega)).1 hpos (by rw [hr0 hpos, h48]) h1)
                  have hk2 : k + 1 < i' := by have := Hi.out; omega
                  clear R0 R1 R2 hj hr0 hpos h48 h1
                  go_wp2
                  all_goals (first | (exfalso; omega) | (go_ret2; exact ⟨by rw [Z.out]; rfl, mkI⟩))
                · have Z := Lib.hid ((R2 (by omega)).2 hpos (by omega) (fun _ => by omega))
                  have hk2 : i' ≤ k + 1 := by have := Hi.out; omega
                  clear R0 R1 R2 hj hr0 hpos h48 h1
                  go_wp2
                  all_goals (first | (exfalso; omega) | (go_ret2; exact ⟨by rw [Z.out, List.drop_drop, ← Hi.out]; show _ = Ending.returned (.tuple #[.int .i64 v, .int .i64 (atOf l (some (l.drop i')))]); rw [atOf_drop l i' hi]; rfl, mkI⟩))
              · have c48 : ((b0.toNat : Int) == 48) = false := by
                  simp only [beq_eq_false_iff_ne, ne_eq]
                  intro h; exact h48 (UInt8.toNat_inj.1 (by simp; omega))
                have Z := Lib.hid ((R2 (by omega)).2 hpos (by omega) (fun h => absurd ((hr0 hpos).symm.trans h) h48))
                clear R0 R1 R2 hj hr0 hpos h48
                go_wp2
                all_goals (first | (exfalso; omega) | (go_ret2; exact ⟨by rw [Z.out, List.drop_drop, ← Hi.out]; show _ = Ending.returned (.tuple #[.int .i64 v, .int .i64 (atOf l (some (l.drop i')))]); rw [atOf_drop l i' hi]; rfl, mkI⟩))
      · have HS : most < v ∨ noDig ((l.drop k).drop j) := .inr (by rw [Hdr.out]; unfold noDig isDig; simp; omega)
        obtain ⟨R0, R1, R2⟩ := Hst.out HS
        by_cases hj : j = 0
        · have Z := Lib.hid (R0 hj)
          clear R0 R1 R2
          have hi2 := Hi.out
          have b1 : ((i' : Int) == k) = true := by simp; omega
          clear hi2 hj
          go_wp2
          all_goals (first | (exfalso; omega) | (go_ret2; exact ⟨by rw [Z.out]; rfl, mkI⟩))
        · have hki2 : k < i' := by have := Hi.out; omega
          have b1 : ((i' : Int) == k) = false := by simp; omega
          by_cases hmv : most < v
          · have Z := Lib.hid (R1 hmv)
            clear R0 R1 R2 hj
            go_wp2
            all_goals (first | (exfalso; omega) | (go_ret2; exact ⟨by rw [Z.out]; rfl, mkI⟩))
          · have hkl : k < l.length := by omega
            obtain ⟨b0, hb0⟩ : ∃ b0, l[k] = b0 := ⟨_, rfl⟩
            have hr0 : ∀ h : 0 < (l.drop k).length, (l.drop k)[0] = b0 := fun h => by rw [← hb0]; simp
            have hpos : 0 < (l.drop k).length := by rw [Hlen.out]; omega
            by_cases h48 : b0 = 48
            · have c48 : ((b0.toNat : Int) == 48) = true := by rw [h48]; rfl
              by_cases h1 : 1 < j
              · have Z := Lib.hid ((R2 (by omega)).1 hpos (by rw [hr0 hpos, h48]) h1)
                have hk2 : k + 1 < i' := by have := Hi.out; omega
                clear R0 R1 R2 hj hr0 hpos h48 h1
                go_wp2
                all_goals (first | (exfalso; omega) | (go_ret2; exact ⟨by rw [Z.out]; rfl, mkI⟩))
              · have Z := Lib.hid ((R2 (by omega)).2 hpos (by omega) (fun _ => by omega))
                have hk2 : i' ≤ k + 1 := by have := Hi.out; omega
                clear R0 R1 R2 hj hr0 hpos h48 h1
                go_wp2
                all_goals (first | (exfalso; omega) | (go_ret2; exact ⟨by rw [Z.out, List.drop_drop, ← Hi.out]; show _ = Ending.returned (.tuple #[.int .i64 v, .int .i64 (atOf l (some (l.drop i')))]); rw [atOf_drop l i' hi]; rfl, mkI⟩))
            · have c48 : ((b0.toNat : Int) == 48) = false := by
                simp only [beq_eq_false_iff_ne, ne_eq]
                intro h; exact h48 (UInt8.toNat_inj.1 (by simp; omega))
              have Z := Lib.hid ((R2 (by omega)).2 hpos (by omega) (fun h => absurd ((hr0 hpos).symm.trans h) h48))
              clear R0 R1 R2 hj hr0 hpos h48
              go_wp2
              all_goals (first | (exfalso; omega) | (go_ret2; exact ⟨by rw [Z.out, List.drop_drop, ← Hi.out]; show _ = Ending.returned (.tuple #[.int .i64 v, .int .i64 (atOf l (some (l.drop i')))]); rw [atOf_drop l i' hi]; rfl, mkI⟩))
    · have HS : most < v ∨ noDig ((l.drop k).drop j) := .inr (by rw [List.drop_eq_nil_of_le (by rw [Hlen.out]; have := Hi.out; omega)]; trivial)
      obtain ⟨R0, R1, R2⟩ := Hst.out HS
      by_cases hj : j = 0
      · have Z := Lib.hid (R0 hj)
        clear R0 R1 R2
        have hi2 := Hi.out
        have b1 : ((i' : Int) == k) = true := by simp; omega
        clear hi2 hj
        go_wp2
        all_goals (first | (exfalso; omega) | (go_ret2; exact ⟨by rw [Z.out]; rfl, mkI⟩))
      · have hki2 : k < i' := by have := Hi.out; omega
        have b1 : ((i' : Int) == k) = false := by simp; omega
        by_cases hmv : most < v
        · have Z := Lib.hid (R1 hmv)
          clear R0 R1 R2 hj
          go_wp2
          all_goals (first | (exfalso; omega) | (go_ret2; exact ⟨by rw [Z.out]; rfl, mkI⟩))
        · have hkl : k < l.length := by omega
          obtain ⟨b0, hb0⟩ : ∃ b0, l[k] = b0 := ⟨_, rfl⟩
          have hr0 : ∀ h : 0 < (l.drop k).length, (l.drop k)[0] = b0 := fun h => by rw [← hb0]; simp
          have hpos : 0 < (l.drop k).length := by rw [Hlen.out]; omega
          by_cases h48 : b0 = 48
          · have c48 : ((b0.toNat : Int) == 48) = true := by rw [h48]; rfl
            by_cases h1 : 1 < j
            · have Z := Lib.hid ((R2 (by omega)).1 hpos (by rw [hr0 hpos, h48]) h1)
              have hk2 : k + 1 < i' := by have := Hi.out; omega
              clear R0 R1 R2 hj hr0 hpos h48 h1
              go_wp2
              all_goals (first | (exfalso; omega) | (go_ret2; exact ⟨by rw [Z.out]; rfl, mkI⟩))
            · have Z := Lib.hid ((R2 (by omega)).2 hpos (by omega) (fun _ => by omega))
              have hk2 : i' ≤ k + 1 := by have := Hi.out; omega
              clear R0 R1 R2 hj hr0 hpos h48 h1
              go_wp2
              all_goals (first | (exfalso; omega) | (go_ret2; exact ⟨by rw [Z.out, List.drop_drop, ← Hi.out]; show _ = Ending.returned (.tuple #[.int .i64 v, .int .i64 (atOf l (some (l.drop i')))]); rw [atOf_drop l i' hi]; rfl, mkI⟩))
          · have c48 : ((b0.toNat : Int) == 48) = false := by
              simp only [beq_eq_false_iff_ne, ne_eq]
              intro h; exact h48 (UInt8.toNat_inj.1 (by simp; omega))
            have Z := Lib.hid ((R2 (by omega)).2 hpos (by omega) (fun h => absurd ((hr0 hpos).symm.trans h) h48))
            clear R0 R1 R2 hj hr0 hpos h48
            go_wp2
            all_goals (first | (exfalso; omega) | (go_ret2; exact ⟨by rw [Z.out, List.drop_drop, ← Hi.out]; show _ = Ending.returned (.tuple #[.int .i64 v, .int .i64 (atOf l (some (l.drop i')))]); rw [atOf_drop l i' hi]; rfl, mkI⟩))
theorem number_any (l : List UInt8) (o : Option (List UInt8)) (most : Int) (w : World) (hl : l.length < 4294967281) (hs : Suf l o) (hm : 0 ≤ most) (hm1 : most ≤ 65535) :
    Gives Tryz.prog 85 #[.string ⟨l.toArray⟩, .int .i64 (atOf l o), .int .i64 most] w (.tuple #[.int .i64 (numP most o).1, .int .i64 (atOf l (numP most o).2)]) := by
  cases o with
  | none => exact number_neg l most w
  | some r =>
    obtain ⟨k, hk, rfl⟩ := suf_drop (hs r rfl)
    rw [atOf_drop l k hk]
    exact number_at l k most w hl hk hm hm1

set_option maxHeartbeats 4000000 in
set_option maxRecDepth 100000 in
theorem address_any (l : List UInt8) (o : Option (List UInt8)) (w : World) (hl : l.length < 4294967281) (hs : Suf l o) :
    Gives Tryz.prog 87 #[.string ⟨l.toArray⟩, .int .i64 (atOf l o)] w (.tuple #[.int .i64 (addrP o).1, .int .i64 (atOf l (addrP o).2)]) := by
  unfold Gives
  go_enter Tryz.func87, Tryz.ntmps87
  go_wp2_with fail
  go_loopw [1, 6, 7] (fun at_ a kk wr => ∃ (k : Nat) (at' a' : Int), k ≤ 4 ∧ kk = .int .i64 (k : Int) ∧ at_ = .int .i64 at' ∧ Hid (at' = atOf l (addrSt o k).2) ∧ a = .int .i64 a' ∧ Hid (a' = (addrSt o k).1) ∧ ∃ x : Ext w, wr = x.w) (fun _ _ kk _ => 4 - (intOf kk).toNat)
  case atStart => exact ⟨0, _, _, by omega, rfl, rfl, Lib.hid rfl, rfl, Lib.hid rfl, (Up.refl w).mk⟩
  case round =>
    obtain ⟨k, at', a', hk, rfl, rfl, Hat, rfl, Ha, x, rfl⟩ := hrel
    by_cases h4 : k < 4
    · obtain ⟨c0, c1⟩ := addrSt_bd o k
      rw [← Ha.out] at c0 c1
      have c2 : a' < 16777216 := by
        have : (256 : Int) ^ k ≤ 256 ^ 3 := by
          have := Nat.pow_le_pow_right (n := 256) (by decide) (show k ≤ 3 by omega)
          exact_mod_cast this
        have e : (256 : Int) ^ 3 = 16777216 := by decide
        omega
      have hsu := suf_addrSt hs k
      clear c1
      rcases Nat.eq_zero_or_pos k with h0 | h0
      · subst h0
        obtain ⟨p, Hp⟩ : ∃ p, Hid (p = (addrSt o 0).2) := ⟨_, Lib.hid rfl⟩
        have hat : at' = atOf l p := by rw [Hat.out, Hp.out]
        have hsp : Suf l p := by rw [Hp.out]; exact hsu
        obtain ⟨n0, n1⟩ := numP_bd 255 (by omega) p
        clear Hat hsu
        subst hat
        go_wp2_with (go_at_call 85; refine (number_any l p 255 _ hl hsp (by omega) (by omega)).mono ?_; rintro e w' ⟨rfl, x, rfl⟩)
        go_roundw
        case rel => exact ⟨1, _, _, by omega, by go_num, rfl, Lib.hid (by simp only [addrSt, if_true]; rw [Hp.out]; rfl), rfl, Lib.hid (by simp only [addrSt, if_true]; rw [Ha.out, Hp.out]; rfl), mkI⟩
        case measure => simp [intOf]
      · obtain ⟨p, Hp⟩ : ∃ p, Hid (p = (addrSt o k).2) := ⟨_, Lib.hid rfl⟩
        have hat : at' = atOf l p := by rw [Hat.out, Hp.out]
        have hsp : Suf l p := by rw [Hp.out]; exact hsu
        obtain ⟨n0, n1⟩ := numP_bd 255 (by omega) (signP 46 p)
        clear Hat hsu
        subst hat
        go_wp2_with (first
          | (go_at_call 86; refine (sign_any l p 46 _ hl hsp).mono ?_; rintro e w' ⟨rfl, x, rfl⟩)
          | (go_at_call 85; refine (number_any l (signP 46 p) 255 _ hl (suf_sign 46 hsp) (by omega) (by omega)).mono ?_; rintro e w' ⟨rfl, x, rfl⟩))
        go_roundw
        case rel => exact ⟨k + 1, _, _, by omega, by go_num, rfl, Lib.hid (by simp only [addrSt]; rw [if_neg (by omega), Hp.out]), rfl, Lib.hid (by simp only [addrSt]; rw [if_neg (by omega), Ha.out, Hp.out]), mkI⟩
        case measure => simp [intOf]; omega
    · obtain rfl : k = 4 := by omega
      go_wp2
      go_ret2
      exact ⟨by rw [Ha.out, Hat.out]; rfl, mkI⟩
end Go.Proofs.YtlbbepgfjigjpaaGreatDoor
namespace Go.Ab
theorem ba_app (a b : List UInt8) : (⟨a.toArray⟩ : ByteArray) ++ (⟨b.toArray⟩ : ByteArray) = ⟨(a ++ b).toArray⟩ := by
  apply ByteArray.ext
  simp
theorem ba_take (l : List UInt8) (k : Nat) : (⟨l.toArray⟩ : ByteArray).extract 0 k = ⟨(l.take k).toArray⟩ := by
  apply ByteArray.ext
  simp [ByteArray.data_extract]
theorem ba_drop (l : List UInt8) (k : Nat) : (⟨l.toArray⟩ : ByteArray).extract k l.length = ⟨(l.drop k).toArray⟩ := by
  apply ByteArray.ext
  simp [ByteArray.data_extract]
  exact List.take_of_length_le (by simp)
end Go.Ab
namespace Go.Ab
open Go.Proofs.YtlbbepgfjigjpaaGreatDoor
theorem noDig_nil : noDig [] := trivial
theorem noDig_sign (c : UInt8) (hc : isDig c = false) (r : List UInt8) : noDig (c :: r) := hc
theorem addrP_some {o : Option (List UInt8)} {r' : List UInt8} (h : (addrP o).2 = some r') : ∃ r, o = some r ∧ r = textL (addrP o).1 ++ r' ∧ 0 ≤ (addrP o).1 ∧ (addrP o).1 < 4294967296 ∧ noDig r' := by
  cases o with
  | none => simp [addrP, addrSt, numP, signP] at h
  | some r => exact ⟨r, rfl, (addrP_iff r _ r').1 (by rw [← h])⟩
theorem addrP_mk (a : Int) (r' : List UInt8) (h0 : 0 ≤ a) (h1 : a < 4294967296) (h : noDig r') : addrP (some (textL a ++ r')) = (a, some r') := (addrP_iff _ a r').2 ⟨rfl, h0, h1, h⟩
theorem numP_mk (most n : Int) (r' : List UInt8) (h0 : 0 ≤ n) (h1 : n ≤ most) (h : noDig r') : numP most (some (dec n ++ r')) = (n, some r') := (numP_iff most _ n r').2 ⟨rfl, h0, h1, h⟩
theorem signP_mk (c : UInt8) (r : List UInt8) : signP c (some (c :: r)) = some r := by simp [signP]

/-- The key, as the reference reads it. -/
def rk1 (l : List UInt8) : Int × Option (List UInt8) := numP 255 (some l)
def rk2 (l : List UInt8) : Int × Option (List UInt8) := addrP (signP 32 (rk1 l).2)
def rk3 (l : List UInt8) : Int × Option (List UInt8) := numP 65535 (signP 58 (rk2 l).2)
def rk4 (l : List UInt8) : Int × Option (List UInt8) := addrP (signP 32 (rk3 l).2)
def rk5 (l : List UInt8) : Int × Option (List UInt8) := numP 65535 (signP 58 (rk4 l).2)
theorem ref_readKey (l : List UInt8) : readKeyV l = if (rk5 l).2 = some [] then .tuple #[.agg #[.int .u8 (rk1 l).1, .int .u32 (rk2 l).1, .int .u32 (rk4 l).1, .int .u16 (rk3 l).1, .int .u16 (rk5 l).1], .int .i64 0]
    else .tuple #[.agg #[.int .u8 0, .int .u32 0, .int .u32 0, .int .u16 0, .int .u16 0], .int .i64 30] := by
  split
  · rename_i h
    have h5 := h
    unfold rk5 at h
    obtain ⟨r5, e5, f5, a5, b5, _⟩ := numP_some h
    rw [signP_iff] at e5
    have h4 := e5
    unfold rk4 at e5
    obtain ⟨r4, e4, f4, a4, b4, _⟩ := addrP_some e5
    rw [signP_iff] at e4
    have h3 := e4
    unfold rk3 at e4
    obtain ⟨r3, e3, f3, a3, b3, _⟩ := numP_some e4
    rw [signP_iff] at e3
    have h2 := e3
    unfold rk2 at e3
    obtain ⟨r2, e2, f2, a2, b2, _⟩ := addrP_some e3
    rw [signP_iff] at e2
    have h1 := e2
    unfold rk1 at e2
    obtain ⟨r1, e1, f1, a1, b1, _⟩ := numP_some e2
    cases e1
    rw [List.append_nil] at f5
    have F1 : l = dec (rk1 l).1 ++ 32 :: r2 := f1
    have F2 : r2 = textL (rk2 l).1 ++ 58 :: r3 := f2
    have F3 : r3 = dec (rk3 l).1 ++ 32 :: r4 := f3
    have F4 : r4 = textL (rk4 l).1 ++ 58 :: r5 := f4
    have F5 : r5 = dec (rk5 l).1 := f5
    have e : l = keyTextL (rk1 l).1 (rk2 l).1 (rk4 l).1 (rk3 l).1 (rk5 l).1 := by
      rw [F5] at F4; rw [F4] at F3; rw [F3] at F2; rw [F2] at F1
      refine F1.trans ?_
      unfold keyTextL
      simp only [List.append_assoc, List.cons_append, List.nil_append]
    have := readKeyV_text (rk1 l).1 (rk2 l).1 (rk4 l).1 (rk3 l).1 (rk5 l).1 a1 (by have : (rk1 l).1 ≤ 255 := b1; omega) a2 b2 a4 b4 a3 (by have : (rk3 l).1 ≤ 65535 := b3; omega) a5 (by have : (rk5 l).1 ≤ 65535 := b5; omega)
    rwa [← e] at this
  · rename_i h
    unfold readKeyV
    rw [if_neg]
    intro hk
    apply h
    obtain ⟨⟨p0, p1⟩, ⟨s0, s1⟩, ⟨d0, d1⟩, ⟨sp0, sp1⟩, ⟨dp0, dp1⟩⟩ := key_bounds l
    unfold kText at hk
    generalize kPr l = pr at *
    generalize kS l = s at *
    generalize kD l = d at *
    generalize kSp l = sp at *
    generalize kDp l = dp at *
    have e : l = dec pr ++ 32 :: (textL s ++ 58 :: (dec sp ++ 32 :: (textL d ++ 58 :: (dec dp ++ [])))) := by
      rw [← hk]; unfold keyTextL; simp only [List.append_assoc, List.cons_append, List.append_nil, List.nil_append]
    have g1 : rk1 l = (pr, some (32 :: (textL s ++ 58 :: (dec sp ++ 32 :: (textL d ++ 58 :: (dec dp ++ [])))))) := by
      unfold rk1; conv => lhs; rw [e]
      exact numP_mk 255 pr _ p0 (by omega) (noDig_sign 32 (by decide) _)
    have g2 : rk2 l = (s, some (58 :: (dec sp ++ 32 :: (textL d ++ 58 :: (dec dp ++ []))))) := by
      unfold rk2; rw [g1]; simp only [signP_mk]; exact addrP_mk s _ s0 s1 (noDig_sign 58 (by decide) _)
    have g3 : rk3 l = (sp, some (32 :: (textL d ++ 58 :: (dec dp ++ [])))) := by
      unfold rk3; rw [g2]; simp only [signP_mk]; exact numP_mk 65535 sp _ sp0 (by omega) (noDig_sign 32 (by decide) _)
    have g4 : rk4 l = (d, some (58 :: (dec dp ++ []))) := by
      unfold rk4; rw [g3]; simp only [signP_mk]; exact addrP_mk d _ d0 d1 (noDig_sign 58 (by decide) _)
    unfold rk5; rw [g4]; simp only [signP_mk]
    rw [numP_mk 65535 dp [] dp0 (by omega) noDig_nil]
end Go.Ab
namespace Go.Proofs.YtlbbepgfjigjpaaGreatDoor
open Go.RowKit Go.Ab
theorem at_ne {l : List UInt8} {o : Option (List UInt8)} (h : o ≠ some []) : (atOf l o != (l.length : Int)) = true := by
  simp only [bne_iff_ne, ne_eq]; exact fun e => h ((atOf_len l o).1 e)
theorem at_eq {l : List UInt8} {o : Option (List UInt8)} (h : o = some []) : (atOf l o != (l.length : Int)) = false := by
  simp only [bne_eq_false_iff_eq]; exact (atOf_len l o).2 h
end Go.Proofs.YtlbbepgfjigjpaaGreatDoor
namespace Go.Proofs.YtlbbepgfjigjpaaGreatDoor
open Go.RowKit Go.Ab
attribute [local go_sem high] eq_key
end Go.Proofs.YtlbbepgfjigjpaaGreatDoor
namespace Go.Ab
open Go.Proofs.YtlbbepgfjigjpaaGreatDoor
/-- The rest behind a word, if the list begins with it. -/
def beginsP (w l : List UInt8) : List UInt8 × Bool := if l.take w.length = w then (l.drop w.length, true) else (l, false)
theorem beginsP_app (w r : List UInt8) : beginsP w (w ++ r) = (r, true) := by unfold beginsP; rw [List.take_left' rfl, if_pos rfl, List.drop_left' rfl]
theorem beginsP_yes {w l : List UInt8} (h : (beginsP w l).2 = true) : l = w ++ (beginsP w l).1 := by
  unfold beginsP at h ⊢
  split
  · rename_i h1
    show l = w ++ l.drop w.length
    conv => lhs; rw [← List.take_append_drop w.length l]
    rw [h1]
  · rename_i h1; rw [if_neg h1] at h; cases h
theorem beginsP_no {w l : List UInt8} (h : (beginsP w l).2 = false) : (beginsP w l).1 = l := by
  unfold beginsP at h ⊢
  split
  · rename_i h1; rw [if_pos h1] at h; cases h
  · rfl
def numR (l : List UInt8) : Int × List UInt8 × Bool := match numP 9223372036854775807 (some l) with | (n, some r) => (n, r, true) | (_, none) => (0, l, false)
theorem numR_dec (n : Int) (r : List UInt8) (h0 : 0 ≤ n) (h1 : n ≤ 9223372036854775807) (h : noDig r) : numR (dec n ++ r) = (n, r, true) := by
  unfold numR; rw [(numP_iff _ _ n r).2 ⟨rfl, h0, h1, h⟩]
theorem numR_yes {l : List UInt8} (h : (numR l).2.2 = true) : l = dec (numR l).1 ++ (numR l).2.1 ∧ 0 ≤ (numR l).1 ∧ (numR l).1 ≤ 9223372036854775807 := by
  unfold numR at h ⊢
  cases hn : numP 9223372036854775807 (some l) with
  | mk n o =>
    rw [hn] at h
    cases o with
    | none => cases h
    | some r =>
      have := (numP_iff _ _ n r).1 hn
      exact ⟨this.1, this.2.1, this.2.2.1⟩
theorem numR_bd (l : List UInt8) : 0 ≤ (numR l).1 ∧ (numR l).1 ≤ 9223372036854775807 := by
  cases h : (numR l).2.2 with
  | true => exact (numR_yes h).2
  | false =>
    unfold numR at h ⊢
    cases hn : numP 9223372036854775807 (some l) with
    | mk n o =>
      rw [hn] at h
      cases o with
      | none => exact ⟨Int.le_refl _, by show (0 : Int) ≤ 9223372036854775807; decide⟩
      | some r => cases h
/-- The place of the third space. -/
def spAt : Nat → List UInt8 → Nat
  | _, [] => 0
  | k, c :: t => if c = 32 then (if k = 2 then 0 else spAt (k + 1) t + 1) else spAt k t + 1
theorem spAt_word (k : Nat) : ∀ (w r : List UInt8), (32 : UInt8) ∉ w → spAt k (w ++ 32 :: r) = w.length + (if k = 2 then 0 else spAt (k + 1) r + 1)
  | [], r, _ => by rw [List.nil_append, spAt, if_pos rfl]; simp
  | c :: t, r, h => by
    rw [List.cons_append, spAt, if_neg (fun e => h (by simp [e])), spAt_word k t r (fun hm => h (by simp [hm])), List.length_cons]; omega
theorem spAt_le : ∀ (l : List UInt8) (k : Nat), spAt k l ≤ l.length
  | [], _ => Nat.le_refl _
  | c :: t, k => by
    have h1 := spAt_le t k
    have h2 := spAt_le t (k + 1)
    rw [spAt, List.length_cons]
    split
    · split <;> omega
    · omega
def inR : List UInt8 := [32, 105, 110, 115, 105, 100, 101, 32]
def outR : List UInt8 := [32, 111, 117, 116, 115, 105, 100, 101, 32]
def repR : List UInt8 := [32, 114, 101, 112, 108, 105, 101, 100]
def assR : List UInt8 := [32, 97, 115, 115, 117, 114, 101, 100]
def deadR : List UInt8 := [32, 100, 101, 97, 100, 108, 105, 110, 101, 32]
def seenR : List UInt8 := [32, 115, 101, 101, 110, 32]
theorem repR_eq : repR = 32 :: repliedW := rfl
theorem assR_eq : assR = 32 :: assuredW := rfl
theorem deadR_eq : deadR = 32 :: deadW ++ [32] := rfl
theorem seenR_eq : seenR = 32 :: seenW ++ [32] := rfl
/-- The class found after k of the names. -/
def bestK (rest : List UInt8) : Nat → List UInt8 × Int
  | 0 => ([], 0)
  | k + 1 => if (beginsP (clsOf (k : Int) ++ [32]) rest).2 && decide ((bestK rest k).1.length < (clsOf (k : Int)).length) then (clsOf (k : Int), (k : Int)) else bestK rest k
theorem bestK_yes (rest : List UInt8) : ∀ k, (bestK rest k).1 ≠ [] → ∃ i, i < k ∧ bestK rest k = (clsOf (i : Int), (i : Int)) ∧ (beginsP (clsOf (i : Int) ++ [32]) rest).2 = true
  | 0, h => absurd rfl h
  | k + 1, h => by
    rw [bestK] at h ⊢
    split
    · rename_i hk
      rw [Bool.and_eq_true] at hk
      exact ⟨k, by omega, rfl, hk.1⟩
    · rename_i hk
      rw [if_neg hk] at h
      obtain ⟨i, h1, h2, h3⟩ := bestK_yes rest k h
      exact ⟨i, by omega, h2, h3⟩
theorem bestK_bd (rest : List UInt8) : ∀ k, 0 ≤ (bestK rest k).2 ∧ (bestK rest k).2 ≤ k
  | 0 => ⟨Int.le_refl _, Int.le_refl _⟩
  | k + 1 => by
    have := bestK_bd rest k
    rw [bestK]
    split
    · show (0 : Int) ≤ (k : Int) ∧ (k : Int) ≤ ((k + 1 : Nat) : Int); omega
    · omega
theorem bestK_cls (c : Nat) (hc : c < 9) (r : List UInt8) : bestK (clsOf (c : Int) ++ 32 :: r) 9 = (clsOf (c : Int), (c : Int)) := by
  rcases (by omega : c = 0 ∨ c = 1 ∨ c = 2 ∨ c = 3 ∨ c = 4 ∨ c = 5 ∨ c = 6 ∨ c = 7 ∨ c = 8) with rfl | rfl | rfl | rfl | rfl | rfl | rfl | rfl | rfl <;>
    simp [bestK, beginsP, clsOf, clsL]
def endR (pr s d sp dp sd cl : Int) (rp ss : Bool) (r3 : List UInt8) : Option Ln :=
  let b4 := beginsP deadR r3
  let n5 := numR b4.1
  let b6 := beginsP seenR n5.2.1
  let n7 := numR b6.1
  if b4.2 && n5.2.2 && b6.2 && n7.2.2 && (n7.2.1 == []) then some ⟨pr, s, d, sp, dp, sd, cl, rp, ss, n5.1, n7.1⟩ else none
def midR (k : List UInt8) (sd : Int) (rest : List UInt8) : Option Ln :=
  let best := bestK rest 9
  if best.1 == [] then none else
  let b1 := beginsP repR (rest.drop best.1.length)
  let b2 := beginsP assR b1.1
  if b2.2 && !b1.2 then none else
  endR (kPr k) (kS k) (kD k) (kSp k) (kDp k) sd best.2 b1.2 b2.2 b2.1
def refReadL (s : List UInt8) : Option Ln :=
  let k := s.take (spAt 0 s)
  let s2 := s.drop (spAt 0 s)
  if kvB k then
    (if (beginsP inR s2).2 then midR k 0 (beginsP inR s2).1 else if (beginsP outR s2).2 then midR k 1 (beginsP outR s2).1 else none)
  else none
/-- The text of a right line, part by part. -/
theorem text_flat (l : Ln) (b : LnB l) (h : l.right = true) : l.text = keyTextL l.pr l.s l.d l.sp l.dp ++ (32 :: sideW l.sd ++ 32 :: (clsOf l.cl ++ ((if l.rp then repR else []) ++ ((if l.ss then assR else []) ++ (deadR ++ (dec l.dl ++ (seenR ++ (dec l.sn ++ [])))))))) := by
  rw [ln_text l b h]
  unfold Ln.parts
  rw [key_join]
  cases l.rp <;> cases l.ss <;> simp [Lib.join, repR_eq, assR_eq, deadR_eq, seenR_eq]
theorem endR_some {pr s d sp dp sd cl : Int} {rp ss : Bool} {r3 : List UInt8} {l : Ln} (h : endR pr s d sp dp sd cl rp ss r3 = some l) :
    ∃ n m : Int, l = ⟨pr, s, d, sp, dp, sd, cl, rp, ss, n, m⟩ ∧ r3 = deadR ++ (dec n ++ (seenR ++ (dec m ++ []))) ∧ (0 ≤ n ∧ n ≤ 9223372036854775807) ∧ (0 ≤ m ∧ m ≤ 9223372036854775807) := by
  unfold endR at h
  simp only at h
  split at h
  · rename_i hc
    simp only [Bool.and_eq_true, beq_iff_eq] at hc
    obtain ⟨⟨⟨⟨h4, h5⟩, h6⟩, h7⟩, h8⟩ := hc
    have e4 := beginsP_yes h4
    obtain ⟨e5, a5, c5⟩ := numR_yes h5
    have e6 := beginsP_yes h6
    obtain ⟨e7, a7, c7⟩ := numR_yes h7
    rw [h8] at e7
    cases h
    refine ⟨_, _, rfl, ?_, ⟨a5, c5⟩, ⟨a7, c7⟩⟩
    conv => lhs; rw [e4, e5, e6, e7]
  · cases h
theorem endR_app (pr s d sp dp sd cl n m : Int) (rp ss : Bool) (n0 : 0 ≤ n) (n1 : n ≤ 9223372036854775807) (m0 : 0 ≤ m) (m1 : m ≤ 9223372036854775807) :
    endR pr s d sp dp sd cl rp ss (deadR ++ (dec n ++ (seenR ++ (dec m ++ [])))) = some ⟨pr, s, d, sp, dp, sd, cl, rp, ss, n, m⟩ := by
  have h1 : noDig (seenR ++ (dec m ++ [])) := by simp [noDig, seenR, isDig]
  unfold endR
  simp only [beginsP_app, numR_dec n _ n0 n1 h1, numR_dec m [] m0 m1 trivial]
  rfl
theorem midR_some {k rest : List UInt8} {sd : Int} {l : Ln} (h : midR k sd rest = some l) :
    ∃ (c : Nat) (rp ss : Bool) (n m : Int), c < 9 ∧ l = ⟨kPr k, kS k, kD k, kSp k, kDp k, sd, (c : Int), rp, ss, n, m⟩ ∧ (ss = true → rp = true) ∧ rest = clsOf (c : Int) ++ ((if rp then repR else []) ++ ((if ss then assR else []) ++ (deadR ++ (dec n ++ (seenR ++ (dec m ++ [])))))) ∧ (0 ≤ n ∧ n ≤ 9223372036854775807) ∧ (0 ≤ m ∧ m ≤ 9223372036854775807) := by
  unfold midR at h
  simp only at h
  split at h
  · cases h
  · rename_i hb
    obtain ⟨c, hc, e1, e2⟩ := bestK_yes rest 9 (fun e => hb (by rw [e]; rfl))
    rw [e1] at h
    simp only at h
    split at h
    · cases h
    · rename_i hs
      obtain ⟨n, m, rfl, e3, hn, hm⟩ := endR_some h
      have e4 := beginsP_yes e2
      have e5 : rest.drop (clsOf (c : Int)).length = 32 :: (beginsP (clsOf (c : Int) ++ [32]) rest).1 := by
        conv => lhs; rw [e4, List.append_assoc]
        rw [List.drop_left' rfl]; rfl
      have e6 : rest = clsOf (c : Int) ++ rest.drop (clsOf (c : Int)).length := by
        rw [e5]; conv => lhs; rw [e4]
        simp
      refine ⟨c, _, _, n, m, hc, rfl, ?_, ?_, hn, hm⟩
      · intro h1
        rw [h1] at hs
        simpa using hs
      · conv => lhs; rw [e6]
        congr 1
        generalize rest.drop (clsOf (c : Int)).length = r at *
        cases hp : (beginsP repR r).2 with
        | true =>
          have p1 := beginsP_yes hp
          rw [if_pos rfl]
          conv => lhs; rw [p1]
          congr 1
          generalize (beginsP repR r).1 = r' at *
          cases hq : (beginsP assR r').2 with
          | true => rw [if_pos rfl]; conv => lhs; rw [beginsP_yes hq, e3]
          | false => rw [if_neg (by simp), List.nil_append, ← e3, beginsP_no hq]
        | false =>
          have p1 := beginsP_no hp
          rw [if_neg (by simp), List.nil_append]
          rw [p1] at e3 ⊢
          cases hq : (beginsP assR r).2 with
          | true => rw [if_pos rfl]; conv => lhs; rw [beginsP_yes hq, e3]
          | false => rw [if_neg (by simp), List.nil_append, ← e3, beginsP_no hq]
theorem rep_dead (r : List UInt8) : beginsP repR (deadR ++ r) = (deadR ++ r, false) := by simp [beginsP, repR, deadR]
theorem ass_dead (r : List UInt8) : beginsP assR (deadR ++ r) = (deadR ++ r, false) := by simp [beginsP, assR, deadR]
theorem midR_app (k : List UInt8) (sd n m : Int) (c : Nat) (rp ss : Bool) (hc : c < 9) (hs : ss = true → rp = true) (n0 : 0 ≤ n) (n1 : n ≤ 9223372036854775807) (m0 : 0 ≤ m) (m1 : m ≤ 9223372036854775807) :
    midR k sd (clsOf (c : Int) ++ ((if rp then repR else []) ++ ((if ss then assR else []) ++ (deadR ++ (dec n ++ (seenR ++ (dec m ++ []))))))) = some ⟨kPr k, kS k, kD k, kSp k, kDp k, sd, (c : Int), rp, ss, n, m⟩ := by
  have h32 : ∃ t, ((if rp then repR else []) ++ ((if ss then assR else []) ++ (deadR ++ (dec n ++ (seenR ++ (dec m ++ [])))))) = 32 :: t := by
    cases rp <;> cases ss <;> exact ⟨_, rfl⟩
  obtain ⟨t, ht⟩ := h32
  have hne : (clsOf (c : Int) == []) = false := by
    have := (cls_at (c : Int) (by omega) (by omega)).1
    exact beq_eq_false_iff_ne.2 this
  unfold midR
  simp only
  rw [ht, bestK_cls c hc t]
  simp only [hne, List.drop_left' rfl]
  rw [← ht]
  rw [if_neg (by simp)]
  cases rp <;> cases ss
  · simp only [Bool.false_eq_true, if_false, List.nil_append]
    rw [rep_dead]
    simp only
    rw [ass_dead]
    exact endR_app _ _ _ _ _ _ _ n m _ _ n0 n1 m0 m1
  · exact absurd (hs rfl) (by simp)
  · simp only [Bool.false_eq_true, if_false, if_true, List.nil_append]
    rw [beginsP_app]
    simp only
    rw [ass_dead]
    exact endR_app _ _ _ _ _ _ _ n m _ _ n0 n1 m0 m1
  · simp only [if_true]
    rw [beginsP_app]
    simp only
    rw [beginsP_app]
    exact endR_app _ _ _ _ _ _ _ n m _ _ n0 n1 m0 m1
theorem kText_of {k : List UInt8} (h : kvB k = true) : keyTextL (kPr k) (kS k) (kD k) (kSp k) (kDp k) = k := by
  unfold kvB kText at h; exact beq_iff_eq.1 h
/-- What the reference reads is a right line, and its text. -/
theorem refReadL_some {s : List UInt8} {l : Ln} (h : refReadL s = some l) : LnB l ∧ l.right = true ∧ l.text = s := by
  unfold refReadL at h
  simp only at h
  split at h
  · rename_i hk
    have hkt := kText_of hk
    have hkb := kv_bounds (s.take (spAt 0 s))
    rw [hk] at hkb
    simp only [kv, if_true] at hkb
    have key : ∀ (sd : Int) (R : List UInt8), (sd = 0 ∨ sd = 1) → R = 32 :: sideW sd ++ [32] → (beginsP R (s.drop (spAt 0 s))).2 = true → midR (s.take (spAt 0 s)) sd (beginsP R (s.drop (spAt 0 s))).1 = some l → LnB l ∧ l.right = true ∧ l.text = s := by
      intro sd R hsd hR hb hm
      subst hR
      obtain ⟨c, rp, ss, n, m, hc, rfl, hs, e, hn, hm2⟩ := midR_some hm
      have hbn : LnB ⟨kPr (s.take (spAt 0 s)), kS (s.take (spAt 0 s)), kD (s.take (spAt 0 s)), kSp (s.take (spAt 0 s)), kDp (s.take (spAt 0 s)), sd, (c : Int), rp, ss, n, m⟩ := by
        constructor <;> dsimp only
        · exact hkb
        all_goals (rcases hsd with rfl | rfl <;> omega)
      have hr : (Ln.mk (kPr (s.take (spAt 0 s))) (kS (s.take (spAt 0 s))) (kD (s.take (spAt 0 s))) (kSp (s.take (spAt 0 s))) (kDp (s.take (spAt 0 s))) sd (c : Int) rp ss n m).right = true := by
        unfold Ln.right
        simp only [Bool.and_eq_true, decide_eq_true_eq, Bool.or_eq_true, Bool.not_eq_true']
        refine ⟨⟨⟨⟨by rcases hsd with rfl | rfl <;> omega, by omega⟩, ?_⟩, hn.1⟩, hm2.1⟩
        cases ss with
        | true => exact .inl (hs rfl)
        | false => exact .inr rfl
      refine ⟨hbn, hr, ?_⟩
      rw [text_flat _ hbn hr]
      dsimp only
      rw [hkt, ← e]
      have e2 := beginsP_yes hb
      conv => rhs; rw [← List.take_append_drop (spAt 0 s) s, e2]
      simp
    split at h
    · rename_i hb; exact key 0 inR (.inl rfl) rfl hb h
    · split at h
      · rename_i hb; exact key 1 outR (.inr rfl) rfl hb h
      · cases h
  · cases h
theorem spAt_key (pr s d sp dp : Int) (r0 : 0 ≤ pr) (sp0 : 0 ≤ sp) (dp0 : 0 ≤ dp) (r : List UInt8) : spAt 0 (keyTextL pr s d sp dp ++ 32 :: r) = (keyTextL pr s d sp dp).length := by
  rw [key_join]
  have h1 := dec_digit pr r0 32 (by decide)
  have h2 := port_chars s sp sp0
  have h3 := port_chars d dp dp0
  generalize dec pr = a at *
  generalize textL s ++ [58] ++ dec sp = b at *
  generalize textL d ++ [58] ++ dec dp = c at *
  have e : Lib.join [a, b, c] [32] ++ 32 :: r = a ++ 32 :: (b ++ 32 :: (c ++ 32 :: r)) := by simp [Lib.join]
  rw [e, spAt_word 0 a _ h1, if_neg (by decide), spAt_word 1 b _ h2, if_neg (by decide), spAt_word 2 c _ h3, if_pos rfl]
  simp [Lib.join]
/-- The reference reads the text of a right line. -/
theorem refReadL_text (l : Ln) (b : LnB l) (h : l.right = true) : refReadL l.text = some l := by
  obtain ⟨h1, h2, h3, h4, h5⟩ := lnRight_parts h
  obtain ⟨k1, k2, k3, k4, k5⟩ := readKey_text l.pr l.s l.d l.sp l.dp b.key.r0 b.key.r1 b.key.s0 b.key.s1 b.key.d0 b.key.d1 b.key.sp0 b.key.sp1 b.key.dp0 b.key.dp1
  have hb : kvB (keyTextL l.pr l.s l.d l.sp l.dp) = true := by unfold kvB kText; rw [k1, k2, k3, k4, k5]; simp
  obtain ⟨c, hc⟩ : ∃ c : Nat, l.cl = (c : Int) := ⟨l.cl.toNat, by have := b.cl0; omega⟩
  have hm := fun (sd : Int) => midR_app (keyTextL l.pr l.s l.d l.sp l.dp) sd l.dl l.sn c l.rp l.ss (by omega) h3 h4 b.dl1 h5 b.sn1
  rw [text_flat l b h, hc]
  generalize (clsOf (c : Int) ++ ((if l.rp then repR else []) ++ ((if l.ss then assR else []) ++ (deadR ++ (dec l.dl ++ (seenR ++ (dec l.sn ++ []))))))) = T at *
  have hsp : spAt 0 (keyTextL l.pr l.s l.d l.sp l.dp ++ (32 :: sideW l.sd ++ 32 :: T)) = (keyTextL l.pr l.s l.d l.sp l.dp).length := spAt_key _ _ _ _ _ b.key.r0 b.key.sp0 b.key.dp0 _
  unfold refReadL
  simp only
  rw [hsp, List.take_left' rfl, List.drop_left' rfl, hb, if_pos rfl]
  have hl : l = ⟨kPr (keyTextL l.pr l.s l.d l.sp l.dp), kS (keyTextL l.pr l.s l.d l.sp l.dp), kD (keyTextL l.pr l.s l.d l.sp l.dp), kSp (keyTextL l.pr l.s l.d l.sp l.dp), kDp (keyTextL l.pr l.s l.d l.sp l.dp), l.sd, (c : Int), l.rp, l.ss, l.dl, l.sn⟩ := by
    rw [k1, k2, k3, k4, k5, ← hc]
  have hsd : l.sd = 0 ∨ l.sd = 1 := by have := b.sd0; omega
  rcases hsd with hsd | hsd
  · have e : (32 :: sideW l.sd ++ 32 :: T) = inR ++ T := by rw [hsd]; rfl
    rw [e, beginsP_app, if_pos rfl, hm 0]
    conv => rhs; rw [hl, hsd]
  · have e : (32 :: sideW l.sd ++ 32 :: T) = outR ++ T := by rw [hsd]; rfl
    have e0 : (beginsP inR (outR ++ T)).2 = false := by simp [beginsP, inR, outR]
    rw [e, e0, if_neg (by simp), beginsP_app, if_pos rfl, hm 1]
    conv => rhs; rw [hl, hsd]
/-- The reference and the program read alike. -/
theorem refRead_eq (s : List UInt8) : refReadL s = readLn s := by
  cases h : refReadL s with
  | some l =>
    obtain ⟨h1, h2, h3⟩ := refReadL_some h
    rw [← h3, readLn_text l h1 h2]
  | none =>
    cases h2 : readLn s with
    | none => rfl
    | some l =>
      exfalso
      obtain ⟨h3, h4, _⟩ := readLn_some h2
      rw [← h4, refReadL_text l (readLn_b h2) h3] at h
      cases h
end Go.Ab
namespace Go.Ab
/-- The number behind the first i prefixes. -/
def nx (a : Int) (l : List (Int × Int)) : Nat → Int
  | 0 => a
  | i + 1 => match l[i]? with | some p => p.1 + sz p.2 | none => 0
end Go.Ab
namespace Go.Ab
open Go.Proofs.YtlbbepgfjigjpaaGreatDoor
theorem refText_eq (a : Int) (a0 : 0 ≤ a) (a1 : a < 4294967296) : dec (a / 16777216) ++ [46] ++ dec (a / 65536 % 256) ++ [46] ++ dec (a / 256 % 256) ++ [46] ++ dec (a % 256) = textL a := by
  have o0 : oct a 0 = a / 16777216 % 256 := rfl
  have o1 : oct a 1 = a / 65536 % 256 := rfl
  have o2 : oct a 2 = a / 256 % 256 := rfl
  have o3 : oct a 3 = a / 1 % 256 := rfl
  unfold textL
  rw [o0, o1, o2, o3, Int.ediv_one, show a / 16777216 % 256 = a / 16777216 by omega]
  simp [Lib.join]
end Go.Ab
namespace Go.Proofs.YtlbbepgfjigjpaaGreatDoor
open Go.RowKit Go.Ab
attribute [local go_sem high] eq_key
set_option maxHeartbeats 4000000 in
set_option maxRecDepth 100000 in
theorem refText_any (a : Int) (w : World) (a0 : 0 ≤ a) (a1 : a < 4294967296) : Gives Tryz.prog 88 #[.int .i64 a] w (.string ⟨(textL a).toArray⟩) := by
  have l1 := dec_length (a / 16777216) (by omega) (by omega)
  have l2 := dec_length (a / 65536 % 256) (by omega) (by omega)
  have l3 := dec_length (a / 256 % 256) (by omega) (by omega)
  have l4 := dec_length (a % 256) (by omega) (by omega)
  unfold Gives
  go_enter Tryz.func88, Tryz.ntmps88
  go_wp2_with (go_at_call 54; refine (refDecimal_any _ _ (by omega) (by omega)).mono ?_; rintro e w' ⟨rfl, x, rfl⟩)
  go_ret
  exact ⟨by rw [← refText_eq a a0 a1]; rfl, mkI⟩
end Go.Proofs.YtlbbepgfjigjpaaGreatDoor
namespace Go.Proofs.YtlbbepgfjigjpaaGreatDoor
open Go.RowKit Go.Ab
attribute [local go_sem high] eq_key
end Go.Proofs.YtlbbepgfjigjpaaGreatDoor
namespace Go.Proofs.YtlbbepgfjigjpaaGreatDoor
open Go.RowKit Go.Ab
attribute [local go_sem high] eq_key
set_option maxHeartbeats 4000000 in
set_option maxRecDepth 100000 in
theorem refKeyText_any (pr s d sp dp : Int) (w : World) (k : KeyB pr s d sp dp) : Gives Tryz.prog 53 #[.agg #[.int .u8 pr, .int .u32 s, .int .u32 d, .int .u16 sp, .int .u16 dp]] w (.string ⟨(keyTextL pr s d sp dp).toArray⟩) := by
  obtain ⟨r0, r1, s0, s1, d0, d1, sp0, sp1, dp0, dp1⟩ := k
  unfold Gives
  have l1 := textL_length s
  have l2 := textL_length d
  have l3 := dec_length pr (by omega) (by omega)
  have l4 := dec_length sp (by omega) (by omega)
  have l5 := dec_length dp (by omega) (by omega)
  go_enter Tryz.func53, Tryz.ntmps53
  go_wp2_with fail
  (refine wp_region_ext (by kernel_rfl) (by kernel_rfl) ?_; (repeat (go_big_quiet_step ((first
    | (go_at_call 88; exact (refText_any _ _ (by omega) (by omega)).ext)
    | (go_at_call 54; exact (refDecimal_any _ _ (by omega) (by omega)).ext))))); refine wpQuiet_nil ?_; rintro _ ⟨y, rfl⟩)
  go_wp2
  go_ret
  exact ⟨rfl, mkI⟩
end Go.Proofs.YtlbbepgfjigjpaaGreatDoor
namespace Go.Proofs.YtlbbepgfjigjpaaGreatDoor
open Go.RowKit Go.Ab
attribute [local go_sem high] eq_key
set_option maxHeartbeats 16000000 in
set_option maxRecDepth 100000 in
theorem refCompare_any (pr s d sp dp pr' s' d' sp' dp' : Int) (w : World) (k1 : KeyB pr s d sp dp) (k2 : KeyB pr' s' d' sp' dp') :
    Gives Tryz.prog 58 #[.agg #[.int .u8 pr, .int .u32 s, .int .u32 d, .int .u16 sp, .int .u16 dp], .agg #[.int .u8 pr', .int .u32 s', .int .u32 d', .int .u16 sp', .int .u16 dp']] w
      (.int .i64 (keyCmp pr s d sp dp pr' s' d' sp' dp')) := by
  obtain ⟨r0, r1, s0, s1, d0, d1, sp0, sp1, dp0, dp1⟩ := k1
  obtain ⟨r0', r1', s0', s1', d0', d1', sp0', sp1', dp0', dp1'⟩ := k2
  unfold Gives
  go_enter Tryz.func58, Tryz.ntmps58
  go_wp2_with fail
  go_loopw [7] (fun i wr => ∃ k : Nat, k ≤ 5 ∧ i = .int .i64 k ∧ Hid (∀ j, j < k → partI pr s d sp dp j = partI pr' s' d' sp' dp' j) ∧
      ∃ x : Ext ((((w.alloc (.cells #[.int .u8 pr, .int .u32 s, .int .u32 d, .int .u16 sp, .int .u16 dp] 29)).alloc (.cells #[.int .u8 pr', .int .u32 s', .int .u32 d', .int .u16 sp', .int .u16 dp'] 29)).alloc (.cells #[.int .i64 pr, .int .i64 s, .int .i64 sp, .int .i64 d, .int .i64 dp] 3)).alloc (.cells #[.int .i64 pr', .int .i64 s', .int .i64 sp', .int .i64 d', .int .i64 dp'] 3)), wr = x.w) (fun i _ => 5 - (intOf i).toNat)
  case atStart => exact ⟨0, by omega, rfl, (fun j hj => by omega), (Up.refl _).mk⟩
  case round =>
    obtain ⟨k, hk, rfl, heq, x, rfl⟩ := hrel
    rcases (by omega : k = 0 ∨ k = 1 ∨ k = 2 ∨ k = 3 ∨ k = 4 ∨ k = 5) with rfl | rfl | rfl | rfl | rfl | rfl
    · rcases Int.lt_trichotomy pr pr' with hlt | he | hgt
      · have Hn : Hid (keyCmp pr s d sp dp pr' s' d' sp' dp' = -1) := Lib.hid ((keyCmp_at _ _ 0 (by omega) heq.out (show pr ≠ pr' by omega)).trans (by show cmpI pr pr' = -1; unfold cmpI; rw [if_pos hlt]))
        go_wp2_with fail
        (refine wp_region_ext (by kernel_rfl) (by kernel_rfl) ?_; (repeat (go_big_quiet_step (fail))); refine wpQuiet_nil ?_; rintro _ ⟨y, rfl⟩)
        go_wp2_with fail
        go_ret
        exact ⟨ret_int Hn.out.symm, mkI⟩
      · have He : Hid (pr = pr') := Lib.hid he
        have c1 : decide (pr < pr') = false := by simp; omega
        have c2 : decide (pr' < pr) = false := by simp; omega
        clear he
        go_wp2_with fail
        (refine wp_region_ext (by kernel_rfl) (by kernel_rfl) ?_; (repeat (go_big_quiet_step (fail))); refine wpQuiet_nil ?_; rintro _ ⟨y, rfl⟩)
        go_wp2_with fail
        (refine wp_region_ext (by kernel_rfl) (by kernel_rfl) ?_; (repeat (go_big_quiet_step (fail))); refine wpQuiet_nil ?_; rintro _ ⟨z, rfl⟩)
        go_wp2_with fail
        go_roundw
        case rel => exact ⟨1, by omega, rfl, Lib.hid (lt_succ_all heq.out He.out), mkI⟩
        case measure => simp [intOf]
      · have Hn : Hid (keyCmp pr s d sp dp pr' s' d' sp' dp' = 1) := Lib.hid ((keyCmp_at _ _ 0 (by omega) heq.out (show pr ≠ pr' by omega)).trans (by show cmpI pr pr' = 1; unfold cmpI; rw [if_neg (by omega), if_pos hgt]))
        have c1 : decide (pr < pr') = false := by simp; omega
        go_wp2_with fail
        (refine wp_region_ext (by kernel_rfl) (by kernel_rfl) ?_; (repeat (go_big_quiet_step (fail))); refine wpQuiet_nil ?_; rintro _ ⟨y, rfl⟩)
        go_wp2_with fail
        (refine wp_region_ext (by kernel_rfl) (by kernel_rfl) ?_; (repeat (go_big_quiet_step (fail))); refine wpQuiet_nil ?_; rintro _ ⟨z, rfl⟩)
        go_wp2_with fail
        go_ret
        exact ⟨ret_int Hn.out.symm, mkI⟩
    · rcases Int.lt_trichotomy s s' with hlt | he | hgt
      · have Hn : Hid (keyCmp pr s d sp dp pr' s' d' sp' dp' = -1) := Lib.hid ((keyCmp_at _ _ 1 (by omega) heq.out (show s ≠ s' by omega)).trans (by show cmpI s s' = -1; unfold cmpI; rw [if_pos hlt]))
        go_wp2_with fail
        (refine wp_region_ext (by kernel_rfl) (by kernel_rfl) ?_; (repeat (go_big_quiet_step (fail))); refine wpQuiet_nil ?_; rintro _ ⟨y, rfl⟩)
        go_wp2_with fail
        go_ret
        exact ⟨ret_int Hn.out.symm, mkI⟩
      · have He : Hid (s = s') := Lib.hid he
        have c1 : decide (s < s') = false := by simp; omega
        have c2 : decide (s' < s) = false := by simp; omega
        clear he
        go_wp2_with fail
        (refine wp_region_ext (by kernel_rfl) (by kernel_rfl) ?_; (repeat (go_big_quiet_step (fail))); refine wpQuiet_nil ?_; rintro _ ⟨y, rfl⟩)
        go_wp2_with fail
        (refine wp_region_ext (by kernel_rfl) (by kernel_rfl) ?_; (repeat (go_big_quiet_step (fail))); refine wpQuiet_nil ?_; rintro _ ⟨z, rfl⟩)
        go_wp2_with fail
        go_roundw
        case rel => exact ⟨2, by omega, rfl, Lib.hid (lt_succ_all heq.out He.out), mkI⟩
        case measure => simp [intOf]
      · have Hn : Hid (keyCmp pr s d sp dp pr' s' d' sp' dp' = 1) := Lib.hid ((keyCmp_at _ _ 1 (by omega) heq.out (show s ≠ s' by omega)).trans (by show cmpI s s' = 1; unfold cmpI; rw [if_neg (by omega), if_pos hgt]))
        have c1 : decide (s < s') = false := by simp; omega
        go_wp2_with fail
        (refine wp_region_ext (by kernel_rfl) (by kernel_rfl) ?_; (repeat (go_big_quiet_step (fail))); refine wpQuiet_nil ?_; rintro _ ⟨y, rfl⟩)
        go_wp2_with fail
        (refine wp_region_ext (by kernel_rfl) (by kernel_rfl) ?_; (repeat (go_big_quiet_step (fail))); refine wpQuiet_nil ?_; rintro _ ⟨z, rfl⟩)
        go_wp2_with fail
        go_ret
        exact ⟨ret_int Hn.out.symm, mkI⟩
    · rcases Int.lt_trichotomy sp sp' with hlt | he | hgt
      · have Hn : Hid (keyCmp pr s d sp dp pr' s' d' sp' dp' = -1) := Lib.hid ((keyCmp_at _ _ 2 (by omega) heq.out (show sp ≠ sp' by omega)).trans (by show cmpI sp sp' = -1; unfold cmpI; rw [if_pos hlt]))
        go_wp2_with fail
        (refine wp_region_ext (by kernel_rfl) (by kernel_rfl) ?_; (repeat (go_big_quiet_step (fail))); refine wpQuiet_nil ?_; rintro _ ⟨y, rfl⟩)
        go_wp2_with fail
        go_ret
        exact ⟨ret_int Hn.out.symm, mkI⟩
      · have He : Hid (sp = sp') := Lib.hid he
        have c1 : decide (sp < sp') = false := by simp; omega
        have c2 : decide (sp' < sp) = false := by simp; omega
        clear he
        go_wp2_with fail
        (refine wp_region_ext (by kernel_rfl) (by kernel_rfl) ?_; (repeat (go_big_quiet_step (fail))); refine wpQuiet_nil ?_; rintro _ ⟨y, rfl⟩)
        go_wp2_with fail
        (refine wp_region_ext (by kernel_rfl) (by kernel_rfl) ?_; (repeat (go_big_quiet_step (fail))); refine wpQuiet_nil ?_; rintro _ ⟨z, rfl⟩)
        go_wp2_with fail
        go_roundw
        case rel => exact ⟨3, by omega, rfl, Lib.hid (lt_succ_all heq.out He.out), mkI⟩
        case measure => simp [intOf]
      · have Hn : Hid (keyCmp pr s d sp dp pr' s' d' sp' dp' = 1) := Lib.hid ((keyCmp_at _ _ 2 (by omega) heq.out (show sp ≠ sp' by omega)).trans (by show cmpI sp sp' = 1; unfold cmpI; rw [if_neg (by omega), if_pos hgt]))
        have c1 : decide (sp < sp') = false := by simp; omega
        go_wp2_with fail
        (refine wp_region_ext (by kernel_rfl) (by kernel_rfl) ?_; (repeat (go_big_quiet_step (fail))); refine wpQuiet_nil ?_; rintro _ ⟨y, rfl⟩)
        go_wp2_with fail
        (refine wp_region_ext (by kernel_rfl) (by kernel_rfl) ?_; (repeat (go_big_quiet_step (fail))); refine wpQuiet_nil ?_; rintro _ ⟨z, rfl⟩)
        go_wp2_with fail
        go_ret
        exact ⟨ret_int Hn.out.symm, mkI⟩
    · rcases Int.lt_trichotomy d d' with hlt | he | hgt
      · have Hn : Hid (keyCmp pr s d sp dp pr' s' d' sp' dp' = -1) := Lib.hid ((keyCmp_at _ _ 3 (by omega) heq.out (show d ≠ d' by omega)).trans (by show cmpI d d' = -1; unfold cmpI; rw [if_pos hlt]))
        go_wp2_with fail
        (refine wp_region_ext (by kernel_rfl) (by kernel_rfl) ?_; (repeat (go_big_quiet_step (fail))); refine wpQuiet_nil ?_; rintro _ ⟨y, rfl⟩)
        go_wp2_with fail
        go_ret
        exact ⟨ret_int Hn.out.symm, mkI⟩
      · have He : Hid (d = d') := Lib.hid he
        have c1 : decide (d < d') = false := by simp; omega
        have c2 : decide (d' < d) = false := by simp; omega
        clear he
        go_wp2_with fail
        (refine wp_region_ext (by kernel_rfl) (by kernel_rfl) ?_; (repeat (go_big_quiet_step (fail))); refine wpQuiet_nil ?_; rintro _ ⟨y, rfl⟩)
        go_wp2_with fail
        (refine wp_region_ext (by kernel_rfl) (by kernel_rfl) ?_; (repeat (go_big_quiet_step (fail))); refine wpQuiet_nil ?_; rintro _ ⟨z, rfl⟩)
        go_wp2_with fail
        go_roundw
        case rel => exact ⟨4, by omega, rfl, Lib.hid (lt_succ_all heq.out He.out), mkI⟩
        case measure => simp [intOf]
      · have Hn : Hid (keyCmp pr s d sp dp pr' s' d' sp' dp' = 1) := Lib.hid ((keyCmp_at _ _ 3 (by omega) heq.out (show d ≠ d' by omega)).trans (by show cmpI d d' = 1; unfold cmpI; rw [if_neg (by omega), if_pos hgt]))
        have c1 : decide (d < d') = false := by simp; omega
        go_wp2_with fail
        (refine wp_region_ext (by kernel_rfl) (by kernel_rfl) ?_; (repeat (go_big_quiet_step (fail))); refine wpQuiet_nil ?_; rintro _ ⟨y, rfl⟩)
        go_wp2_with fail
        (refine wp_region_ext (by kernel_rfl) (by kernel_rfl) ?_; (repeat (go_big_quiet_step (fail))); refine wpQuiet_nil ?_; rintro _ ⟨z, rfl⟩)
        go_wp2_with fail
        go_ret
        exact ⟨ret_int Hn.out.symm, mkI⟩
    · rcases Int.lt_trichotomy dp dp' with hlt | he | hgt
      · have Hn : Hid (keyCmp pr s d sp dp pr' s' d' sp' dp' = -1) := Lib.hid ((keyCmp_at _ _ 4 (by omega) heq.out (show dp ≠ dp' by omega)).trans (by show cmpI dp dp' = -1; unfold cmpI; rw [if_pos hlt]))
        go_wp2_with fail
        (refine wp_region_ext (by kernel_rfl) (by kernel_rfl) ?_; (repeat (go_big_quiet_step (fail))); refine wpQuiet_nil ?_; rintro _ ⟨y, rfl⟩)
        go_wp2_with fail
        go_ret
        exact ⟨ret_int Hn.out.symm, mkI⟩
      · have He : Hid (dp = dp') := Lib.hid he
        have c1 : decide (dp < dp') = false := by simp; omega
        have c2 : decide (dp' < dp) = false := by simp; omega
        clear he
        go_wp2_with fail
        (refine wp_region_ext (by kernel_rfl) (by kernel_rfl) ?_; (repeat (go_big_quiet_step (fail))); refine wpQuiet_nil ?_; rintro _ ⟨y, rfl⟩)
        go_wp2_with fail
        (refine wp_region_ext (by kernel_rfl) (by kernel_rfl) ?_; (repeat (go_big_quiet_step (fail))); refine wpQuiet_nil ?_; rintro _ ⟨z, rfl⟩)
        go_wp2_with fail
        go_roundw
        case rel => exact ⟨5, by omega, rfl, Lib.hid (lt_succ_all heq.out He.out), mkI⟩
        case measure => simp [intOf]
      · have Hn : Hid (keyCmp pr s d sp dp pr' s' d' sp' dp' = 1) := Lib.hid ((keyCmp_at _ _ 4 (by omega) heq.out (show dp ≠ dp' by omega)).trans (by show cmpI dp dp' = 1; unfold cmpI; rw [if_neg (by omega), if_pos hgt]))
        have c1 : decide (dp < dp') = false := by simp; omega
        go_wp2_with fail
        (refine wp_region_ext (by kernel_rfl) (by kernel_rfl) ?_; (repeat (go_big_quiet_step (fail))); refine wpQuiet_nil ?_; rintro _ ⟨y, rfl⟩)
        go_wp2_with fail
        (refine wp_region_ext (by kernel_rfl) (by kernel_rfl) ?_; (repeat (go_big_quiet_step (fail))); refine wpQuiet_nil ?_; rintro _ ⟨z, rfl⟩)
        go_wp2_with fail
        go_ret
        exact ⟨ret_int Hn.out.symm, mkI⟩
    · have Hn : Hid (keyCmp pr s d sp dp pr' s' d' sp' dp' = 0) := Lib.hid (keyCmp_eq _ _ heq.out)
      go_wp2_with fail
      go_ret
      exact ⟨ret_int Hn.out.symm, mkI⟩

set_option maxHeartbeats 8000000 in
set_option maxRecDepth 100000 in
theorem refReadKey_any (l : List UInt8) (w : World) (hl : l.length < 4294967281) : Gives Tryz.prog 49 #[.string ⟨l.toArray⟩] w (readKeyV l) := by
  have E0 : Hid ((0 : Int) = atOf l (some l)) := Lib.hid (by simp [atOf])
  have c1 : ∀ w, Gives Tryz.prog 85 #[.string ⟨l.toArray⟩, .int .i64 0, .int .i64 255] w (.tuple #[.int .i64 (rk1 l).1, .int .i64 (atOf l (rk1 l).2)]) := fun w => by
    rw [E0.out]; exact number_any l (some l) 255 w hl (suf_self l) (by omega) (by omega)
  have u1 : Suf l (rk1 l).2 := suf_num _ (suf_self l)
  have q1 : ∀ w, Gives Tryz.prog 86 #[.string ⟨l.toArray⟩, .int .i64 (atOf l (rk1 l).2), .int .u8 32] w (.int .i64 (atOf l (signP 32 (rk1 l).2))) := fun w => sign_any l (rk1 l).2 32 w hl u1
  have c2 : ∀ w, Gives Tryz.prog 87 #[.string ⟨l.toArray⟩, .int .i64 (atOf l (signP 32 (rk1 l).2))] w (.tuple #[.int .i64 (rk2 l).1, .int .i64 (atOf l (rk2 l).2)]) := fun w => address_any l _ w hl (suf_sign 32 u1)
  have u2 : Suf l (rk2 l).2 := suf_addr (suf_sign 32 u1)
  have q2 : ∀ w, Gives Tryz.prog 86 #[.string ⟨l.toArray⟩, .int .i64 (atOf l (rk2 l).2), .int .u8 58] w (.int .i64 (atOf l (signP 58 (rk2 l).2))) := fun w => sign_any l (rk2 l).2 58 w hl u2
  have c3 : ∀ w, Gives Tryz.prog 85 #[.string ⟨l.toArray⟩, .int .i64 (atOf l (signP 58 (rk2 l).2)), .int .i64 65535] w (.tuple #[.int .i64 (rk3 l).1, .int .i64 (atOf l (rk3 l).2)]) := fun w => number_any l _ 65535 w hl (suf_sign 58 u2) (by omega) (by omega)
  have u3 : Suf l (rk3 l).2 := suf_num _ (suf_sign 58 u2)
  have q3 : ∀ w, Gives Tryz.prog 86 #[.string ⟨l.toArray⟩, .int .i64 (atOf l (rk3 l).2), .int .u8 32] w (.int .i64 (atOf l (signP 32 (rk3 l).2))) := fun w => sign_any l (rk3 l).2 32 w hl u3
  have c4 : ∀ w, Gives Tryz.prog 87 #[.string ⟨l.toArray⟩, .int .i64 (atOf l (signP 32 (rk3 l).2))] w (.tuple #[.int .i64 (rk4 l).1, .int .i64 (atOf l (rk4 l).2)]) := fun w => address_any l _ w hl (suf_sign 32 u3)
  have u4 : Suf l (rk4 l).2 := suf_addr (suf_sign 32 u3)
  have q4 : ∀ w, Gives Tryz.prog 86 #[.string ⟨l.toArray⟩, .int .i64 (atOf l (rk4 l).2), .int .u8 58] w (.int .i64 (atOf l (signP 58 (rk4 l).2))) := fun w => sign_any l (rk4 l).2 58 w hl u4
  have c5 : ∀ w, Gives Tryz.prog 85 #[.string ⟨l.toArray⟩, .int .i64 (atOf l (signP 58 (rk4 l).2)), .int .i64 65535] w (.tuple #[.int .i64 (rk5 l).1, .int .i64 (atOf l (rk5 l).2)]) := fun w => number_any l _ 65535 w hl (suf_sign 58 u4) (by omega) (by omega)
  have b1 : 0 ≤ (rk1 l).1 ∧ (rk1 l).1 ≤ 255 := numP_bd 255 (by omega) _
  have b2 : 0 ≤ (rk2 l).1 ∧ (rk2 l).1 < 4294967296 := addrP_bd _
  have b3 : 0 ≤ (rk3 l).1 ∧ (rk3 l).1 ≤ 65535 := numP_bd 65535 (by omega) _
  have b4 : 0 ≤ (rk4 l).1 ∧ (rk4 l).1 < 4294967296 := addrP_bd _
  have b5 : 0 ≤ (rk5 l).1 ∧ (rk5 l).1 ≤ 65535 := numP_bd 65535 (by omega) _
  rw [ref_readKey l]
  obtain ⟨b1, b1'⟩ := b1; obtain ⟨b2, b2'⟩ := b2; obtain ⟨b3, b3'⟩ := b3; obtain ⟨b4, b4'⟩ := b4; obtain ⟨b5, b5'⟩ := b5
  clear E0 u1 u2 u3 u4
  generalize (rk1 l).1 = x1 at *; generalize (rk2 l).1 = x2 at *; generalize (rk3 l).1 = x3 at *; generalize (rk4 l).1 = x4 at *; generalize (rk5 l).1 = x5 at *
  generalize hy1 : (rk1 l).2 = y1 at *; generalize hy2 : (rk2 l).2 = y2 at *; generalize hy3 : (rk3 l).2 = y3 at *; generalize hy4 : (rk4 l).2 = y4 at *; generalize hy5 : (rk5 l).2 = y5 at *
  clear hy1 hy2 hy3 hy4 hy5
  generalize hz1 : signP 32 y1 = z1 at *; generalize hz2 : signP 58 y2 = z2 at *; generalize hz3 : signP 32 y3 = z3 at *; generalize hz4 : signP 58 y4 = z4 at *
  clear hz1 hz2 hz3 hz4
  unfold Gives
  by_cases h : y5 = some []
  · have t := at_eq (l := l) h
    rw [if_pos h]
    clear h
    go_enter Tryz.func49, Tryz.ntmps49
    go_wp2_with (first
      | (go_at_call 85; ((first | with_reducible refine (c1 _).mono ?_ | with_reducible refine (c3 _).mono ?_ | with_reducible refine (c5 _).mono ?_)); rintro e w' ⟨rfl, x, rfl⟩)
      | (go_at_call 87; ((first | with_reducible refine (c2 _).mono ?_ | with_reducible refine (c4 _).mono ?_)); rintro e w' ⟨rfl, x, rfl⟩)
      | (go_at_call 86; ((first | with_reducible refine (q1 _).mono ?_ | with_reducible refine (q2 _).mono ?_ | with_reducible refine (q3 _).mono ?_ | with_reducible refine (q4 _).mono ?_)); rintro e w' ⟨rfl, x, rfl⟩))
    refine bodyPost_ret (v := Value.tuple #[.agg #[.int .u8 x1, .int .u32 x2, .int .u32 x4, .int .u16 x3, .int .u16 x5], .int .i64 0]) (by simp [results, Tryz.results49, go_sem]) rfl ⟨rfl, mkI⟩
  · have t := at_ne (l := l) h
    rw [if_neg h]
    clear h
    go_enter Tryz.func49, Tryz.ntmps49
    go_wp2_with (first
      | (go_at_call 85; ((first | with_reducible refine (c1 _).mono ?_ | with_reducible refine (c3 _).mono ?_ | with_reducible refine (c5 _).mono ?_)); rintro e w' ⟨rfl, x, rfl⟩)
      | (go_at_call 87; ((first | with_reducible refine (c2 _).mono ?_ | with_reducible refine (c4 _).mono ?_)); rintro e w' ⟨rfl, x, rfl⟩)
      | (go_at_call 86; ((first | with_reducible refine (q1 _).mono ?_ | with_reducible refine (q2 _).mono ?_ | with_reducible refine (q3 _).mono ?_ | with_reducible refine (q4 _).mono ?_)); rintro e w' ⟨rfl, x, rfl⟩))
    refine bodyPost_ret (v := Value.tuple #[.agg #[.int .u8 0, .int .u32 0, .int .u32 0, .int .u16 0, .int .u16 0], .int .i64 30]) (by simp [results, Tryz.results49, go_sem]) rfl ⟨rfl, mkI⟩
end Go.Proofs.YtlbbepgfjigjpaaGreatDoor
namespace Go.Proofs.YtlbbepgfjigjpaaGreatDoor
open Go.RowKit Go.Ab
set_option maxHeartbeats 8000000 in
set_option maxRecDepth 100000 in
theorem rbegins_any (s wd : List UInt8) (w : World) (_ : s.length < 4294967281) (hw : wd.length < 4294967281) : Gives Tryz.prog 50 #[.string ⟨s.toArray⟩, .string ⟨wd.toArray⟩] w (.tuple #[.string ⟨(beginsP wd s).1.toArray⟩, .bool (beginsP wd s).2]) := by
  unfold Gives
  by_cases hlt : s.length < wd.length
  · have E := Lib.hid (show beginsP wd s = (s, false) by
      unfold beginsP
      rw [if_neg (fun e => by have := congrArg List.length e; rw [List.length_take] at this; omega)])
    have hd : decide (s.length < wd.length) = true := by simpa using hlt
    clear hlt
    go_enter Tryz.func50, Tryz.ntmps50
    go_wp2_with fail
    go_ret2
    exact ⟨by rw [E.out]; rfl, mkI⟩
  · have hle : wd.length ≤ s.length := by omega
    have hd : decide (s.length < wd.length) = false := by simpa using hle
    clear hlt
    have k0 : (0 : Int) ≤ (wd.length : Int) := by omega
    have k1 : (wd.length : Int) ≤ (s.length : Int) := by omega
    cases he : (s.take wd.length == wd)
    · have E := Lib.hid (show beginsP wd s = (s, false) by
        unfold beginsP
        rw [if_neg (by simpa using he)])
      have he2 : ((({ data := s.toArray } : ByteArray).extract 0 wd.length).toList == wd) = false := by rw [ba_take]; simpa using he
      clear he
      go_enter Tryz.func50, Tryz.ntmps50
      go_wp2_with fail
      go_ret2
      exact ⟨by rw [E.out]; rfl, mkI⟩
    · have E := Lib.hid (show beginsP wd s = (s.drop wd.length, true) by
        unfold beginsP
        rw [if_pos (by simpa using he)])
      have he2 : ((({ data := s.toArray } : ByteArray).extract 0 wd.length).toList == wd) = true := by rw [ba_take]; simpa using he
      clear he
      go_enter Tryz.func50, Tryz.ntmps50
      go_wp2_with fail
      go_ret2
      exact ⟨by rw [E.out, ← ba_drop]; rfl, mkI⟩
attribute [local go_sem] mk_get
set_option maxHeartbeats 16000000 in
set_option maxRecDepth 100000 in
theorem rnumber_any (l : List UInt8) (w : World) (hl : l.length < 4294967281) : Gives Tryz.prog 52 #[.string ⟨l.toArray⟩] w (.tuple #[.int .i64 (numR l).1, .string ⟨(numR l).2.1.toArray⟩, .bool (numR l).2.2]) := by
  unfold Gives
  have hno : numP 9223372036854775807 (some l) = (0, none) → numR l = (0, l, false) := fun h => by unfold numR; rw [h]
  have hyes : ∀ n r, numP 9223372036854775807 (some l) = (n, some r) → numR l = (n, r, true) := fun n r h => by unfold numR; rw [h]
  go_enter Tryz.func52, Tryz.ntmps52
  go_wp2_with fail
  go_loopw [5, 6] (fun n i wr => ∃ (j : Nat) (v : Int), j ≤ l.length ∧ i = .int .i64 (j : Int) ∧ n = .int .i64 v ∧ 0 ≤ v ∧ v ≤ 9223372036854775807 ∧ Hid (v = valL (l.take j)) ∧ Hid (∀ c ∈ l.take j, isDig c = true) ∧ wr = w) (fun _ i _ => l.length - (intOf i).toNat)
  case atStart => exact ⟨0, 0, Nat.zero_le _, rfl, rfl, by omega, by omega, Lib.hid (by simp [valL]), Lib.hid (by simp), rfl⟩
  case round =>
    obtain ⟨j, v, hj, rfl, rfl, v0, v1, Hv, Hd, rfl⟩ := hrel
    have stop := fun hs => numP_stop 9223372036854775807 l j hj Hd.out hs
    rw [← Hv.out] at stop
    have Hst := Lib.hid stop
    have Hno := Lib.hid hno; have Hyes := Lib.hid hyes
    clear stop hno hyes
    have fin : noDig (l.drop j) → ∀ (P : Prop), (j = 0 → numR l = (0, l, false) → P) → (∀ h : 0 < l.length, l[0] = 48 → 1 < j → numR l = (0, l, false) → P) → (∀ h : 0 < l.length, 0 < j → (l[0] = 48 → j ≤ 1) → numR l = (v, l.drop j, true) → P) → P := fun hn P h0 h1 h2 => by
      obtain ⟨R0, _, R2⟩ := Hst.out (.inr hn)
      by_cases e : j = 0
      · exact h0 e (Hno.out (R0 e))
      · have hlp : 0 < l.length := by omega
        by_cases h48 : l[0] = 48 ∧ 1 < j
        · exact h1 hlp h48.1 h48.2 (Hno.out ((R2 v1).1 hlp h48.1 h48.2))
        · have h3 : l[0] = 48 → j ≤ 1 := fun e2 => by
            by_cases h4 : 1 < j
            · exact absurd ⟨e2, h4⟩ h48
            · omega
          exact h2 hlp (by omega) h3 (Hyes.out _ _ ((R2 v1).2 hlp (by omega) h3))
    have Fin := Lib.hid fin
    clear fin
    by_cases hA : j < l.length
    · obtain ⟨b, hb⟩ : ∃ b, l[j] = b := ⟨_, rfl⟩
      have hjl : (j : Int) < (l.length : Int) := by omega
      have hdk : l.drop j = b :: l.drop (j + 1) := by rw [drop_at l j hA, hb]
      have hsn : l.take (j + 1) = l.take j ++ [b] := by rw [List.take_succ_eq_append_getElem hA, hb]
      have Hdk := Lib.hid hdk; have Hsn := Lib.hid hsn
      clear hdk hsn
      have j0 : (0 : Int) ≤ (j : Int) := by omega
      have FIN : (b.toNat < 48 ∨ 57 < b.toNat) → ∀ (P : Prop), (j = 0 → numR l = (0, l, false) → P) → (∀ h : 0 < l.length, l[0] = 48 → 1 < j → numR l = (0, l, false) → P) → (∀ h : 0 < l.length, 0 < j → (l[0] = 48 → j ≤ 1) → numR l = (v, l.drop j, true) → P) → P := fun h => Fin.out (by rw [Hdk.out]; unfold noDig isDig; simp; omega)
      have FN := Lib.hid FIN
      clear FIN
      by_cases hd : 48 ≤ b.toNat ∧ b.toNat ≤ 57
      · obtain ⟨hd1, hd2⟩ := hd
        have HD : Hid (∀ c ∈ l.take (j + 1), isDig c = true) := Lib.hid (by
          rw [Hsn.out]
          intro c hc
          rcases List.mem_append.1 hc with h | h
          · exact Hd.out c h
          · simp at h; subst h; unfold isDig; simp; omega)
        have HV : Hid (10 * v + ((b.toNat : Int) - 48) = valL (l.take (j + 1))) := Lib.hid (by rw [Hsn.out, valL_snoc, ← Hv.out])
        have i1 : (48 : Int) ≤ (b.toNat : Int) := by omega
        have i2 : (b.toNat : Int) ≤ 57 := by omega
        have hq : (9223372036854775807 - ((b.toNat : Int) - 48)).tdiv 10 = (9223372036854775807 - ((b.toNat : Int) - 48)) / 10 := Int.tdiv_eq_ediv_of_nonneg (by omega)
        by_cases hv : 10 * v + ((b.toNat : Int) - 48) ≤ 9223372036854775807
        · have hcmp : v ≤ (9223372036854775807 - ((b.toNat : Int) - 48)) / 10 := by omega
          clear Hst hd1 hd2
          go_wp2_with fail
          all_goals first | (exfalso; omega) | skip
          go_roundw
          case rel => exact ⟨j + 1, _, by omega, by go_num, rfl, by omega, hv, HV, HD, trivial⟩
          case measure => simp [intOf]; omega
        · have hcmp : (9223372036854775807 - ((b.toNat : Int) - 48)) / 10 < v := by omega
          have Z := Lib.hid (show numR l = (0, l, false) from Hno.out (by
            have := (numP_stop 9223372036854775807 l (j + 1) (by omega) HD.out (.inl (by rw [← HV.out]; omega))).2.1 (by rw [← HV.out]; omega)
            exact this))
          clear Hst hd1 hd2
          go_wp2_with fail
          all_goals first | (exfalso; omega) | skip
          go_ret3
          exact ⟨by rw [Z.out]; rfl, mkI⟩
      · have hdn : b.toNat < 48 ∨ 57 < b.toNat := by omega
        have hjl2 : j ≤ 4294967281 := by omega
        clear hd Hst
        refine FN.out hdn _ (fun hz Z0 => ?_) (fun hlp h48 h1 Z0 => ?_) (fun hlp h1 h48 Z0 => ?_)
        · have Z := Lib.hid Z0
          clear Z0 FN Fin
          subst hz
          rcases hdn with hdn | hdn
          · have i1 : (b.toNat : Int) < 48 := by omega
            go_wp2_with fail
            all_goals first | (exfalso; omega) | (go_ret3; exact ⟨by rw [Z.out]; rfl, mkI⟩)
          · have i1 : (57 : Int) < (b.toNat : Int) := by omega
            go_wp2_with fail
            all_goals first | (exfalso; omega) | (go_ret3; exact ⟨by rw [Z.out]; rfl, mkI⟩)
        · have Z := Lib.hid Z0
          clear Z0 FN Fin
          have b1 : ((j : Int) == 0) = false := by simp; omega
          have b2 : (1 : Int) < (j : Int) := by omega
          have c48 : (((l[0] : UInt8).toNat : Int) == 48) = true := by rw [h48]; rfl
          have Hb := Lib.hid hb
          clear h48
          rcases hdn with hdn | hdn
          · have i1 : (b.toNat : Int) < 48 := by omega
            go_wp2_with fail
            all_goals first | (exfalso; omega) | (go_ret3; exact ⟨by rw [Z.out]; rfl, mkI⟩)
          · have i1 : (57 : Int) < (b.toNat : Int) := by omega
            go_wp2_with fail
            all_goals first | (exfalso; omega) | (go_ret3; exact ⟨by rw [Z.out]; rfl, mkI⟩)
        · have Z := Lib.hid Z0
          clear Z0 FN Fin
          have b1 : ((j : Int) == 0) = false := by simp; omega
          have j1 : (0 : Int) < (j : Int) := by omega
          by_cases h8 : l[0] = 48
          · have b2 : (j : Int) ≤ 1 := by have := h48 h8; omega
            have c48 : (((l[0] : UInt8).toNat : Int) == 48) = true := by rw [h8]; rfl
            clear h8 h48
            rcases hdn with hdn | hdn
            · have i1 : (b.toNat : Int) < 48 := by omega
              go_wp2_with fail
              all_goals first | (exfalso; omega) | skip
              (refine wp_region_ext (by kernel_rfl) (by kernel_rfl) ?_; (repeat (go_big_quiet_step (fail))); refine wpQuiet_nil ?_; rintro _ ⟨y, rfl⟩)
              go_wp2_with fail
              go_ret3
              exact ⟨by rw [Z.out, ← ba_drop]; rfl, mkI⟩
            · have i1 : (57 : Int) < (b.toNat : Int) := by omega
              go_wp2_with fail
              all_goals first | (exfalso; omega) | skip
              (refine wp_region_ext (by kernel_rfl) (by kernel_rfl) ?_; (repeat (go_big_quiet_step (fail))); refine wpQuiet_nil ?_; rintro _ ⟨y, rfl⟩)
              go_wp2_with fail
              go_ret3
              exact ⟨by rw [Z.out, ← ba_drop]; rfl, mkI⟩
          · have c48 : (((l[0] : UInt8).toNat : Int) == 48) = false := by
              simp only [beq_eq_false_iff_ne, ne_eq]
              intro h; exact h8 (UInt8.toNat_inj.1 (by simp; omega))
            clear h8 h48
            rcases hdn with hdn | hdn
            · have i1 : (b.toNat : Int) < 48 := by omega
              go_wp2_with fail
              all_goals first | (exfalso; omega) | skip
              (refine wp_region_ext (by kernel_rfl) (by kernel_rfl) ?_; (repeat (go_big_quiet_step (fail))); refine wpQuiet_nil ?_; rintro _ ⟨y, rfl⟩)
              go_wp2_with fail
              go_ret3
              exact ⟨by rw [Z.out, ← ba_drop]; rfl, mkI⟩
            · have i1 : (57 : Int) < (b.toNat : Int) := by omega
              go_wp2_with fail
              all_goals first | (exfalso; omega) | skip
              (refine wp_region_ext (by kernel_rfl) (by kernel_rfl) ?_; (repeat (go_big_quiet_step (fail))); refine wpQuiet_nil ?_; rintro _ ⟨y, rfl⟩)
              go_wp2_with fail
              go_ret3
              exact ⟨by rw [Z.out, ← ba_drop]; rfl, mkI⟩
    · obtain rfl : j = l.length := by omega
      clear Hst
      refine Fin.out (by rw [List.drop_length]; trivial) _ (fun hz Z0 => ?_) (fun hlp h48 h1 Z0 => ?_) (fun hlp h1 h48 Z0 => ?_)
      · have Z := Lib.hid Z0
        clear Z0 Fin
        have b1 : ((l.length : Int) == 0) = true := beq_iff_eq.2 (by omega)
        go_wp2_with fail
        all_goals first | (exfalso; omega) | (go_ret3; exact ⟨by rw [Z.out]; rfl, mkI⟩)
      · have Z := Lib.hid Z0
        clear Z0 Fin
        have b1 : ((l.length : Int) == 0) = false := beq_eq_false_iff_ne.2 (by omega)
        have b2 : (1 : Int) < (l.length : Int) := by omega
        have c48 : (((l[0] : UInt8).toNat : Int) == 48) = true := by rw [h48]; rfl
        clear h48
        go_wp2_with fail
        all_goals first | (exfalso; omega) | (go_ret3; exact ⟨by rw [Z.out]; rfl, mkI⟩)
      · have Z := Lib.hid Z0
        clear Z0 Fin
        have b1 : ((l.length : Int) == 0) = false := beq_eq_false_iff_ne.2 (by omega)
        by_cases h8 : l[0] = 48
        · have b2 : (l.length : Int) ≤ 1 := by have := h48 h8; omega
          have c48 : (((l[0] : UInt8).toNat : Int) == 48) = true := by rw [h8]; rfl
          clear h8 h48
          go_wp2_with fail
          all_goals first | (exfalso; omega) | skip
          (refine wp_region_ext (by kernel_rfl) (by kernel_rfl) ?_; (repeat (go_big_quiet_step (fail))); refine wpQuiet_nil ?_; rintro _ ⟨y, rfl⟩)
          go_wp2_with fail
          go_ret3
          exact ⟨by rw [Z.out, List.drop_length]; rfl, mkI⟩
        · have c48 : (((l[0] : UInt8).toNat : Int) == 48) = false := by
            simp only [beq_eq_false_iff_ne, ne_eq]
            intro h; exact h8 (UInt8.toNat_inj.1 (by simp; omega))
          clear h8 h48
          go_wp2_with fail
          all_goals first | (exfalso; omega) | skip
          (refine wp_region_ext (by kernel_rfl) (by kernel_rfl) ?_; (repeat (go_big_quiet_step (fail))); refine wpQuiet_nil ?_; rintro _ ⟨y, rfl⟩)
          go_wp2_with fail
          go_ret3
          exact ⟨by rw [Z.out, List.drop_length]; rfl, mkI⟩
end Go.Proofs.YtlbbepgfjigjpaaGreatDoor
namespace Go.Proofs.YtlbbepgfjigjpaaGreatDoor
open Go.RowKit Go.Ab
set_option maxHeartbeats 16000000 in
set_option maxRecDepth 100000 in
theorem rright38_any (l : Ln) (w : World) (b : LnB l) : Gives Tryz.prog 19 #[l.val] w (.bool l.right) := by
  have r0 := b.sd0; have r1 := b.cl0
  obtain ⟨pr, s, d, sp, dp, sd, cl, rp, ss, dl, sn⟩ := l
  simp only at r0 r1
  clear b
  unfold Gives Ln.val
  by_cases h1 : sd ≤ 1
  · by_cases h2 : cl < 9
    · by_cases h3 : (rp || !ss) = true
      · by_cases h4 : 0 ≤ dl
        · by_cases h5 : 0 ≤ sn
          · have E : Hid (Ln.right ⟨pr, s, d, sp, dp, sd, cl, rp, ss, dl, sn⟩ = true) := Lib.hid (by simp only [Ln.right, h1, h2, h3, h4, h5]; rfl)
            cases rp <;> cases ss
            all_goals first | (exfalso; exact absurd h3 (by decide)) | skip
            all_goals
              clear h3
              go_enter Tryz.func19, Tryz.ntmps19
              go_wp2_with fail
              all_goals first | (exfalso; omega) | skip
              go_ret
              exact ⟨ret_bool E.out.symm, mkI⟩
          · have E : Hid (Ln.right ⟨pr, s, d, sp, dp, sd, cl, rp, ss, dl, sn⟩ = false) := Lib.hid (by simp [Ln.right, h5])
            cases rp <;> cases ss
            all_goals first | (exfalso; exact absurd h3 (by decide)) | skip
            all_goals
              clear h3
              go_enter Tryz.func19, Tryz.ntmps19
              go_wp2_with fail
              all_goals first | (exfalso; omega) | skip
              go_ret
              exact ⟨ret_bool E.out.symm, mkI⟩
        · have E : Hid (Ln.right ⟨pr, s, d, sp, dp, sd, cl, rp, ss, dl, sn⟩ = false) := Lib.hid (by simp [Ln.right, h4])
          cases rp <;> cases ss
          all_goals first | (exfalso; exact absurd h3 (by decide)) | skip
          all_goals
            clear h3
            go_enter Tryz.func19, Tryz.ntmps19
            go_wp2_with fail
            all_goals first | (exfalso; omega) | skip
            go_ret
            exact ⟨ret_bool E.out.symm, mkI⟩
      · have E : Hid (Ln.right ⟨pr, s, d, sp, dp, sd, cl, rp, ss, dl, sn⟩ = false) := Lib.hid (by simp [Ln.right, h3])
        cases rp <;> cases ss
        all_goals first | (exfalso; exact absurd rfl h3) | skip
        clear h3
        go_enter Tryz.func19, Tryz.ntmps19
        go_wp2_with fail
        all_goals first | (exfalso; omega) | skip
        go_ret
        exact ⟨ret_bool E.out.symm, mkI⟩
    · have E : Hid (Ln.right ⟨pr, s, d, sp, dp, sd, cl, rp, ss, dl, sn⟩ = false) := Lib.hid (by simp [Ln.right, h2])
      go_enter Tryz.func19, Tryz.ntmps19
      go_wp2_with fail
      all_goals first | (exfalso; omega) | skip
      go_ret
      exact ⟨ret_bool E.out.symm, mkI⟩
  · have E : Hid (Ln.right ⟨pr, s, d, sp, dp, sd, cl, rp, ss, dl, sn⟩ = false) := Lib.hid (by simp [Ln.right, h1])
    go_enter Tryz.func19, Tryz.ntmps19
    go_wp2_with fail
    all_goals first | (exfalso; omega) | skip
    go_ret
    exact ⟨ret_bool E.out.symm, mkI⟩

set_option maxHeartbeats 4000000 in
set_option maxRecDepth 100000 in
theorem rnames_any (w : World) (i : Nat) (hi : i < 9) (n : Nat) (hs : SizeIs w n) : Calls Tryz.prog 51 #[] w fun e w' => e = .returned (.slice (some ⟨n, 0, none⟩) 9 9) ∧ ∃ x : Ext w, x.w.cell? ⟨n, i, none⟩ = some (.string ⟨(clsOf (i : Int)).toArray⟩) ∧ LtSize n x.w ∧ w' = x.w := by
  obtain rfl := hs.eq
  clear hs
  go_enter Tryz.func51, Tryz.ntmps51
  go_wp2_with fail
  go_ret
  refine ⟨rfl, ⟨_, (Up.refl w).alloc _⟩, ?_, ?_, rfl⟩
  · show (World.alloc _ _).cell? _ = _
    rw [alloc_at_cellI]
    rcases (by omega : i = 0 ∨ i = 1 ∨ i = 2 ∨ i = 3 ∨ i = 4 ∨ i = 5 ∨ i = 6 ∨ i = 7 ∨ i = 8) with rfl | rfl | rfl | rfl | rfl | rfl | rfl | rfl | rfl <;> rfl
  · show LtSize _ (World.alloc _ _)
    infer_instance
end Go.Proofs.YtlbbepgfjigjpaaGreatDoor
namespace Go.Ab
open Go.RowKit Go.Proofs.YtlbbepgfjigjpaaGreatDoor
def rreadV (s : List UInt8) : Value := match refReadL s with | some l => .tuple #[l.val, .int .i64 0] | none => .tuple #[Ln.zero.val, .int .i64 382]
theorem rreadV_eq (s : List UInt8) : rreadV s = dreadV s := by unfold rreadV dreadV; rw [refRead_eq]; cases readLn s <;> rfl
/-- What is left to be read behind k bytes, of which sp were spaces. -/
theorem spAt_step (s : List UInt8) (k sp : Nat) (b : UInt8) (hk : k < s.length) (hb : s[k] = b) : spAt sp (s.drop k) = if b = 32 then (if sp = 2 then 0 else spAt (sp + 1) (s.drop (k + 1)) + 1) else spAt sp (s.drop (k + 1)) + 1 := by
  rw [drop_at s k hk, hb, spAt]
theorem beginsP_len (w l : List UInt8) : (beginsP w l).1.length ≤ l.length := by
  unfold beginsP
  split
  · show (l.drop _).length ≤ _; rw [List.length_drop]; omega
  · exact Nat.le_refl _
theorem midR_def (kk : List UInt8) (k1 k2 k3 k4 k5 sd : Int) (rest : List UInt8) (h : k1 = kPr kk ∧ k2 = kS kk ∧ k3 = kD kk ∧ k4 = kSp kk ∧ k5 = kDp kk) : midR kk sd rest = if (bestK rest 9).1 == [] then none else if (beginsP assR (beginsP repR (rest.drop (bestK rest 9).1.length)).1).2 && !(beginsP repR (rest.drop (bestK rest 9).1.length)).2 then none else endR k1 k2 k3 k4 k5 sd (bestK rest 9).2 (beginsP repR (rest.drop (bestK rest 9).1.length)).2 (beginsP assR (beginsP repR (rest.drop (bestK rest 9).1.length)).1).2 (beginsP assR (beginsP repR (rest.drop (bestK rest 9).1.length)).1).1 := by
  obtain ⟨rfl, rfl, rfl, rfl, rfl⟩ := h
  rfl
theorem lt_of_heap {w : World} {p : Nat} {o : Obj} (h : w.heap[p]? = some o) : p < w.heap.size := (Array.getElem?_eq_some_iff.1 h).1
theorem bestK_succ (rest : List UInt8) (k : Nat) : bestK rest (k + 1) = if (beginsP (clsOf (k : Int) ++ [32]) rest).2 && decide ((bestK rest k).1.length < (clsOf (k : Int)).length) then (clsOf (k : Int), (k : Int)) else bestK rest k := rfl
theorem bestK_len (rest : List UInt8) : ∀ k, (bestK rest k).1.length ≤ 11
  | 0 => by simp [bestK]
  | k + 1 => by
    rw [bestK]
    split
    · exact cls_length _
    · exact bestK_len rest k
theorem numR_len (l : List UInt8) : (numR l).2.1.length ≤ l.length := by
  cases h : (numR l).2.2 with
  | true =>
    have := congrArg List.length (numR_yes h).1
    rw [List.length_append] at this
    omega
  | false =>
    unfold numR at h ⊢
    cases hn : numP 9223372036854775807 (some l) with
    | mk n o =>
      rw [hn] at h
      cases o with
      | none => exact Nat.le_refl _
      | some r => cases h
theorem rl_all (x : Ln) : x.cells.toArray.all (·.oneCell') = true := Array.all_eq_true_iff_forall_mem.2 (fun u hu => x.one u (by simpa using hu))
theorem up_setRowS {w W : World} {g : Nat} (h : Up w W) (hg : w.heap.size ≤ g) (cs : Array Value) : Up w (W.setRow g cs) := Below.trans h ⟨rfl, rfl, rfl, by simp [World.setRow], fun k hk => setRow_other W g k cs (by omega)⟩
end Go.Ab
namespace Go.Proofs.YtlbbepgfjigjpaaGreatDoor
open Go.RowKit Go.Ab
theorem build_rkey (k1 k2 k3 k4 k5 : Int) (w : World) : (Instr.build 60 #[(0, .agg #[.int .u8 k1, .int .u32 k2, .int .u32 k3, .int .u16 k4, .int .u16 k5])]).run Tryz.prog w = .ok (.agg (Ln.mk k1 k2 k3 k4 k5 0 0 false false 0 0).cells.toArray) w := by kernel_rfl
theorem build_rzero (w : World) : (Instr.build 60 #[]).run Tryz.prog w = .ok (.agg Ln.zero.cells.toArray) w := by kernel_rfl
attribute [local go_sem high] build_rkey build_rzero
attribute [local go_sem] mk_get
theorem rlnSize : (Tryz.prog.info? 60).map (·.size) = some 11 := by kernel_rfl
set_option maxHeartbeats 32000000 in
set_option maxRecDepth 100000 in
theorem rread38_any (s : List UInt8) (w : World) (hs : s.length < 4294967281) : Gives Tryz.prog 17 #[.string ⟨s.toArray⟩] w (rreadV s) := by
  unfold Gives
  go_enter Tryz.func17, Tryz.ntmps17
  go_upto_region 1 with fail
  obtain ⟨B, hB⟩ : ∃ B, w.heap.size = B := ⟨_, rfl⟩
  rw [hB]
  refine wp_letter (fun W => UpI w W ∧ w.heap.size ≤ B ∧ B < W.heap.size ∧ W.heap[B]? = some (.cells Ln.zero.cells.toArray 60 (0, 0)))
    ⟨inferInstance, by omega, by rw [World.size_alloc]; omega, alloc_new hB⟩ ?_
  rintro W ⟨uW, hwB, hBW, hrB⟩
  haveI := uW
  haveI : LtSize B W := ⟨hBW⟩
  clear hB
  have hle := spAt_le s 0
  have HrB := Lib.hid hrB
  clear hrB
  go_upto_block 0 with fail
  go_cut [5] (fun v5 wx => v5 = .int .i64 (spAt 0 s : Int) ∧ W = wx)
  case first =>
    go_wp2_with fail
    go_loopw [4, 5] (fun sp i wr => ∃ (k n : Nat), k ≤ s.length ∧ n ≤ 2 ∧ i = .int .i64 (k : Int) ∧ sp = .int .i64 (n : Int) ∧ Hid (k + spAt n (s.drop k) = spAt 0 s) ∧ wr = W) (fun _ i _ => s.length - (intOf i).toNat)
    case atStart => exact ⟨0, 0, by omega, by omega, rfl, rfl, Lib.hid (by simp), rfl⟩
    case round =>
      obtain ⟨k, n, hk, hn, rfl, rfl, HK, rfl⟩ := hrel
      by_cases hlt : k < s.length
      · obtain ⟨b, hb⟩ : ∃ b, s[k] = b := ⟨_, rfl⟩
        have hkl : (k : Int) < (s.length : Int) := by omega
        have k0 : (0 : Int) ≤ (k : Int) := by omega
        have hst := spAt_step s k n b hlt hb
        by_cases h32 : b = 32
        · rw [if_pos h32] at hst
          have c32 : ((b.toNat : Int) == 32) = true := by rw [h32]; rfl
          by_cases h2 : n = 2
          · rw [if_pos h2] at hst
            have HE := Lib.hid (show k = spAt 0 s by have := HK.out; omega)
            subst h2
            clear hst h32 HK
            go_wp2_with fail
            go_meet
            exact ⟨by rw [← HE.out], rfl⟩
          · rw [if_neg h2] at hst
            have HE := Lib.hid (show (k + 1) + spAt (n + 1) (s.drop (k + 1)) = spAt 0 s by have := HK.out; omega)
            have c3 : (((n : Int) + 1) == 3) = false := beq_eq_false_iff_ne.2 (by omega)
            clear hst h32 HK
            go_wp2_with fail
            go_roundw
            case rel => exact ⟨k + 1, n + 1, by omega, by omega, by go_num, by go_num, HE, trivial⟩
            case measure => simp [intOf]; omega
        · rw [if_neg h32] at hst
          have c32 : ((b.toNat : Int) == 32) = false := by
            simp only [beq_eq_false_iff_ne, ne_eq]
            intro h; exact h32 (UInt8.toNat_inj.1 (by simp; omega))
          have HE := Lib.hid (show (k + 1) + spAt n (s.drop (k + 1)) = spAt 0 s by have := HK.out; omega)
          clear hst h32 HK
          go_wp2_with fail
          go_roundw
          case rel => exact ⟨k + 1, n, by omega, by omega, by go_num, rfl, HE, trivial⟩
          case measure => simp [intOf]; omega
      · obtain rfl : k = s.length := by omega
        have HE := Lib.hid (show s.length = spAt 0 s by have := HK.out; rw [List.drop_length] at this; simpa [spAt] using this)
        clear HK
        go_wp2_with fail
        go_meet
        exact ⟨by rw [← HE.out], rfl⟩
  case rest =>
    obtain ⟨rfl, rfl⟩ := hcut
    have hrk : ∀ W, Gives Tryz.prog 49 #[.string ((⟨s.toArray⟩ : ByteArray).extract 0 (spAt 0 s))] W (.tuple #[.agg #[.int .u8 (kv (kvB (s.take (spAt 0 s))) (kPr (s.take (spAt 0 s)))), .int .u32 (kv (kvB (s.take (spAt 0 s))) (kS (s.take (spAt 0 s)))), .int .u32 (kv (kvB (s.take (spAt 0 s))) (kD (s.take (spAt 0 s)))), .int .u16 (kv (kvB (s.take (spAt 0 s))) (kSp (s.take (spAt 0 s)))), .int .u16 (kv (kvB (s.take (spAt 0 s))) (kDp (s.take (spAt 0 s))))], .int .i64 (kvE (kvB (s.take (spAt 0 s))))]) := fun W => by
      rw [ba_take]
      exact (refReadKey_any _ W (by rw [List.length_take]; omega)).cast (kv_eq _)
    have hb1 : ∀ W, Gives Tryz.prog 50 #[.string ((⟨s.toArray⟩ : ByteArray).extract (spAt 0 s) s.length), .string ⟨#[32, 105, 110, 115, 105, 100, 101, 32]⟩] W (.tuple #[.string ⟨(beginsP inR (s.drop (spAt 0 s))).1.toArray⟩, .bool (beginsP inR (s.drop (spAt 0 s))).2]) := fun W => by
      rw [ba_drop]
      exact rbegins_any _ inR W (by rw [List.length_drop]; omega) (by decide)
    have hb2 : ∀ W, Gives Tryz.prog 50 #[.string ((⟨s.toArray⟩ : ByteArray).extract (spAt 0 s) s.length), .string ⟨#[32, 111, 117, 116, 115, 105, 100, 101, 32]⟩] W (.tuple #[.string ⟨(beginsP outR (s.drop (spAt 0 s))).1.toArray⟩, .bool (beginsP outR (s.drop (spAt 0 s))).2]) := fun W => by
      rw [ba_drop]
      exact rbegins_any _ outR W (by rw [List.length_drop]; omega) (by decide)
    have HR := Lib.hid (show refReadL s = if kvB (s.take (spAt 0 s)) then (if (beginsP inR (s.drop (spAt 0 s))).2 then midR (s.take (spAt 0 s)) 0 (beginsP inR (s.drop (spAt 0 s))).1 else if (beginsP outR (s.drop (spAt 0 s))).2 then midR (s.take (spAt 0 s)) 1 (beginsP outR (s.drop (spAt 0 s))).1 else none) else none from rfl)
    have hl1 := beginsP_len inR (s.drop (spAt 0 s))
    have hl2 := beginsP_len outR (s.drop (spAt 0 s))
    have hld : (s.drop (spAt 0 s)).length ≤ s.length := by rw [List.length_drop]; omega
    have HKB := Lib.hid (kv_bounds (s.take (spAt 0 s)))
    generalize beginsP inR (s.drop (spAt 0 s)) = q1 at *
    generalize beginsP outR (s.drop (spAt 0 s)) = q2 at *
    obtain ⟨r1, c1⟩ := q1
    obtain ⟨r2, c2⟩ := q2
    simp only at hb1 hb2 hl1 hl2
    generalize s.drop (spAt 0 s) = D at *
    generalize spAt 0 s = K at *
    generalize s.take K = kk at *
    have hKl : (K : Int) ≤ (s.length : Int) := by omega
    have hK0 : (0 : Int) ≤ (K : Int) := by omega
    cases hk : kvB kk
    · rw [hk] at hrk HR
      simp only [kv, kvE, Bool.false_eq_true, if_false] at hrk
      have HN := Lib.hid (show refReadL s = none by rw [HR.out]; rfl)
      clear HR hb1 hb2 hk HKB
      go_upto_region 8 with (go_at_call 49; refine (hrk _).mono ?_; rintro e w' ⟨rfl, xk, rfl⟩)
      refine wp_letter (fun V => UpI W V) inferInstance ?_
      intro V uV
      haveI := uV
      haveI : LtSize B V := ⟨Nat.lt_of_lt_of_le hBW uV.up.size⟩
      have hrow0 : V.heap[B]? = some (.cells Ln.zero.cells.toArray 60 (0, 0)) := ((upI : Up W V).block B hBW).trans HrB.out
      have hz4 := setRow_heap _ B _ Ln.zero.cells.toArray _ _ hrow0
      go_wp2_with (refine wpList_store_row rfl 60 _ _ rfl B Ln.zero.cells.toArray rfl rfl 60 Ln.zero.cells.toArray hrow0 rlnSize rfl (rl_all _) ?_)
      refine bodyPost_ret (v := .tuple #[.agg Ln.zero.cells.toArray, .int .i64 382]) (by simp [results, Tryz.results17, asAddr, run_loadVar_row _ B 60 60 Ln.zero.cells.toArray (0, 0) _ hz4 Tryz.underlying60 rfl rlnSize]) rfl ⟨by unfold rreadV; rw [HN.out]; rfl, ⟨⟨_, up_setRowS (uW.up.trans upI) hwB _⟩, rfl⟩⟩
    · rw [hk] at hrk HR HKB
      simp only [kv, kvE, if_true] at hrk HR HKB
      obtain ⟨k1, h1⟩ : ∃ k1, kPr kk = k1 := ⟨_, rfl⟩
      obtain ⟨k2, h2⟩ : ∃ k2, kS kk = k2 := ⟨_, rfl⟩
      obtain ⟨k3, h3⟩ : ∃ k3, kD kk = k3 := ⟨_, rfl⟩
      obtain ⟨k4, h4⟩ : ∃ k4, kSp kk = k4 := ⟨_, rfl⟩
      obtain ⟨k5, h5⟩ : ∃ k5, kDp kk = k5 := ⟨_, rfl⟩
      have HMID := Lib.hid (show k1 = kPr kk ∧ k2 = kS kk ∧ k3 = kD kk ∧ k4 = kSp kk ∧ k5 = kDp kk from ⟨h1.symm, h2.symm, h3.symm, h4.symm, h5.symm⟩)
      rw [h1, h2, h3, h4, h5] at hrk HKB
      clear h1 h2 h3 h4 h5
      go_upto_region 11 with (first
        | (refine wpList_store_row rfl 60 _ _ rfl _ (Ln.mk k1 k2 k3 k4 k5 0 0 false false 0 0).cells.toArray rfl rfl 60 _ (alloc_new rfl) rlnSize rfl (rl_all _) ?_)
        | (go_at_call 49; refine (hrk _).mono ?_; rintro e w' ⟨rfl, xk, rfl⟩))
      obtain ⟨P, hP⟩ : ∃ P, xk.w.heap.size + 1 = P := ⟨_, rfl⟩
      rw [hP]
      have hWP : W.heap.size ≤ P := by have := xk.up.size; omega
      refine wp_letter (fun V => UpI W V ∧ V.heap[P]? = some (.cells (Ln.mk k1 k2 k3 k4 k5 0 0 false false 0 0).cells.toArray 60 (0, 0)))
        ⟨inferInstance, alloc_new (by rw [World.size_alloc, hP])⟩ ?_
      rintro V ⟨uV, hrP⟩
      haveI := uV
      have hmid := fun sd rest => midR_def kk k1 k2 k3 k4 k5 sd rest HMID.out
      clear hP hrk
      go_upto_region 12 with (go_at_call 50; refine (hb1 _).mono ?_; rintro e w' ⟨rfl, x1, rfl⟩)
      go_upto_if 54 with fail
      go_cut [9] (fun v9 wx => ∃ (sd : Int) (rest : List UInt8), v9 = .string ⟨rest.toArray⟩ ∧ Hid (refReadL s = midR kk sd rest) ∧ rest.length ≤ s.length ∧ UpI W wx ∧ wx.heap[P]? = some (.cells (Ln.mk k1 k2 k3 k4 k5 sd 0 false false 0 0).cells.toArray 60 (0, 0)))
      case first =>
        cases c1
        · have hnb : P ≠ B := by omega
          cases c2
          · have HN := Lib.hid (show refReadL s = none by rw [HR.out]; rfl)
            clear HR hb1 hmid
            go_upto_region 15 with (go_at_call 50; refine (hb2 _).mono ?_; rintro e w' ⟨rfl, x2, rfl⟩)
            refine wp_letter (fun V => UpI W V) inferInstance ?_
            intro V3 uV3
            haveI := uV3
            have hrow0 : V3.heap[B]? = some (.cells Ln.zero.cells.toArray 60 (0, 0)) := ((upI : Up W V3).block B hBW).trans HrB.out
            have hz4 := setRow_heap _ B _ Ln.zero.cells.toArray _ _ hrow0
            haveI : LtSize B V3 := ⟨Nat.lt_of_lt_of_le hBW (upI : Up W V3).size⟩
            go_wp2_with (refine wpList_store_row rfl 60 _ _ rfl B Ln.zero.cells.toArray rfl rfl 60 Ln.zero.cells.toArray hrow0 rlnSize rfl (rl_all _) ?_)
            refine bodyPost_ret (v := .tuple #[.agg Ln.zero.cells.toArray, .int .i64 382]) (by simp [results, Tryz.results17, asAddr, run_loadVar_row _ B 60 60 Ln.zero.cells.toArray (0, 0) _ hz4 Tryz.underlying60 rfl rlnSize]) rfl ⟨by unfold rreadV; rw [HN.out]; rfl, ⟨⟨_, up_setRowS (uW.up.trans upI) hwB _⟩, rfl⟩⟩
          · have HM := Lib.hid (show refReadL s = midR kk 1 r2 by rw [HR.out]; rfl)
            clear HR hb1 hmid
            go_upto_region 16 with (go_at_call 50; refine (hb2 _).mono ?_; rintro e w' ⟨rfl, x2, rfl⟩)
            have hrP3 : x2.w.heap[P]? = some (.cells (Ln.mk k1 k2 k3 k4 k5 0 0 false false 0 0).cells.toArray 60 (0, 0)) := ((upI : Up V _).block P (lt_of_heap hrP)).trans hrP
            refine wp_letter (fun V3 => UpI W V3 ∧ V3.heap[P]? = some (.cells (Ln.mk k1 k2 k3 k4 k5 0 0 false false 0 0).cells.toArray 60 (0, 0))) ⟨inferInstance, hrP3⟩ ?_
            rintro V3 ⟨uV3, hr3⟩
            haveI := uV3
            have c5 : V3.cell? ⟨P, 5, none⟩ = some (.int .u8 0) := by rw [cell_of_row V3 P 5 _ _ _ hr3]; rfl
            have f5 : V3.frozen? ⟨P, 5, none⟩ = false := frozen_of_row V3 P 5 _ _ hr3
            have Hr3 := Lib.hid hr3
            clear hr3 hrP3
            go_wp2_with fail
            go_meet
            exact ⟨1, r2, rfl, HM, by omega, ⟨(upI : Up W V3).setCell hWP _⟩, by rw [heap_setCell_same V3 P 5 _ _ _ Hr3.out]; rfl⟩
        · have HM := Lib.hid (show refReadL s = midR kk 0 r1 by rw [HR.out]; rfl)
          clear HR hb1 hb2 hmid
          go_wp2_with fail
          go_meet
          exact ⟨0, r1, rfl, HM, by omega, inferInstance, ((upI : Up V _).block P (lt_of_heap hrP)).trans hrP⟩
      case rest =>
        clear hb1 hb2 HR hrP
        obtain ⟨sd, rest, rfl, HM, hrl, uV4, hr4⟩ := hcut
        haveI := uV4
        have hmid := midR_def kk k1 k2 k3 k4 k5 sd rest HMID.out
        rw [HM.out.symm] at hmid
        have HX := Lib.hid hmid
        clear hmid HMID
        go_wp2_with fail
        go_loopw [11, 12] (fun v11 v12 wr => ∃ i : Nat, i ≤ 9 ∧ v12 = .int .i64 (i : Int) ∧ v11 = .string ⟨(bestK rest i).1.toArray⟩ ∧ UpI W wr ∧ wr.heap[P]? = some (.cells (Ln.mk k1 k2 k3 k4 k5 sd (bestK rest i).2 false false 0 0).cells.toArray 60 (0, 0))) (fun _ i _ => 9 - (intOf i).toNat)
        case atStart => exact ⟨0, by omega, rfl, rfl, inferInstance, hr4⟩
        case round =>
          clear hr4 uV4
          obtain ⟨i, hi, rfl, rfl, uR, hrr⟩ := hrel
          haveI := uR
          by_cases hlt : i < 9
          · have hlt' : (i : Int) < 9 := by omega
            have i0 : (0 : Int) ≤ (i : Int) := by omega
            have hn := fun W n h => rnames_any W i hlt n h
            have lC := cls_length (i : Int)
            have hbg : ∀ W, Gives Tryz.prog 50 #[.string ⟨rest.toArray⟩, .string (⟨(clsOf (i : Int)).toArray⟩ ++ ⟨#[32]⟩)] W (.tuple #[.string ⟨(beginsP (clsOf (i : Int) ++ [32]) rest).1.toArray⟩, .bool (beginsP (clsOf (i : Int) ++ [32]) rest).2]) := fun W => by
              rw [show (⟨#[32]⟩ : ByteArray) = ⟨([32] : List UInt8).toArray⟩ from rfl, ba_app]
              exact rbegins_any _ _ W (by omega) (by rw [List.length_append]; simp; omega)
            have hk1 := bestK_succ rest i
            have c6 : wr.cell? ⟨P, 6, none⟩ = some (.int .u8 (bestK rest i).2) := by rw [cell_of_row wr P 6 _ _ _ hrr]; rfl
            have f6 : wr.frozen? ⟨P, 6, none⟩ = false := frozen_of_row wr P 6 _ _ hrr
            haveI : LtSize P wr := ⟨lt_of_heap hrr⟩
            have Hrr := Lib.hid hrr
            have hbl := bestK_len rest i
            have hm256 : (i : Int) % 256 = (i : Int) := by omega
            clear hrr
            generalize beginsP (clsOf (i : Int) ++ [32]) rest = q at *
            obtain ⟨r5, cb⟩ := q
            simp only at hbg hk1
            generalize bestK rest i = bk at *
            obtain ⟨bs, bc⟩ := bk
            simp only at hk1 Hrr c6 hbl
            generalize hcls : clsOf (i : Int) = C at *
            cases cb
            · rw [Bool.false_and, if_neg (by simp)] at hk1
              have HK1 := Lib.hid hk1
              clear hk1
              go_wp2_with (first
                | (go_at_call 51; refine (hn _ _ inferInstance).mono ?_; rintro e w' ⟨rfl, xn, hcn, hln, rfl⟩)
                | (go_at_call 50; refine (hbg _).mono ?_; rintro e w' ⟨rfl, xb, rfl⟩))
              go_roundw
              case rel => exact ⟨i + 1, by omega, by go_num, by rw [HK1.out], inferInstance, by rw [HK1.out]; exact ((upI : Up wr _).block P (lt_of_heap Hrr.out)).trans Hrr.out⟩
              case measure => simp [intOf]; omega
            · rw [Bool.true_and] at hk1
              cases hlen : decide (bs.length < C.length)
              · rw [hlen, if_neg (by simp)] at hk1
                have HK1 := Lib.hid hk1
                clear hk1
                go_wp2_with (first
                  | (go_at_call 51; refine (hn _ _ inferInstance).mono ?_; rintro e w' ⟨rfl, xn, hcn, hln, rfl⟩)
                  | (go_at_call 50; refine (hbg _).mono ?_; rintro e w' ⟨rfl, xb, rfl⟩))
                go_roundw
                case rel => exact ⟨i + 1, by omega, by go_num, by rw [HK1.out], inferInstance, by rw [HK1.out]; exact ((upI : Up wr _).block P (lt_of_heap Hrr.out)).trans Hrr.out⟩
                case measure => simp [intOf]; omega
              · rw [hlen, if_pos rfl] at hk1
                have HK1 := Lib.hid hk1
                clear hk1
                go_upto_region 23 with (first
                  | (go_at_call 51; refine (hn _ _ inferInstance).mono ?_; rintro e w' ⟨rfl, xn, hcn, hln, rfl⟩)
                  | (go_at_call 50; refine (hbg _).mono ?_; rintro e w' ⟨rfl, xb, rfl⟩))
                refine wp_letter (fun V => UpI W V ∧ V.heap[P]? = some (.cells (Ln.mk k1 k2 k3 k4 k5 sd bc false false 0 0).cells.toArray 60 (0, 0))) ⟨inferInstance, ((upI : Up wr _).block P (lt_of_heap Hrr.out)).trans Hrr.out⟩ ?_
                rintro V5 ⟨uV5, hr5⟩
                haveI := uV5
                have d6 : V5.cell? ⟨P, 6, none⟩ = some (.int .u8 bc) := by rw [cell_of_row V5 P 6 _ _ _ hr5]; rfl
                have g6 : V5.frozen? ⟨P, 6, none⟩ = false := frozen_of_row V5 P 6 _ _ hr5
                haveI : LtSize P V5 := ⟨lt_of_heap hr5⟩
                have Hr5 := Lib.hid hr5
                clear hr5 Hrr
                go_upto_region 20 with (go_at_call 51; refine (hn _ _ inferInstance).mono ?_; rintro e w' ⟨rfl, xn, hcn, hln, rfl⟩)
                refine wp_letter (fun V => UpI W V ∧ V.heap[P]? = some (.cells (Ln.mk k1 k2 k3 k4 k5 sd (i : Int) false false 0 0).cells.toArray 60 (0, 0))) ⟨⟨(upI : Up W xn.w).setCell hWP _⟩, by rw [heap_setCell_same xn.w P 6 _ _ _ (((upI : Up V5 xn.w).block P (lt_of_heap Hr5.out)).trans Hr5.out)]; rfl⟩ ?_
                rintro V6 ⟨uV6, hr6⟩
                haveI := uV6
                have Hr6 := Lib.hid hr6
                clear hr6 Hr5
                go_wp2_with fail
                go_roundw
                case rel => exact ⟨i + 1, by omega, by go_num, by rw [HK1.out], inferInstance, by rw [HK1.out]; exact Hr6.out⟩
                case measure => simp [intOf]; omega
          · obtain rfl : i = 9 := by omega
            have hbk := bestK_yes rest 9
            have hbl := bestK_len rest 9
            have hb9 := bestK_bd rest 9
            generalize bestK rest 9 = bk at *
            obtain ⟨bs, bc⟩ := bk
            simp only at HX hbk hbl hrr hb9
            haveI : LtSize P wr := ⟨lt_of_heap hrr⟩
            cases hbs : (bs == [])
            · have hne : bs ≠ [] := fun e => by rw [e] at hbs; exact absurd hbs (by decide)
              obtain ⟨i', hi', e1, e2⟩ := hbk hne
              have e3 := beginsP_yes e2
              have hbsl : bs.length ≤ rest.length := by
                rw [(Prod.mk.inj e1).1]; rw [e3]; simp
              have hx := HX.out
              rw [hbs, if_neg (by simp)] at hx
              clear hbk e1 e2 e3 hne hi' HX
              have hq1 : ∀ W, Gives Tryz.prog 50 #[.string ((⟨rest.toArray⟩ : ByteArray).extract bs.length rest.length), .string ⟨#[32, 114, 101, 112, 108, 105, 101, 100]⟩] W (.tuple #[.string ⟨(beginsP repR (rest.drop bs.length)).1.toArray⟩, .bool (beginsP repR (rest.drop bs.length)).2]) := fun W => by
                rw [ba_drop]
                exact rbegins_any _ repR W (by rw [List.length_drop]; omega) (by decide)
              have hq1l := beginsP_len repR (rest.drop bs.length)
              rw [List.length_drop] at hq1l
              generalize beginsP repR (rest.drop bs.length) = q1 at *
              obtain ⟨t1, rp⟩ := q1
              simp only at hq1 hq1l hx
              have hq2 : ∀ W, Gives Tryz.prog 50 #[.string ⟨t1.toArray⟩, .string ⟨#[32, 97, 115, 115, 117, 114, 101, 100]⟩] W (.tuple #[.string ⟨(beginsP assR t1).1.toArray⟩, .bool (beginsP assR t1).2]) := fun W => rbegins_any _ assR W (by omega) (by decide)
              have hq2l := beginsP_len assR t1
              generalize beginsP assR t1 = q2 at *
              obtain ⟨t2, ss⟩ := q2
              simp only at hq2 hq2l hx
              have k0 : (0 : Int) ≤ (bs.length : Int) := by omega
              have k1' : (bs.length : Int) ≤ (rest.length : Int) := by omega
              have HRR := Lib.hid hrr
              have Hx := Lib.hid hx
              clear hrr hx
              go_upto_region 27 with fail
              refine wp_letter (fun V => UpI W V ∧ V.heap[P]? = some (.cells (Ln.mk k1 k2 k3 k4 k5 sd bc false false 0 0).cells.toArray 60 (0, 0))) ⟨inferInstance, ((upI : Up wr _).block P (lt_of_heap HRR.out)).trans HRR.out⟩ ?_
              rintro V7 ⟨uV7, hr7⟩
              haveI := uV7
              haveI : LtSize P V7 := ⟨lt_of_heap hr7⟩
              have c7 : V7.cell? ⟨P, 7, none⟩ = some (.bool false) := by rw [cell_of_row V7 P 7 _ _ _ hr7]; rfl
              have f7 : V7.frozen? ⟨P, 7, none⟩ = false := frozen_of_row V7 P 7 _ _ hr7
              have Hr7 := Lib.hid hr7
              clear hr7 HRR
              go_upto_region 28 with (go_at_call 50; refine (hq1 _).mono ?_; rintro e w' ⟨rfl, y1, rfl⟩)
              refine wp_letter (fun V => UpI W V ∧ V.heap[P]? = some (.cells (Ln.mk k1 k2 k3 k4 k5 sd bc rp false 0 0).cells.toArray 60 (0, 0))) ⟨⟨(upI : Up W y1.w).setCell hWP _⟩, by rw [heap_setCell_same y1.w P 7 _ _ _ ((y1.up.block P (lt_of_heap Hr7.out)).trans Hr7.out)]; rfl⟩ ?_
              rintro V8 ⟨uV8, hr8⟩
              haveI := uV8
              haveI : LtSize P V8 := ⟨lt_of_heap hr8⟩
              have c8 : V8.cell? ⟨P, 8, none⟩ = some (.bool false) := by rw [cell_of_row V8 P 8 _ _ _ hr8]; rfl
              have f8 : V8.frozen? ⟨P, 8, none⟩ = false := frozen_of_row V8 P 8 _ _ hr8
              have Hr8 := Lib.hid hr8
              clear hr8 Hr7 c7 f7
              go_upto_region 29 with (go_at_call 50; refine (hq2 _).mono ?_; rintro e w' ⟨rfl, y2, rfl⟩)
              refine wp_letter (fun V => UpI W V ∧ V.heap[P]? = some (.cells (Ln.mk k1 k2 k3 k4 k5 sd bc rp ss 0 0).cells.toArray 60 (0, 0))) ⟨⟨(upI : Up W y2.w).setCell hWP _⟩, by rw [heap_setCell_same y2.w P 8 _ _ _ ((y2.up.block P (lt_of_heap Hr8.out)).trans Hr8.out)]; rfl⟩ ?_
              rintro V9 ⟨uV9, hr9⟩
              haveI := uV9
              haveI : LtSize P V9 := ⟨lt_of_heap hr9⟩
              have c7 : V9.cell? ⟨P, 7, none⟩ = some (.bool rp) := by rw [cell_of_row V9 P 7 _ _ _ hr9]; rfl
              have c8 : V9.cell? ⟨P, 8, none⟩ = some (.bool ss) := by rw [cell_of_row V9 P 8 _ _ _ hr9]; rfl
              have Hr9 := Lib.hid hr9
              clear hr9 Hr8 f8 hq1 hq2
              go_cut [123] (fun v wx => v = .bool (ss && !rp) ∧ V9 = wx)
              case first =>
                cases ss <;> cases rp
                all_goals
                  go_wp2_with fail
                  go_meet
                  exact ⟨rfl, rfl⟩
              case rest =>
                obtain ⟨rfl, rfl⟩ := hcut
                cases hrs : (ss && !rp)
                · have hd1 : ∀ W, Gives Tryz.prog 50 #[.string ⟨t2.toArray⟩, .string ⟨#[32, 100, 101, 97, 100, 108, 105, 110, 101, 32]⟩] W (.tuple #[.string ⟨(beginsP deadR t2).1.toArray⟩, .bool (beginsP deadR t2).2]) := fun W => rbegins_any _ deadR W (by omega) (by decide)
                  have hd1l := beginsP_len deadR t2
                  have hx := Hx.out
                  rw [hrs, if_neg (by simp)] at hx
                  unfold endR at hx
                  simp only at hx
                  generalize beginsP deadR t2 = q1 at *
                  obtain ⟨t3, c4⟩ := q1
                  simp only at hd1 hd1l hx
                  have hm1 : ∀ W, Gives Tryz.prog 52 #[.string ⟨t3.toArray⟩] W (.tuple #[.int .i64 (numR t3).1, .string ⟨(numR t3).2.1.toArray⟩, .bool (numR t3).2.2]) := fun W => rnumber_any _ W (by omega)
                  have hm1l := numR_len t3
                  have hm1b := numR_bd t3
                  generalize numR t3 = q2 at *
                  obtain ⟨n5, t4, c5⟩ := q2
                  simp only at hm1 hm1l hx hm1b
                  have hd2 : ∀ W, Gives Tryz.prog 50 #[.string ⟨t4.toArray⟩, .string ⟨#[32, 115, 101, 101, 110, 32]⟩] W (.tuple #[.string ⟨(beginsP seenR t4).1.toArray⟩, .bool (beginsP seenR t4).2]) := fun W => rbegins_any _ seenR W (by omega) (by decide)
                  have hd2l := beginsP_len seenR t4
                  generalize beginsP seenR t4 = q3 at *
                  obtain ⟨t5, c6⟩ := q3
                  simp only at hd2 hd2l hx
                  have hm2 : ∀ W, Gives Tryz.prog 52 #[.string ⟨t5.toArray⟩] W (.tuple #[.int .i64 (numR t5).1, .string ⟨(numR t5).2.1.toArray⟩, .bool (numR t5).2.2]) := fun W => rnumber_any _ W (by omega)
                  have hm2l := numR_len t5
                  have hm2b := numR_bd t5
                  generalize numR t5 = q4 at *
                  obtain ⟨n7, t6, c7'⟩ := q4
                  simp only at hm2 hm2l hx hm2b
                  have Hx2 := Lib.hid hx
                  clear hx Hx
                  cases c4
                  · have HN0 := Lib.hid trivial
                    clear HN0
                    have HN := Lib.hid (show refReadL s = none by rw [Hx2.out]; rfl)
                    clear Hx2
                    go_upto_region 36 with (first
                      | (go_at_call 52; ((first | with_reducible refine (hm1 _).mono ?_ | with_reducible refine (hm2 _).mono ?_)); rintro e w' ⟨rfl, m1, rfl⟩)
                      | (go_at_call 50; ((first | with_reducible refine (hd1 _).mono ?_ | with_reducible refine (hd2 _).mono ?_)); rintro e w' ⟨rfl, m2, rfl⟩))
                    refine wp_letter (fun V => UpI W V) inferInstance ?_
                    intro VA uVA
                    haveI := uVA
                    have hrow0 : VA.heap[B]? = some (.cells Ln.zero.cells.toArray 60 (0, 0)) := ((upI : Up W VA).block B hBW).trans HrB.out
                    have hz4 := setRow_heap _ B _ Ln.zero.cells.toArray _ _ hrow0
                    haveI : LtSize B VA := ⟨Nat.lt_of_lt_of_le hBW (upI : Up W VA).size⟩
                    go_wp2_with (refine wpList_store_row rfl 60 _ _ rfl B Ln.zero.cells.toArray rfl rfl 60 Ln.zero.cells.toArray hrow0 rlnSize rfl (rl_all _) ?_)
                    refine bodyPost_ret (v := .tuple #[.agg Ln.zero.cells.toArray, .int .i64 382]) (by simp [results, Tryz.results17, asAddr, run_loadVar_row _ B 60 60 Ln.zero.cells.toArray (0, 0) _ hz4 Tryz.underlying60 rfl rlnSize]) rfl ⟨by unfold rreadV; rw [HN.out]; rfl, ⟨⟨_, up_setRowS (uW.up.trans upI) hwB _⟩, rfl⟩⟩
                  ·
                    cases c5
                    · have HN0 := Lib.hid trivial
                      clear HN0
                      have HN := Lib.hid (show refReadL s = none by rw [Hx2.out]; rfl)
                      clear Hx2
                      go_upto_region 36 with (first
                        | (go_at_call 52; ((first | with_reducible refine (hm1 _).mono ?_ | with_reducible refine (hm2 _).mono ?_)); rintro e w' ⟨rfl, m1, rfl⟩)
                        | (go_at_call 50; ((first | with_reducible refine (hd1 _).mono ?_ | with_reducible refine (hd2 _).mono ?_)); rintro e w' ⟨rfl, m2, rfl⟩))
                      refine wp_letter (fun V => UpI W V) inferInstance ?_
                      intro VA uVA
                      haveI := uVA
                      have hrow0 : VA.heap[B]? = some (.cells Ln.zero.cells.toArray 60 (0, 0)) := ((upI : Up W VA).block B hBW).trans HrB.out
                      have hz4 := setRow_heap _ B _ Ln.zero.cells.toArray _ _ hrow0
                      haveI : LtSize B VA := ⟨Nat.lt_of_lt_of_le hBW (upI : Up W VA).size⟩
                      go_wp2_with (refine wpList_store_row rfl 60 _ _ rfl B Ln.zero.cells.toArray rfl rfl 60 Ln.zero.cells.toArray hrow0 rlnSize rfl (rl_all _) ?_)
                      refine bodyPost_ret (v := .tuple #[.agg Ln.zero.cells.toArray, .int .i64 382]) (by simp [results, Tryz.results17, asAddr, run_loadVar_row _ B 60 60 Ln.zero.cells.toArray (0, 0) _ hz4 Tryz.underlying60 rfl rlnSize]) rfl ⟨by unfold rreadV; rw [HN.out]; rfl, ⟨⟨_, up_setRowS (uW.up.trans upI) hwB _⟩, rfl⟩⟩
                    ·
                      cases c6
                      · have HN0 := Lib.hid trivial
                        clear HN0
                        have HN := Lib.hid (show refReadL s = none by rw [Hx2.out]; rfl)
                        clear Hx2
                        go_upto_region 36 with (first
                          | (go_at_call 52; ((first | with_reducible refine (hm1 _).mono ?_ | with_reducible refine (hm2 _).mono ?_)); rintro e w' ⟨rfl, m1, rfl⟩)
                          | (go_at_call 50; ((first | with_reducible refine (hd1 _).mono ?_ | with_reducible refine (hd2 _).mono ?_)); rintro e w' ⟨rfl, m2, rfl⟩))
                        refine wp_letter (fun V => UpI W V) inferInstance ?_
                        intro VA uVA
                        haveI := uVA
                        have hrow0 : VA.heap[B]? = some (.cells Ln.zero.cells.toArray 60 (0, 0)) := ((upI : Up W VA).block B hBW).trans HrB.out
                        have hz4 := setRow_heap _ B _ Ln.zero.cells.toArray _ _ hrow0
                        haveI : LtSize B VA := ⟨Nat.lt_of_lt_of_le hBW (upI : Up W VA).size⟩
                        go_wp2_with (refine wpList_store_row rfl 60 _ _ rfl B Ln.zero.cells.toArray rfl rfl 60 Ln.zero.cells.toArray hrow0 rlnSize rfl (rl_all _) ?_)
                        refine bodyPost_ret (v := .tuple #[.agg Ln.zero.cells.toArray, .int .i64 382]) (by simp [results, Tryz.results17, asAddr, run_loadVar_row _ B 60 60 Ln.zero.cells.toArray (0, 0) _ hz4 Tryz.underlying60 rfl rlnSize]) rfl ⟨by unfold rreadV; rw [HN.out]; rfl, ⟨⟨_, up_setRowS (uW.up.trans upI) hwB _⟩, rfl⟩⟩
                      ·
                        cases c7'
                        · have HN0 := Lib.hid trivial
                          clear HN0
                          have HN := Lib.hid (show refReadL s = none by rw [Hx2.out]; rfl)
                          clear Hx2
                          go_upto_region 36 with (first
                            | (go_at_call 52; ((first | with_reducible refine (hm1 _).mono ?_ | with_reducible refine (hm2 _).mono ?_)); rintro e w' ⟨rfl, m1, rfl⟩)
                            | (go_at_call 50; ((first | with_reducible refine (hd1 _).mono ?_ | with_reducible refine (hd2 _).mono ?_)); rintro e w' ⟨rfl, m2, rfl⟩))
                          refine wp_letter (fun V => UpI W V) inferInstance ?_
                          intro VA uVA
                          haveI := uVA
                          have hrow0 : VA.heap[B]? = some (.cells Ln.zero.cells.toArray 60 (0, 0)) := ((upI : Up W VA).block B hBW).trans HrB.out
                          have hz4 := setRow_heap _ B _ Ln.zero.cells.toArray _ _ hrow0
                          haveI : LtSize B VA := ⟨Nat.lt_of_lt_of_le hBW (upI : Up W VA).size⟩
                          go_wp2_with (refine wpList_store_row rfl 60 _ _ rfl B Ln.zero.cells.toArray rfl rfl 60 Ln.zero.cells.toArray hrow0 rlnSize rfl (rl_all _) ?_)
                          refine bodyPost_ret (v := .tuple #[.agg Ln.zero.cells.toArray, .int .i64 382]) (by simp [results, Tryz.results17, asAddr, run_loadVar_row _ B 60 60 Ln.zero.cells.toArray (0, 0) _ hz4 Tryz.underlying60 rfl rlnSize]) rfl ⟨by unfold rreadV; rw [HN.out]; rfl, ⟨⟨_, up_setRowS (uW.up.trans upI) hwB _⟩, rfl⟩⟩
                        ·
                          cases h6 : (t6 == [])
                          · have hx2 := Hx2.out
                            rw [h6] at hx2
                            clear Hx2
                            have Hx2 := Lib.hid hx2
                            clear hx2
                            have HN := Lib.hid (show refReadL s = none by rw [Hx2.out]; rfl)
                            clear Hx2
                            go_upto_region 36 with (first
                              | (go_at_call 52; ((first | with_reducible refine (hm1 _).mono ?_ | with_reducible refine (hm2 _).mono ?_)); rintro e w' ⟨rfl, m1, rfl⟩)
                              | (go_at_call 50; ((first | with_reducible refine (hd1 _).mono ?_ | with_reducible refine (hd2 _).mono ?_)); rintro e w' ⟨rfl, m2, rfl⟩))
                            refine wp_letter (fun V => UpI W V) inferInstance ?_
                            intro VA uVA
                            haveI := uVA
                            have hrow0 : VA.heap[B]? = some (.cells Ln.zero.cells.toArray 60 (0, 0)) := ((upI : Up W VA).block B hBW).trans HrB.out
                            have hz4 := setRow_heap _ B _ Ln.zero.cells.toArray _ _ hrow0
                            haveI : LtSize B VA := ⟨Nat.lt_of_lt_of_le hBW (upI : Up W VA).size⟩
                            go_wp2_with (refine wpList_store_row rfl 60 _ _ rfl B Ln.zero.cells.toArray rfl rfl 60 Ln.zero.cells.toArray hrow0 rlnSize rfl (rl_all _) ?_)
                            refine bodyPost_ret (v := .tuple #[.agg Ln.zero.cells.toArray, .int .i64 382]) (by simp [results, Tryz.results17, asAddr, run_loadVar_row _ B 60 60 Ln.zero.cells.toArray (0, 0) _ hz4 Tryz.underlying60 rfl rlnSize]) rfl ⟨by unfold rreadV; rw [HN.out]; rfl, ⟨⟨_, up_setRowS (uW.up.trans upI) hwB _⟩, rfl⟩⟩
                          · obtain rfl : t6 = [] := by simpa using h6
                            have HY := Lib.hid (show refReadL s = some (Ln.mk k1 k2 k3 k4 k5 sd bc rp ss n5 n7) by rw [Hx2.out]; rfl)
                            clear Hx2 h6
                            go_upto_region 37 with (first
                              | (go_at_call 52; ((first | with_reducible refine (hm1 _).mono ?_ | with_reducible refine (hm2 _).mono ?_)); rintro e w' ⟨rfl, m1, rfl⟩)
                              | (go_at_call 50; ((first | with_reducible refine (hd1 _).mono ?_ | with_reducible refine (hd2 _).mono ?_)); rintro e w' ⟨rfl, m2, rfl⟩))
                            refine wp_letter (fun V => UpI W V ∧ V.heap[P]? = some (.cells (Ln.mk k1 k2 k3 k4 k5 sd bc rp ss 0 0).cells.toArray 60 (0, 0))) ⟨inferInstance, ((upI : Up V9 _).block P (lt_of_heap Hr9.out)).trans Hr9.out⟩ ?_
                            rintro VA ⟨uVA, hrA⟩
                            haveI := uVA
                            haveI : LtSize P VA := ⟨lt_of_heap hrA⟩
                            have a9 : VA.cell? ⟨P, 9, none⟩ = some (.int .i64 0) := by rw [cell_of_row VA P 9 _ _ _ hrA]; rfl
                            have b9 : VA.frozen? ⟨P, 9, none⟩ = false := frozen_of_row VA P 9 _ _ hrA
                            have a10 : VA.cell? ⟨P, 10, none⟩ = some (.int .i64 0) := by rw [cell_of_row VA P 10 _ _ _ hrA]; rfl
                            have b10 : VA.frozen? ⟨P, 10, none⟩ = false := frozen_of_row VA P 10 _ _ hrA
                            have HrA := Lib.hid hrA
                            clear hrA
                            go_upto_region 38 with fail
                            refine wp_letter (fun V => UpI W V ∧ V.heap[P]? = some (.cells (Ln.mk k1 k2 k3 k4 k5 sd bc rp ss n5 n7).cells.toArray 60 (0, 0))) ⟨⟨((upI : Up W VA).setCell hWP _).setCell hWP _⟩, by rw [heap_setCell_same _ P 10 _ _ _ (heap_setCell_same VA P 9 _ _ _ HrA.out)]; rfl⟩ ?_
                            rintro VB ⟨uVB, hrB2⟩
                            haveI := uVB
                            have hrow0 : VB.heap[B]? = some (.cells Ln.zero.cells.toArray 60 (0, 0)) := ((upI : Up W VB).block B hBW).trans HrB.out
                            have hz4 := setRow_heap _ B _ (Ln.mk k1 k2 k3 k4 k5 sd bc rp ss n5 n7).cells.toArray _ _ hrow0
                            haveI : LtSize B VB := ⟨Nat.lt_of_lt_of_le hBW (upI : Up W VB).size⟩
                            go_wp2_with (first
                              | (refine wpList_load_row rfl 60 _ rfl P rfl 60 (Ln.mk k1 k2 k3 k4 k5 sd bc rp ss n5 n7).cells.toArray (0, 0) _ hrB2 Tryz.underlying60 rfl rlnSize ?_)
                              | (refine wpList_store_row rfl 60 _ _ rfl B (Ln.mk k1 k2 k3 k4 k5 sd bc rp ss n5 n7).cells.toArray rfl rfl 60 Ln.zero.cells.toArray hrow0 rlnSize rfl (rl_all _) ?_))
                            refine bodyPost_ret (v := .tuple #[.agg (Ln.mk k1 k2 k3 k4 k5 sd bc rp ss n5 n7).cells.toArray, .int .i64 0]) (by simp [results, Tryz.results17, asAddr, run_loadVar_row _ B 60 60 (Ln.mk k1 k2 k3 k4 k5 sd bc rp ss n5 n7).cells.toArray (0, 0) _ hz4 Tryz.underlying60 rfl rlnSize]) rfl ⟨by unfold rreadV; rw [HY.out]; rfl, ⟨⟨_, up_setRowS (uW.up.trans upI) hwB _⟩, rfl⟩⟩
                · have HN := Lib.hid (show refReadL s = none by rw [Hx.out, hrs]; rfl)
                  clear Hx
                  have hrow0 : V9.heap[B]? = some (.cells Ln.zero.cells.toArray 60 (0, 0)) := ((upI : Up W V9).block B hBW).trans HrB.out
                  have hz4 := setRow_heap _ B _ Ln.zero.cells.toArray _ _ hrow0
                  haveI : LtSize B V9 := ⟨Nat.lt_of_lt_of_le hBW (upI : Up W V9).size⟩
                  go_wp2_with (refine wpList_store_row rfl 60 _ _ rfl B Ln.zero.cells.toArray rfl rfl 60 Ln.zero.cells.toArray hrow0 rlnSize rfl (rl_all _) ?_)
                  refine bodyPost_ret (v := .tuple #[.agg Ln.zero.cells.toArray, .int .i64 382]) (by simp [results, Tryz.results17, asAddr, run_loadVar_row _ B 60 60 Ln.zero.cells.toArray (0, 0) _ hz4 Tryz.underlying60 rfl rlnSize]) rfl ⟨by unfold rreadV; rw [HN.out]; rfl, ⟨⟨_, up_setRowS (uW.up.trans upI) hwB _⟩, rfl⟩⟩
            · have HN := Lib.hid (show refReadL s = none by rw [HX.out, hbs]; rfl)
              obtain rfl : bs = [] := by simpa using hbs
              clear hbk HX hrr
              have hrow0 : wr.heap[B]? = some (.cells Ln.zero.cells.toArray 60 (0, 0)) := ((upI : Up W wr).block B hBW).trans HrB.out
              have hz4 := setRow_heap _ B _ Ln.zero.cells.toArray _ _ hrow0
              haveI : LtSize B wr := ⟨Nat.lt_of_lt_of_le hBW (upI : Up W wr).size⟩
              go_wp2_with (refine wpList_store_row rfl 60 _ _ rfl B Ln.zero.cells.toArray rfl rfl 60 Ln.zero.cells.toArray hrow0 rlnSize rfl (rl_all _) ?_)
              refine bodyPost_ret (v := .tuple #[.agg Ln.zero.cells.toArray, .int .i64 382]) (by simp [results, Tryz.results17, asAddr, run_loadVar_row _ B 60 60 Ln.zero.cells.toArray (0, 0) _ hz4 Tryz.underlying60 rfl rlnSize]) rfl ⟨by unfold rreadV; rw [HN.out]; rfl, ⟨⟨_, up_setRowS (uW.up.trans upI) hwB _⟩, rfl⟩⟩
end Go.Proofs.YtlbbepgfjigjpaaGreatDoor
