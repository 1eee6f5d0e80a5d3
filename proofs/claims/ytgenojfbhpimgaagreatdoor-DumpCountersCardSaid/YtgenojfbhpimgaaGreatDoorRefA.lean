/- The reference's numerals and texts. The reference's reading of numbers and addresses, on lists; it reads just what the program reads: no program in sight. The reference's reading: signs, numbers, addresses. The reference reads just what the program reads: plain lists, no program in sight. -/
import Derived.Test.YtgenojfbhpimgaaGreatDoorAddr2
import Derived.Test.YtgenojfbhpimgaaGreatDoorInst
import Derived.Deep.RegionHeld3
import Derived.WalkSpells
import Derived.Laws.BytesString
import Derived.Laws.IdiomStrings
import Derived.Test.YtgenojfbhpimgaaGreatDoorReadsPlain
import Derived.Test.YtgenojfbhpimgaaGreatDoorStructEq
namespace Go.Proofs.YtgenojfbhpimgaaGreatDoor
open Go.RowKit Go.Ab

theorem run_byte_cell (w : World) (b : Nat) (c : Int) (hc : w.cell? ⟨b, 0, none⟩ = some (.int .u8 c)) : (convert 196 9 (.slice (some ⟨b, 0, none⟩) 1 1)).run Tryz.prog w = .ok (.string ⟨#[UInt8.ofNat c.toNat]⟩) w := by
  rw [run_convert_bytes_string _ _ _ _ _ _ _ Tryz.underlying196 Tryz.underlying5 Tryz.underlying9]
  have hl := run_loadCells_list (P := Tryz.prog) w ⟨b, 0, none⟩ ([c].map (Value.int .u8)) (fun j v hj => by
    have hj' : j < 1 := by have := (List.getElem?_eq_some_iff.1 hj).1; simpa using this
    obtain rfl : j = 0 := by omega
    simp at hj
    rw [← hj]; simp [Addr.add, hc])
  exact run_bytesToString _ _ 1 1 [c] hl
theorem run_byte_string (w : World) (n : Nat) (c : Int) [h : SizeIs w n] : (convert 196 9 (.slice (some ⟨n, 0, none⟩) 1 1)).run Tryz.prog (w.alloc (.cells #[.int .u8 c] 5)) = .ok (.string ⟨#[UInt8.ofNat c.toNat]⟩) (w.alloc (.cells #[.int .u8 c] 5)) :=
  run_byte_cell _ n c (alloc_at_cellI w n 0 _ _)
theorem run_byte_ext (w : World) (n : Nat) (c : Int) [h : SizeIs w n] (x : Ext (w.alloc (.cells #[.int .u8 c] 5))) : (convert 196 9 (.slice (some ⟨n, 0, none⟩) 1 1)).run Tryz.prog x.w = .ok (.string ⟨#[UInt8.ofNat c.toNat]⟩) x.w :=
  run_byte_cell _ n c ((x.cellI n 0).trans (alloc_at_cellI w n 0 _ _))
theorem run_byte_extd (w : World) (n : Nat) (c : Int) [h : SizeIs w n] (x : Ext (w.alloc (.cells #[.int .u8 c] 5)).drew) : (convert 196 9 (.slice (some ⟨n, 0, none⟩) 1 1)).run Tryz.prog x.w = .ok (.string ⟨#[UInt8.ofNat c.toNat]⟩) x.w :=
  run_byte_cell _ n c ((x.cellI n 0).trans (alloc_at_cellI w n 0 _ _))
theorem run_byte_drew (w : World) (n : Nat) (c : Int) [h : SizeIs w n] : (convert 196 9 (.slice (some ⟨n, 0, none⟩) 1 1)).run Tryz.prog (w.alloc (.cells #[.int .u8 c] 5)).drew = .ok (.string ⟨#[UInt8.ofNat c.toNat]⟩) (w.alloc (.cells #[.int .u8 c] 5)).drew :=
  run_byte_cell _ n c (alloc_at_cellI w n 0 _ _)
attribute [local go_sem] run_byte_drew run_byte_string run_byte_ext run_byte_extd
theorem dec_small (n : Int) (h0 : 0 ≤ n) (h1 : n < 10) : dec n = [UInt8.ofNat (48 + n).toNat] := by
  obtain ⟨u, rfl⟩ := Int.eq_ofNat_of_zero_le h0
  unfold dec
  rw [Lib.itoa_nonneg, Lib.decDigits_one (by omega)]
  congr 2
theorem dec_snoc (n : Int) (h1 : 10 ≤ n) : dec n = dec (n / 10) ++ [UInt8.ofNat (48 + n % 10).toNat] := by
  obtain ⟨u, rfl⟩ := Int.eq_ofNat_of_zero_le (show 0 ≤ n by omega)
  unfold dec
  rw [Lib.itoa_nonneg, show ((u : Int) / 10) = ((u / 10 : Nat) : Int) by omega, Lib.itoa_nonneg, Lib.decDigits, dif_neg (by omega)]
  congr 3

set_option maxHeartbeats 4000000 in
set_option maxRecDepth 100000 in
theorem refDecimal_small (n : Int) (w : World) (h0 : 0 ≤ n) (h1 : n < 10) : Gives Tryz.prog 78 #[.int .i64 n] w (.string ⟨(dec n).toArray⟩) := by
  rw [dec_small n h0 h1]
  unfold Gives
  go_enter Tryz.func78, Tryz.ntmps78
  go_wp2
  go_ret
  exact ⟨rfl, mkI⟩
set_option maxHeartbeats 4000000 in
set_option maxRecDepth 100000 in
theorem refDecimal_upto (m : Nat) : ∀ (n : Int) (w : World), n.toNat ≤ m → 0 ≤ n → n ≤ 9223372036854775807 → Gives Tryz.prog 78 #[.int .i64 n] w (.string ⟨(dec n).toArray⟩) := by
  induction m with
  | zero => intro n w hm h0 h1; exact refDecimal_small n w h0 (by omega)
  | succ m ih =>
    intro n w hm h0 h1
    by_cases hs : n < 10
    · exact refDecimal_small n w h0 hs
    · have e1 : IntKind.i64.wrap (n.tdiv 10) = n / 10 := by rw [Int.tdiv_eq_ediv_of_nonneg h0]; exact IntWalk.i64_in _ (by omega)
      have e2 : n.tmod 10 = n % 10 := Int.tmod_eq_emod_of_nonneg h0
      have e3 : IntKind.i64.wrap (48 + n % 10) = 48 + n % 10 := IntWalk.i64_in _ (by omega)
      have e4 : IntKind.u8.wrap (48 + n % 10) = 48 + n % 10 := by rw [IntKind.wrap_u8]; omega
      have ihq : ∀ w, Gives Tryz.prog 78 #[.int .i64 (n / 10)] w (.string ⟨(dec (n / 10)).toArray⟩) := fun w => ih _ _ (by omega) (by omega) (by omega)
      have l2 := dec_length (n / 10) (by omega) (by omega)
      rw [dec_snoc n (by omega)]
      clear ih hm h1
      unfold Gives
      go_enter Tryz.func78, Tryz.ntmps78
      go_wp2_with fail
      go_region_with (go_at_call 78; refine (ihq _).mono ?_; rintro e w' ⟨rfl, x, rfl⟩)
      all_goals (go_wp2_with fail; go_ret; exact ⟨rfl, mkI⟩)
theorem refDecimal_any (n : Int) (w : World) (h0 : 0 ≤ n) (h1 : n ≤ 9223372036854775807) : Gives Tryz.prog 78 #[.int .i64 n] w (.string ⟨(dec n).toArray⟩) :=
  refDecimal_upto n.toNat n w (Nat.le_refl _) h0 h1
end Go.Proofs.YtgenojfbhpimgaaGreatDoor
namespace Go.Ab
open Go.Proofs.YtgenojfbhpimgaaGreatDoor
def isDig (c : UInt8) : Bool := decide (48 ≤ c.toNat) && decide (c.toNat ≤ 57)
/-- The number that some digits are. -/
def valL (l : List UInt8) : Int := l.foldl (fun n c => 10 * n + ((c.toNat : Int) - 48)) 0
theorem valL_snoc (l : List UInt8) (c : UInt8) : valL (l ++ [c]) = 10 * valL l + ((c.toNat : Int) - 48) := by simp [valL]
theorem valL_nil : valL [] = 0 := rfl
theorem snoc_ind {α : Type} {P : List α → Prop} (h0 : P []) (h1 : ∀ l a, P l → P (l ++ [a])) (l : List α) : P l := by
  have : ∀ m : List α, P m.reverse := fun m => by
    induction m with
    | nil => exact h0
    | cons a t ih => rw [List.reverse_cons]; exact h1 _ _ ih
  have := this l.reverse
  rwa [List.reverse_reverse] at this
theorem valL_nonneg (l : List UInt8) (h : ∀ c ∈ l, isDig c = true) : 0 ≤ valL l := by
  induction l using snoc_ind with
  | h0 => simp [valL]
  | h1 l c ih =>
    rw [valL_snoc]
    have := ih (fun x hx => h x (by simp [hx]))
    have hc := h c (by simp)
    unfold isDig at hc; simp at hc; omega
theorem valL_mono (l r : List UInt8) (h : ∀ c ∈ l ++ r, isDig c = true) : valL l ≤ valL (l ++ r) := by
  induction r using snoc_ind with
  | h0 => simp
  | h1 r c ih =>
    rw [← List.append_assoc, valL_snoc]
    have h1 := ih (fun x hx => h x (by rw [← List.append_assoc]; exact List.mem_append_left _ hx))
    have h2 := valL_nonneg l (fun x hx => h x (by simp [hx]))
    have hc := h c (by simp)
    unfold isDig at hc; simp at hc; omega
theorem dec_isDig (n : Int) (h : 0 ≤ n) : ∀ c ∈ dec n, isDig c = true := fun c hc => by
  have := itoa_digit n h c hc
  unfold isDig; simp; omega
theorem u8_dig (d : Int) (h0 : 0 ≤ d) (h1 : d < 10) : ((UInt8.ofNat (48 + d).toNat).toNat : Int) - 48 = d := by
  simp; omega
theorem valL_dec (m : Nat) : ∀ n : Int, n.toNat ≤ m → 0 ≤ n → valL (dec n) = n := by
  induction m with
  | zero => intro n hm h; rw [dec_small n h (by omega)]; simp only [valL, List.foldl]; rw [u8_dig n h (by omega)]; omega
  | succ m ih =>
    intro n hm h
    by_cases hs : n < 10
    · rw [dec_small n h hs]; simp only [valL, List.foldl]; rw [u8_dig n h hs]; omega
    · rw [dec_snoc n (by omega), valL_snoc, ih (n / 10) (by omega) (by omega), u8_dig _ (by omega) (by omega)]; omega
theorem val_dec (n : Int) (h : 0 ≤ n) : valL (dec n) = n := valL_dec n.toNat n (Nat.le_refl _) h
theorem dec_ne (n : Int) (h : 0 ≤ n) : dec n ≠ [] := by
  obtain ⟨u, rfl⟩ := Int.eq_ofNat_of_zero_le h
  unfold dec; rw [Lib.itoa_nonneg]; exact decDigits_ne u
/-- No needless 0 ahead. -/
def plainB : List UInt8 → Bool
  | [] => false
  | c :: r => !(c == 48 && !r.isEmpty)
theorem plainB_snoc (c : UInt8) (l : List UInt8) (a : UInt8) : plainB ((c :: l) ++ [a]) = !(c == 48) := by simp [plainB]
theorem dec_plain (m : Nat) : ∀ n : Int, n.toNat ≤ m → 0 ≤ n → plainB (dec n) = true ∧ (1 ≤ n → ∃ c r, dec n = c :: r ∧ c ≠ 48) := by
  induction m with
  | zero =>
    intro n hm h
    rw [dec_small n h (by omega)]
    exact ⟨by simp [plainB], fun h1 => by omega⟩
  | succ m ih =>
    intro n hm h
    by_cases hs : n < 10
    · rw [dec_small n h hs]
      refine ⟨by simp [plainB], fun h1 => ⟨_, _, rfl, fun e => ?_⟩⟩
      have := congrArg UInt8.toNat e
      simp at this; omega
    · obtain ⟨_, i2⟩ := ih (n / 10) (by omega) (by omega)
      obtain ⟨c, r, e, hc⟩ := i2 (by omega)
      rw [dec_snoc n (by omega), e]
      exact ⟨by rw [plainB_snoc]; simp [hc], fun _ => ⟨c, r ++ [_], rfl, hc⟩⟩
/-- Digits without a needless 0 are the numeral of their number. -/
theorem dec_val (l : List UInt8) : (∀ c ∈ l, isDig c = true) → plainB l = true → dec (valL l) = l ∧ ((∃ c r, l = c :: r ∧ c ≠ 48) → 1 ≤ valL l) := by
  induction l using snoc_ind with
  | h0 => intro _ h; cases h
  | h1 l c ih =>
    intro hd hp
    have hc := hd c (by simp)
    have hc2 : 48 ≤ c.toNat ∧ c.toNat ≤ 57 := by unfold isDig at hc; simpa using hc
    have hl := valL_nonneg l (fun x hx => hd x (by simp [hx]))
    rw [valL_snoc]
    cases l with
    | nil =>
      rw [valL_nil]
      refine ⟨?_, ?_⟩
      · rw [dec_small _ (by omega) (by omega)]
        simp only [List.nil_append, List.cons.injEq, and_true]
        apply UInt8.toNat_inj.1
        simp; omega
      · rintro ⟨c', r, e, hne⟩
        simp at e
        obtain ⟨rfl, _⟩ := e
        have : c.toNat ≠ 48 := fun e => hne (UInt8.toNat_inj.1 e)
        omega
    | cons c0 r =>
      rw [plainB_snoc] at hp
      have hc0 : c0 ≠ 48 := by simpa using hp
      obtain ⟨i1, i2⟩ := ih (fun x hx => hd x (by simp only [List.mem_append]; exact .inl hx)) (by simp [plainB, hc0])
      have h1 := i2 ⟨c0, r, rfl, hc0⟩
      refine ⟨?_, fun _ => by omega⟩
      rw [dec_snoc _ (by omega), show (10 * valL (c0 :: r) + ((c.toNat : Int) - 48)) / 10 = valL (c0 :: r) by omega, i1]
      congr 2
      apply UInt8.toNat_inj.1
      simp; omega
/-- The digits at the head, and what follows. -/
def digs (r : List UInt8) : List UInt8 := r.takeWhile isDig
def after (r : List UInt8) : List UInt8 := r.dropWhile isDig
theorem digs_after (r : List UInt8) : digs r ++ after r = r := List.takeWhile_append_dropWhile
theorem digs_dig (r : List UInt8) : ∀ c ∈ digs r, isDig c = true := by
  induction r with
  | nil => simp [digs]
  | cons a t ih =>
    unfold digs
    rw [List.takeWhile_cons]
    split
    · rename_i h
      intro c hc
      rcases List.mem_cons.1 hc with rfl | hc
      · exact h
      · exact ih c hc
    · simp
/-- No digit at the head. -/
def noDig : List UInt8 → Prop
  | [] => True
  | c :: _ => isDig c = false
theorem after_no (r : List UInt8) : noDig (after r) := by
  induction r with
  | nil => trivial
  | cons a t ih =>
    unfold after
    rw [List.dropWhile_cons]
    split
    · exact ih
    · rename_i h; simpa [noDig] using h
theorem digs_app (x r : List UInt8) (hx : ∀ c ∈ x, isDig c = true) (hr : noDig r) : digs (x ++ r) = x ∧ after (x ++ r) = r := by
  induction x with
  | nil =>
    cases r with
    | nil => exact ⟨rfl, rfl⟩
    | cons a t =>
      have : isDig a = false := hr
      exact ⟨by simp [digs, this], by simp [after, this]⟩
  | cons a t ih =>
    obtain ⟨i1, i2⟩ := ih (fun c hc => hx c (List.mem_cons_of_mem _ hc))
    have ha := hx a (by simp)
    unfold digs after at *
    simp only [List.cons_append, List.takeWhile_cons, List.dropWhile_cons, ha, if_true, i1, i2, and_self]
/-- A number from a place on: none if it is too great, or has a needless 0. -/
def numP (most : Int) : Option (List UInt8) → Int × Option (List UInt8)
  | none => (0, none)
  | some r => if plainB (digs r) && decide (valL (digs r) ≤ most) then (valL (digs r), some (after r)) else (0, none)
theorem numP_eq (most : Int) (r : List UInt8) : numP most (some r) = if plainB (digs r) && decide (valL (digs r) ≤ most) then (valL (digs r), some (after r)) else (0, none) := rfl
theorem numP_iff (most : Int) (r : List UInt8) (n : Int) (r' : List UInt8) : numP most (some r) = (n, some r') ↔ (r = dec n ++ r' ∧ 0 ≤ n ∧ n ≤ most ∧ noDig r') := by
  rw [numP_eq]
  constructor
  · intro h
    split at h
    · rename_i hk
      simp only [Bool.and_eq_true, decide_eq_true_eq] at hk
      simp only [Prod.mk.injEq, Option.some.injEq] at h
      obtain ⟨rfl, rfl⟩ := h
      refine ⟨?_, valL_nonneg _ (digs_dig r), hk.2, after_no r⟩
      rw [(dec_val (digs r) (digs_dig r) hk.1).1, digs_after]
    · simp at h
  · rintro ⟨rfl, h0, h1, h2⟩
    obtain ⟨e1, e2⟩ := digs_app (dec n) r' (dec_isDig n h0) h2
    rw [e1, e2, val_dec n h0]
    simp [(dec_plain n.toNat n (Nat.le_refl _) h0).1, h1]
theorem numP_bd (most : Int) (hm : 0 ≤ most) (o : Option (List UInt8)) : 0 ≤ (numP most o).1 ∧ (numP most o).1 ≤ most := by
  cases o with
  | none => simp [numP, hm]
  | some r =>
    rw [numP_eq]
    split
    · rename_i hk
      simp only [Bool.and_eq_true, decide_eq_true_eq] at hk
      exact ⟨valL_nonneg _ (digs_dig r), hk.2⟩
    · simp [hm]
theorem numP_suf (most : Int) (r r' : List UInt8) (n : Int) (h : numP most (some r) = (n, some r')) : r' <:+ r := by
  have := (numP_iff most r n r').1 h
  exact ⟨dec n, this.1.symm⟩
def signP (c : UInt8) : Option (List UInt8) → Option (List UInt8)
  | some (b :: r) => if b = c then some r else none
  | _ => none
theorem signP_iff (c : UInt8) (o : Option (List UInt8)) (r : List UInt8) : signP c o = some r ↔ o = some (c :: r) := by
  match o with
  | none => simp [signP]
  | some [] => simp [signP]
  | some (b :: t) => simp only [signP]; split <;> simp_all
/-- The state of the reading of an address before the number k: what is read, and the place. -/
def addrSt (o : Option (List UInt8)) : Nat → Int × Option (List UInt8)
  | 0 => (0, o)
  | k + 1 =>
    let p := if k = 0 then (addrSt o k).2 else signP 46 (addrSt o k).2
    (256 * (addrSt o k).1 + (numP 255 p).1, (numP 255 p).2)
def addrP (o : Option (List UInt8)) : Int × Option (List UInt8) := addrSt o 4
theorem addrSt_bd (o : Option (List UInt8)) : ∀ k, 0 ≤ (addrSt o k).1 ∧ (addrSt o k).1 < 256 ^ k
  | 0 => by simp [addrSt]
  | k + 1 => by
    have ih := addrSt_bd o k
    simp only [addrSt]
    have h := numP_bd 255 (by omega) (if k = 0 then (addrSt o k).2 else signP 46 (addrSt o k).2)
    have : (256 : Int) ^ (k + 1) = 256 * 256 ^ k := by rw [Int.pow_succ, Int.mul_comm]
    omega
theorem addrP_bd (o : Option (List UInt8)) : 0 ≤ (addrP o).1 ∧ (addrP o).1 < 4294967296 := by
  have := addrSt_bd o 4
  simpa [addrP] using this
theorem noDig_dot (r : List UInt8) : noDig (46 :: r) := by simp [noDig, isDig]
theorem text_eq (a : Int) (r : List UInt8) : textL a ++ r = dec (oct a 0) ++ 46 :: (dec (oct a 1) ++ 46 :: (dec (oct a 2) ++ 46 :: (dec (oct a 3) ++ r))) := by
  unfold textL; simp [Lib.join]
theorem pair_eta {α β : Type} (p : α × β) : p = (p.1, p.2) := rfl
theorem numP_none (most : Int) : numP most none = (0, none) := rfl
theorem numP_some {most : Int} {o : Option (List UInt8)} {r' : List UInt8} (h : (numP most o).2 = some r') : ∃ r, o = some r ∧ r = dec (numP most o).1 ++ r' ∧ 0 ≤ (numP most o).1 ∧ (numP most o).1 ≤ most ∧ noDig r' := by
  cases o with
  | none => simp [numP] at h
  | some r => exact ⟨r, rfl, (numP_iff most r _ r').1 (by rw [← h])⟩
theorem addrP_iff (r : List UInt8) (a : Int) (r' : List UInt8) : addrP (some r) = (a, some r') ↔ (r = textL a ++ r' ∧ 0 ≤ a ∧ a < 4294967296 ∧ noDig r') := by
  constructor
  · intro h
    have hb := addrP_bd (some r)
    rw [h] at hb
    have h1 : (addrP (some r)).1 = a := by rw [h]
    have h2 : (addrP (some r)).2 = some r' := by rw [h]
    unfold addrP at h1 h2
    simp only [addrSt, if_true, show ¬ (1 = 0) by omega, show ¬ (2 = 0) by omega, show ¬ (3 = 0) by omega, if_false, Int.mul_zero, Int.zero_add] at h1 h2
    obtain ⟨r3, e3, f3, a3, b3, n3⟩ := numP_some h2
    rw [signP_iff] at e3
    obtain ⟨r2, e2, f2, a2, b2, n2⟩ := numP_some e3
    rw [signP_iff] at e2
    obtain ⟨r1, e1, f1, a1, b1, n1⟩ := numP_some e2
    rw [signP_iff] at e1
    obtain ⟨r0, e0, f0, a0, b0, n0⟩ := numP_some e1
    simp only [Option.some.injEq] at e0
    subst e0
    generalize (numP 255 (some r)).1 = x0 at *
    generalize (numP 255 (signP 46 (numP 255 (some r)).2)).1 = x1 at *
    generalize (numP 255 (signP 46 (numP 255 (signP 46 (numP 255 (some r)).2)).2)).1 = x2 at *
    generalize (numP 255 (signP 46 (numP 255 (signP 46 (numP 255 (signP 46 (numP 255 (some r)).2)).2)).2)).1 = x3 at *
    refine ⟨?_, by omega, by omega, n3⟩
    have o0 : oct a 0 = a / 16777216 % 256 := rfl
    have o1 : oct a 1 = a / 65536 % 256 := rfl
    have o2 : oct a 2 = a / 256 % 256 := rfl
    have o3 : oct a 3 = a / 1 % 256 := rfl
    rw [text_eq, show oct a 0 = x0 by omega, show oct a 1 = x1 by omega, show oct a 2 = x2 by omega, show oct a 3 = x3 by omega, ← f3, ← f2, ← f1, ← f0]
  · rintro ⟨rfl, h0, h1, h2⟩
    rw [text_eq]
    have b0 := oct_bd a 0; have b1 := oct_bd a 1; have b2 := oct_bd a 2; have b3 := oct_bd a 3
    have c0 := (numP_iff 255 (dec (oct a 0) ++ 46 :: (dec (oct a 1) ++ 46 :: (dec (oct a 2) ++ 46 :: (dec (oct a 3) ++ r')))) (oct a 0) _).2 ⟨rfl, b0.1, by omega, noDig_dot _⟩
    have c1 := (numP_iff 255 (dec (oct a 1) ++ 46 :: (dec (oct a 2) ++ 46 :: (dec (oct a 3) ++ r'))) (oct a 1) _).2 ⟨rfl, b1.1, by omega, noDig_dot _⟩
    have c2 := (numP_iff 255 (dec (oct a 2) ++ 46 :: (dec (oct a 3) ++ r')) (oct a 2) _).2 ⟨rfl, b2.1, by omega, noDig_dot _⟩
    have c3 := (numP_iff 255 (dec (oct a 3) ++ r') (oct a 3) _).2 ⟨rfl, b3.1, by omega, h2⟩
    have s : ∀ x, signP 46 (some (46 :: x)) = some x := fun x => by simp [signP]
    unfold addrP
    simp only [addrSt, if_true, show ¬ (1 = 0) by omega, show ¬ (2 = 0) by omega, show ¬ (3 = 0) by omega, if_false, Int.mul_zero, Int.zero_add, c0, s, c1, c2, c3]
    have o0 : oct a 0 = a / 16777216 % 256 := rfl
    have o1 : oct a 1 = a / 65536 % 256 := rfl
    have o2 : oct a 2 = a / 256 % 256 := rfl
    have o3 : oct a 3 = a / 1 % 256 := rfl
    simp only [Prod.mk.injEq, and_true]
    omega
end Go.Ab
namespace Go.Ab
/-- A place in a string: how much is left; -1: none. -/
def atOf (l : List UInt8) : Option (List UInt8) → Int
  | none => -1
  | some r => (l.length : Int) - r.length
def Suf (l : List UInt8) (o : Option (List UInt8)) : Prop := ∀ r, o = some r → r <:+ l
theorem suf_drop {l r : List UInt8} (h : r <:+ l) : ∃ k, k ≤ l.length ∧ r = l.drop k := by
  obtain ⟨t, rfl⟩ := h
  exact ⟨t.length, by simp, by simp⟩
theorem atOf_drop (l : List UInt8) (k : Nat) (h : k ≤ l.length) : atOf l (some (l.drop k)) = k := by simp [atOf]; omega
theorem mk_get (l : List UInt8) (k : Nat) (h : k < (ByteArray.mk l.toArray).size) : (ByteArray.mk l.toArray)[k]'h = l[k]'(show k < l.length from h) := rfl
theorem drop_at (l : List UInt8) (k : Nat) (h : k < l.length) : l.drop k = l[k] :: l.drop (k + 1) := List.drop_eq_getElem_cons h
theorem suf_sign {l : List UInt8} {o : Option (List UInt8)} (c : UInt8) (h : Suf l o) : Suf l (signP c o) := fun r hr => by
  rw [signP_iff] at hr
  exact (List.suffix_cons c r).trans (h _ hr)
theorem suf_num {l : List UInt8} {o : Option (List UInt8)} (most : Int) (h : Suf l o) : Suf l (numP most o).2 := fun r hr => by
  obtain ⟨r0, rfl, e, _⟩ := numP_some hr
  exact (List.suffix_append _ r).trans (e ▸ h _ rfl)
theorem suf_self (l : List UInt8) : Suf l (some l) := fun r h => by cases h; exact List.suffix_refl l
theorem suf_addrSt {l : List UInt8} {o : Option (List UInt8)} (h : Suf l o) : ∀ k, Suf l (addrSt o k).2
  | 0 => h
  | k + 1 => by
    simp only [addrSt]
    split
    · exact suf_num _ (suf_addrSt h k)
    · exact suf_num _ (suf_sign _ (suf_addrSt h k))
theorem suf_addr {l : List UInt8} {o : Option (List UInt8)} (h : Suf l o) : Suf l (addrP o).2 := suf_addrSt h 4
theorem atOf_len (l : List UInt8) (o : Option (List UInt8)) : (atOf l o = l.length) ↔ o = some [] := by
  cases o with
  | none => simp [atOf]
  | some r =>
    simp only [atOf, Option.some.injEq]
    constructor
    · intro h; exact List.eq_nil_of_length_eq_zero (by omega)
    · intro h; subst h; simp
theorem atOf_bd {l : List UInt8} {o : Option (List UInt8)} (h : Suf l o) : -1 ≤ atOf l o ∧ atOf l o ≤ l.length := by
  cases o with
  | none => simp [atOf]
  | some r => have := (h r rfl).length_le; simp only [atOf]; omega
end Go.Ab
namespace Go.Proofs.YtgenojfbhpimgaaGreatDoor
open Go.RowKit Go.Ab
attribute [local go_sem] mk_get

set_option maxHeartbeats 4000000 in
set_option maxRecDepth 100000 in
theorem sign_neg (l : List UInt8) (c : UInt8) (w : World) : Gives Tryz.prog 108 #[.string ⟨l.toArray⟩, .int .i64 (-1), .int .u8 (c.toNat : Int)] w (.int .i64 (-1)) := by
  unfold Gives
  go_enter Tryz.func108, Tryz.ntmps108
  go_wp2
  go_ret
  exact ⟨rfl, mkI⟩
set_option maxHeartbeats 4000000 in
set_option maxRecDepth 100000 in
theorem sign_end (l : List UInt8) (c : UInt8) (w : World) : Gives Tryz.prog 108 #[.string ⟨l.toArray⟩, .int .i64 (l.length : Int), .int .u8 (c.toNat : Int)] w (.int .i64 (-1)) := by
  unfold Gives
  have d0 : decide ((l.length : Int) < 0) = false := by simp
  have d1 : decide (l.length ≤ l.length) = true := by simp
  go_enter Tryz.func108, Tryz.ntmps108
  go_wp2
  go_ret
  exact ⟨rfl, mkI⟩
set_option maxHeartbeats 4000000 in
set_option maxRecDepth 100000 in
theorem sign_at (l : List UInt8) (k : Nat) (b c : UInt8) (w : World) (hl : l.length < 4294967281) (h : k < l.length) (hb : l[k] = b) (v : Int) (hv : if b = c then v = k + 1 else v = -1) :
    Gives Tryz.prog 108 #[.string ⟨l.toArray⟩, .int .i64 (k : Int), .int .u8 (c.toNat : Int)] w (.int .i64 v) := by
  unfold Gives
  have d0 : decide ((k : Int) < 0) = false := by simp
  have d1 : decide (l.length ≤ k) = false := by simp; omega
  by_cases e : b = c
  · rw [if_pos e] at hv
    subst e hv
    go_enter Tryz.func108, Tryz.ntmps108
    go_wp2
    go_ret
    exact ⟨rfl, mkI⟩
  · rw [if_neg e] at hv
    subst hv
    have d2 : ((b.toNat : Int) != (c.toNat : Int)) = true := by
      simp only [bne_iff_ne, ne_eq]
      intro h; exact e (UInt8.toNat_inj.1 (by omega))
    clear e
    go_enter Tryz.func108, Tryz.ntmps108
    go_wp2
    go_ret
    exact ⟨rfl, mkI⟩
theorem sign_any (l : List UInt8) (o : Option (List UInt8)) (c : UInt8) (w : World) (hl : l.length < 4294967281) (hs : Suf l o) :
    Gives Tryz.prog 108 #[.string ⟨l.toArray⟩, .int .i64 (atOf l o), .int .u8 (c.toNat : Int)] w (.int .i64 (atOf l (signP c o))) := by
  cases o with
  | none => exact sign_neg l c w
  | some r =>
    obtain ⟨k, hk, rfl⟩ := suf_drop (hs r rfl)
    rw [atOf_drop l k hk]
    rcases Nat.lt_or_ge k l.length with h | h
    · refine sign_at l k l[k] c w hl h rfl _ ?_
      rw [drop_at l k h]
      simp only [signP]
      split
      · have := atOf_drop l (k + 1) (by omega)
        rw [this]; omega
      · rfl
    · obtain rfl : k = l.length := by omega
      rw [List.drop_length]
      exact sign_end l c w

theorem take_succ_at (r : List UInt8) (j : Nat) (h : j < r.length) : r.take (j + 1) = r.take j ++ [r[j]] := List.take_succ_eq_append_getElem h
/-- How the loop ends, and what the number is then. -/
theorem numP_stop (most : Int) (r : List UInt8) (j : Nat) (hj : j ≤ r.length) (hd : ∀ c ∈ r.take j, isDig c = true) (hs : most < valL (r.take j) ∨ noDig (r.drop j)) :
    (j = 0 → numP most (some r) = (0, none)) ∧ (most < valL (r.take j) → numP most (some r) = (0, none)) ∧
    (valL (r.take j) ≤ most → (∀ h : 0 < r.length, r[0] = 48 → 1 < j → numP most (some r) = (0, none)) ∧
      (∀ h : 0 < r.length, 0 < j → (r[0] = 48 → j ≤ 1) → numP most (some r) = (valL (r.take j), some (r.drop j)))) := by
  have hno : most < valL (r.take j) → numP most (some r) = (0, none) := fun h => by
    rw [numP_eq]
    have e : ∃ t, digs r = r.take j ++ t := by
      have h1 : r.take j ++ r.drop j = r := List.take_append_drop j r
      refine ⟨digs (r.drop j), ?_⟩
      unfold digs
      conv => lhs; rw [← h1]
      rw [List.takeWhile_append_of_pos hd]
    obtain ⟨t, e⟩ := e
    have h2 := valL_mono (r.take j) t (by rw [← e]; exact digs_dig r)
    rw [e, if_neg]
    simp only [Bool.and_eq_true, decide_eq_true_eq]; omega
  have hok : valL (r.take j) ≤ most → digs r = r.take j ∧ after r = r.drop j := fun h => by
    have := digs_app (r.take j) (r.drop j) hd (by rcases hs with hs | hs; · omega
                                                  · exact hs)
    rwa [List.take_append_drop] at this
  refine ⟨fun h0 => ?_, hno, fun h => ⟨fun hl h48 h1 => ?_, fun hl h1 h48 => ?_⟩⟩
  · subst h0
    by_cases h : most < valL (r.take 0)
    · exact hno h
    · have := (hok (by omega)).1
      rw [numP_eq, this]; simp [plainB]
  · rw [numP_eq, (hok h).1]
    obtain ⟨a, t, rfl⟩ : ∃ a t, r = a :: t := by cases r with | nil => simp at hl | cons a t => exact ⟨a, t, rfl⟩
    obtain ⟨i, rfl⟩ : ∃ i, j = i + 2 := ⟨j - 2, by omega⟩
    simp only [List.getElem_cons_zero] at h48
    subst h48
    have : t ≠ [] := fun e => by subst e; simp at hj
    obtain ⟨b, u, rfl⟩ : ∃ b u, t = b :: u := by cases t with | nil => exact absurd rfl this | cons b u => exact ⟨b, u, rfl⟩
    rw [if_neg]; simp [plainB]
  · rw [numP_eq, (hok h).1, (hok h).2, if_pos]
    simp only [Bool.and_eq_true, decide_eq_true_eq]
    refine ⟨?_, h⟩
    obtain ⟨a, t, rfl⟩ : ∃ a t, r = a :: t := by cases r with | nil => simp at hl | cons a t => exact ⟨a, t, rfl⟩
    obtain ⟨i, rfl⟩ : ∃ i, j = i + 1 := ⟨j - 1, by omega⟩
    simp only [List.getElem_cons_zero] at h48
    by_cases ha : a = 48
    · have := h48 ha
      obtain rfl : i = 0 := by omega
      simp [plainB]
    · simp [plainB, ha]
set_option maxHeartbeats 4000000 in
set_option maxRecDepth 100000 in
theorem number_neg (l : List UInt8) (most : Int) (w : World) : Gives Tryz.prog 107 #[.string ⟨l.toArray⟩, .int .i64 (-1), .int .i64 most] w (.tuple #[.int .i64 0, .int .i64 (-1)]) := by
  unfold Gives
  go_enter Tryz.func107, Tryz.ntmps107
  go_wp2_with fail
  go_loopw [8, 9] (fun n i wr => n = .int .i64 0 ∧ i = .int .i64 (-1) ∧ wr = w) (fun _ _ _ => 0)
  case atStart => exact ⟨rfl, rfl, rfl⟩
  case round =>
    obtain ⟨rfl, rfl, rfl⟩ := hrel
    go_wp2
    go_ret2
    exact ⟨rfl, mkI⟩
set_option maxHeartbeats 16000000 in
set_option maxRecDepth 100000 in
theorem number_at (l : List UInt8) (k : Nat) (most : Int) (w : World) (hl : l.length < 4294967281) (hk : k ≤ l.length) (hm : 0 ≤ most) (hm1 : most ≤ 65535) :
    Gives Tryz.prog 107 #[.string ⟨l.toArray⟩, .int .i64 (k : Int), .int .i64 most] w (.tuple #[.int .i64 (numP most (some (l.drop k))).1, .int .i64 (atOf l (numP most (some (l.drop k))).2)]) := by
  have d0 : decide ((k : Int) < 0) = false := by simp
  have d1 : decide ((0 : Int) ≤ k) = true := by simp
  unfold Gives
  go_enter Tryz.func107, Tryz.ntmps107
  go_wp2_with fail
  go_loopw [8, 9] (fun n i wr => ∃ (j i' : Nat) (v : Int), i' ≤ l.length ∧ k ≤ i' ∧ Hid (i' = k + j) ∧ i = .int .i64 (i' : Int) ∧ n = .int .i64 v ∧ 0 ≤ v ∧ v ≤ 700000 ∧ Hid (v = valL ((l.drop k).take j)) ∧ Hid (∀ c ∈ (l.drop k).take j, isDig c = true) ∧ wr = w) (fun _ i _ => l.length - (intOf i).toNat)
  case atStart => exact ⟨0, k, 0, hk, Nat.le_refl _, Lib.hid rfl, rfl, rfl, by omega, by omega, Lib.hid (by simp [valL]), Lib.hid (by simp), rfl⟩
  case round =>
    obtain ⟨j, i', v, hi, hki, Hi, rfl, rfl, v0, v1, Hv, Hd, rfl⟩ := hrel
    have hlen : (l.drop k).length = l.length - k := by simp
    have stop := fun hs => numP_stop most (l.drop k) j (by rw [hlen]; have := Hi.out; omega) Hd.out hs
    rw [← Hv.out] at stop
    have Hlen := Lib.hid hlen
    have Hst := Lib.hid stop
    clear stop hlen
    by_cases hA : i' < l.length
    · obtain ⟨b, hb⟩ : ∃ b, l[i'] = b := ⟨_, rfl⟩
      have hdr : (l.drop k).drop j = b :: l.drop (i' + 1) := by rw [List.drop_drop, ← Hi.out, drop_at l i' hA, hb]
      have hdk : l.drop i' = b :: l.drop (i' + 1) := by rw [drop_at l i' hA, hb]
      have Hdr := Lib.hid hdr
      have Hb := Lib.hid hb
      clear hdr hdk
      by_cases hd : 48 ≤ b.toNat ∧ b.toNat ≤ 57
      · obtain ⟨hd1, hd2⟩ := hd
        by_cases hv : v ≤ most
        · clear Hst
          have hsn : (l.drop k).take (j + 1) = (l.drop k).take j ++ [b] := by
            have hj2 : j < (l.drop k).length := by rw [Hlen.out]; have := Hi.out; omega
            rw [List.take_succ_eq_append_getElem hj2]
            congr 2
            rw [List.getElem_drop]
            have := Hi.out
            rw [← Hb.out]; congr 1; omega
          have Hsn := Lib.hid hsn
          clear hsn
          go_wp2
          all_goals (first | (exfalso; omega) | skip)
          go_roundw
          case rel =>
            refine ⟨j + 1, i' + 1, 10 * v + ((b.toNat : Int) - 48), by omega, by omega, Lib.hid (by have := Hi.out; omega), by go_num, ?_, by omega, by omega, Lib.hid ?_, Lib.hid ?_, trivial⟩
            · first | rfl | (congr 1; omega) | (congr 2; omega)
            · rw [Hsn.out, valL_snoc, ← Hv.out]
            · rw [Hsn.out]
              intro c hc
              rcases List.mem_append.1 hc with h | h
              · exact Hd.out c h
              · simp at h; subst h; unfold isDig; simp; omega
          case measure => simp [intOf]; omega
        · have HS : most < v ∨ noDig ((l.drop k).drop j) := .inl (by omega)
          obtain ⟨R0, R1, R2⟩ := Hst.out HS
          by_cases hj : j = 0
          · have Z := Lib.hid (R0 hj)
            clear R0 R1 R2
            have hi2 := Hi.out
            have b1 : ((i' : Int) == k) = true := by simp; omega
            clear hi2 hj
            go_wp2
            all_goals (first | (exfalso; omega) | (go_ret2; exact ⟨by rw [Z.out]; rfl, mkI⟩))
          · have hki2 : k < i' := by have := Hi.out; omega
            have b1 : ((i' : Int) == k) = false := by simp; omega
            by_cases hmv : most < v
            · have Z := Lib.hid (R1 hmv)
              clear R0 R1 R2 hj
              go_wp2
              all_goals (first | (exfalso; omega) | (go_ret2; exact ⟨by rw [Z.out]; rfl, mkI⟩))
            · have hkl : k < l.length := by omega
              obtain ⟨b0, hb0⟩ : ∃ b0, l[k] = b0 := ⟨_, rfl⟩
              have hr0 : ∀ h : 0 < (l.drop k).length, (l.drop k)[0] = b0 := fun h => by rw [← hb0]; simp
              have hpos : 0 < (l.drop k).length := by rw [Hlen.out]; omega
              by_cases h48 : b0 = 48
              · have c48 : ((b0.toNat : Int) == 48) = true := by rw [h48]; rfl
                by_cases h1 : 1 < j
                · have Z := Lib.hid ((R2 (by omega)).1 hpos (by rw [hr0 hpos, h48]) h1)
                  have hk2 : k + 1 < i' := by have := Hi.out; omega
                  clear R0 R1 R2 hj hr0 hpos h48 h1
                  go_wp2
                  all_goals (first | (exfalso; omega) | (go_ret2; exact ⟨by rw [Z.out]; rfl, mkI⟩))
                · have Z := Lib.hid ((R2 (by omega)).2 hpos (by omega) (fun _ => by omega))
                  have hk2 : i' ≤ k + 1 := by have := Hi.out; omega
                  clear R0 R1 R2 hj hr0 hpos h48 h1
                  go_wp2
                  all_goals (first | (exfalso; omega) | (go_ret2; exact ⟨by rw [Z.out, List.drop_drop, ← Hi.out]; show _ = Ending.returned (.tuple #[.int .i64 v, .int .i64 (atOf l (some (l.drop i')))]); rw [atOf_drop l i' hi]; rfl, mkI⟩))
              · have c48 : ((b0.toNat : Int) == 48) = false := by
                  simp only [beq_eq_false_iff_ne, ne_eq]
                  intro h; exact h48 (UInt8.toNat_inj.1 (by simp; omega))
                have Z := Lib.hid ((R2 (by omega)).2 hpos (by omega) (fun h => absurd ((hr0 hpos).symm.trans h) h48))
                clear R0 R1 R2 hj hr0 hpos h48
                go_wp2
                all_goals (first | (exfalso; omega) | (go_ret2; exact ⟨by rw [Z.out, List.drop_drop, ← Hi.out]; show _ = Ending.returned (.tuple #[.int .i64 v, .int .i64 (atOf l (some (l.drop i')))]); rw [atOf_drop l i' hi]; rfl, mkI⟩))
      · have HS : most < v ∨ noDig ((l.drop k).drop j) := .inr (by rw [Hdr.out]; unfold noDig isDig; simp; omega)
        obtain ⟨R0, R1, R2⟩ := Hst.out HS
        by_cases hj : j = 0
        · have Z := Lib.hid (R0 hj)
          clear R0 R1 R2
          have hi2 := Hi.out
          have b1 : ((i' : Int) == k) = true := by simp; omega
          clear hi2 hj
          go_wp2
          all_goals (first | (exfalso; omega) | (go_ret2; exact ⟨by rw [Z.out]; rfl, mkI⟩))
        · have hki2 : k < i' := by have := Hi.out; omega
          have b1 : ((i' : Int) == k) = false := by simp; omega
          by_cases hmv : most < v
          · have Z := Lib.hid (R1 hmv)
            clear R0 R1 R2 hj
            go_wp2
            all_goals (first | (exfalso; omega) | (go_ret2; exact ⟨by rw [Z.out]; rfl, mkI⟩))
          · have hkl : k < l.length := by omega
            obtain ⟨b0, hb0⟩ : ∃ b0, l[k] = b0 := ⟨_, rfl⟩
            have hr0 : ∀ h : 0 < (l.drop k).length, (l.drop k)[0] = b0 := fun h => by rw [← hb0]; simp
            have hpos : 0 < (l.drop k).length := by rw [Hlen.out]; omega
            by_cases h48 : b0 = 48
            · have c48 : ((b0.toNat : Int) == 48) = true := by rw [h48]; rfl
              by_cases h1 : 1 < j
              · have Z := Lib.hid ((R2 (by omega)).1 hpos (by rw [hr0 hpos, h48]) h1)
                have hk2 : k + 1 < i' := by have := Hi.out; omega
                clear R0 R1 R2 hj hr0 hpos h48 h1
                go_wp2
                all_goals (first | (exfalso; omega) | (go_ret2; exact ⟨by rw [Z.out]; rfl, mkI⟩))
              · have Z := Lib.hid ((R2 (by omega)).2 hpos (by omega) (fun _ => by omega))
                have hk2 : i' ≤ k + 1 := by have := Hi.out; omega
                clear R0 R1 R2 hj hr0 hpos h48 h1
                go_wp2
                all_goals (first | (exfalso; omega) | (go_ret2; exact ⟨by rw [Z.out, List.drop_drop, ← Hi.out]; show _ = Ending.returned (.tuple #[.int .i64 v, .int .i64 (atOf l (some (l.drop i')))]); rw [atOf_drop l i' hi]; rfl, mkI⟩))
            · have c48 : ((b0.toNat : Int) == 48) = false := by
                simp only [beq_eq_false_iff_ne, ne_eq]
                intro h; exact h48 (UInt8.toNat_inj.1 (by simp; omega))
              have Z := Lib.hid ((R2 (by omega)).2 hpos (by omega) (fun h => absurd ((hr0 hpos).symm.trans h) h48))
              clear R0 R1 R2 hj hr0 hpos h48
              go_wp2
              all_goals (first | (exfalso; omega) | (go_ret2; exact ⟨by rw [Z.out, List.drop_drop, ← Hi.out]; show _ = Ending.returned (.tuple #[.int .i64 v, .int .i64 (atOf l (some (l.drop i')))]); rw [atOf_drop l i' hi]; rfl, mkI⟩))
    · have HS : most < v ∨ noDig ((l.drop k).drop j) := .inr (by rw [List.drop_eq_nil_of_le (by rw [Hlen.out]; have := Hi.out; omega)]; trivial)
      obtain ⟨R0, R1, R2⟩ := Hst.out HS
      by_cases hj : j = 0
      · have Z := Lib.hid (R0 hj)
        clear R0 R1 R2
        have hi2 := Hi.out
        have b1 : ((i' : Int) == k) = true := by simp; omega
        clear hi2 hj
        go_wp2
        all_goals (first | (exfalso; omega) | (go_ret2; exact ⟨by rw [Z.out]; rfl, mkI⟩))
      · have hki2 : k < i' := by have := Hi.out; omega
        have b1 : ((i' : Int) == k) = false := by simp; omega
        by_cases hmv : most < v
        · have Z := Lib.hid (R1 hmv)
          clear R0 R1 R2 hj
          go_wp2
          all_goals (first | (exfalso; omega) | (go_ret2; exact ⟨by rw [Z.out]; rfl, mkI⟩))
        · have hkl : k < l.length := by omega
          obtain ⟨b0, hb0⟩ : ∃ b0, l[k] = b0 := ⟨_, rfl⟩
          have hr0 : ∀ h : 0 < (l.drop k).length, (l.drop k)[0] = b0 := fun h => by rw [← hb0]; simp
          have hpos : 0 < (l.drop k).length := by rw [Hlen.out]; omega
          by_cases h48 : b0 = 48
          · have c48 : ((b0.toNat : Int) == 48) = true := by rw [h48]; rfl
            by_cases h1 : 1 < j
            · have Z := Lib.hid ((R2 (by omega)).1 hpos (by rw [hr0 hpos, h48]) h1)
              have hk2 : k + 1 < i' := by have := Hi.out; omega
              clear R0 R1 R2 hj hr0 hpos h48 h1
              go_wp2
              all_goals (first | (exfalso; omega) | (go_ret2; exact ⟨by rw [Z.out]; rfl, mkI⟩))
            · have Z := Lib.hid ((R2 (by omega)).2 hpos (by omega) (fun _ => by omega))
              have hk2 : i' ≤ k + 1 := by have := Hi.out; omega
              clear R0 R1 R2 hj hr0 hpos h48 h1
              go_wp2
              all_goals (first | (exfalso; omega) | (go_ret2; exact ⟨by rw [Z.out, List.drop_drop, ← Hi.out]; show _ = Ending.returned (.tuple #[.int .i64 v, .int .i64 (atOf l (some (l.drop i')))]); rw [atOf_drop l i' hi]; rfl, mkI⟩))
          · have c48 : ((b0.toNat : Int) == 48) = false := by
              simp only [beq_eq_false_iff_ne, ne_eq]
              intro h; exact h48 (UInt8.toNat_inj.1 (by simp; omega))
            have Z := Lib.hid ((R2 (by omega)).2 hpos (by omega) (fun h => absurd ((hr0 hpos).symm.trans h) h48))
            clear R0 R1 R2 hj hr0 hpos h48
            go_wp2
            all_goals (first | (exfalso; omega) | (go_ret2; exact ⟨by rw [Z.out, List.drop_drop, ← Hi.out]; show _ = Ending.returned (.tuple #[.int .i64 v, .int .i64 (atOf l (some (l.drop i')))]); rw [atOf_drop l i' hi]; rfl, mkI⟩))
theorem number_any (l : List UInt8) (o : Option (List UInt8)) (most : Int) (w : World) (hl : l.length < 4294967281) (hs : Suf l o) (hm : 0 ≤ most) (hm1 : most ≤ 65535) :
    Gives Tryz.prog 107 #[.string ⟨l.toArray⟩, .int .i64 (atOf l o), .int .i64 most] w (.tuple #[.int .i64 (numP most o).1, .int .i64 (atOf l (numP most o).2)]) := by
  cases o with
  | none => exact number_neg l most w
  | some r =>
    obtain ⟨k, hk, rfl⟩ := suf_drop (hs r rfl)
    rw [atOf_drop l k hk]
    exact number_at l k most w hl hk hm hm1

set_option maxHeartbeats 4000000 in
set_option maxRecDepth 100000 in
theorem address_any (l : List UInt8) (o : Option (List UInt8)) (w : World) (hl : l.length < 4294967281) (hs : Suf l o) :
    Gives Tryz.prog 109 #[.string ⟨l.toArray⟩, .int .i64 (atOf l o)] w (.tuple #[.int .i64 (addrP o).1, .int .i64 (atOf l (addrP o).2)]) := by
  unfold Gives
  go_enter Tryz.func109, Tryz.ntmps109
  go_wp2_with fail
  go_loopw [1, 6, 7] (fun at_ a kk wr => ∃ (k : Nat) (at' a' : Int), k ≤ 4 ∧ kk = .int .i64 (k : Int) ∧ at_ = .int .i64 at' ∧ Hid (at' = atOf l (addrSt o k).2) ∧ a = .int .i64 a' ∧ Hid (a' = (addrSt o k).1) ∧ ∃ x : Ext w, wr = x.w) (fun _ _ kk _ => 4 - (intOf kk).toNat)
  case atStart => exact ⟨0, _, _, by omega, rfl, rfl, Lib.hid rfl, rfl, Lib.hid rfl, (Up.refl w).mk⟩
  case round =>
    obtain ⟨k, at', a', hk, rfl, rfl, Hat, rfl, Ha, x, rfl⟩ := hrel
    by_cases h4 : k < 4
    · obtain ⟨c0, c1⟩ := addrSt_bd o k
      rw [← Ha.out] at c0 c1
      have c2 : a' < 16777216 := by
        have : (256 : Int) ^ k ≤ 256 ^ 3 := by
          have := Nat.pow_le_pow_right (n := 256) (by decide) (show k ≤ 3 by omega)
          exact_mod_cast this
        have e : (256 : Int) ^ 3 = 16777216 := by decide
        omega
      have hsu := suf_addrSt hs k
      clear c1
      rcases Nat.eq_zero_or_pos k with h0 | h0
      · subst h0
        obtain ⟨p, Hp⟩ : ∃ p, Hid (p = (addrSt o 0).2) := ⟨_, Lib.hid rfl⟩
        have hat : at' = atOf l p := by rw [Hat.out, Hp.out]
        have hsp : Suf l p := by rw [Hp.out]; exact hsu
        obtain ⟨n0, n1⟩ := numP_bd 255 (by omega) p
        clear Hat hsu
        subst hat
        go_wp2_with (go_at_call 107; refine (number_any l p 255 _ hl hsp (by omega) (by omega)).mono ?_; rintro e w' ⟨rfl, x, rfl⟩)
        go_roundw
        case rel => exact ⟨1, _, _, by omega, by go_num, rfl, Lib.hid (by simp only [addrSt, if_true]; rw [Hp.out]; rfl), rfl, Lib.hid (by simp only [addrSt, if_true]; rw [Ha.out, Hp.out]; rfl), mkI⟩
        case measure => simp [intOf]
      · obtain ⟨p, Hp⟩ : ∃ p, Hid (p = (addrSt o k).2) := ⟨_, Lib.hid rfl⟩
        have hat : at' = atOf l p := by rw [Hat.out, Hp.out]
        have hsp : Suf l p := by rw [Hp.out]; exact hsu
        obtain ⟨n0, n1⟩ := numP_bd 255 (by omega) (signP 46 p)
        clear Hat hsu
        subst hat
        go_wp2_with (first
          | (go_at_call 108; refine (sign_any l p 46 _ hl hsp).mono ?_; rintro e w' ⟨rfl, x, rfl⟩)
          | (go_at_call 107; refine (number_any l (signP 46 p) 255 _ hl (suf_sign 46 hsp) (by omega) (by omega)).mono ?_; rintro e w' ⟨rfl, x, rfl⟩))
        go_roundw
        case rel => exact ⟨k + 1, _, _, by omega, by go_num, rfl, Lib.hid (by simp only [addrSt]; rw [if_neg (by omega), Hp.out]), rfl, Lib.hid (by simp only [addrSt]; rw [if_neg (by omega), Ha.out, Hp.out]), mkI⟩
        case measure => simp [intOf]; omega
    · obtain rfl : k = 4 := by omega
      go_wp2
      go_ret2
      exact ⟨by rw [Ha.out, Hat.out]; rfl, mkI⟩
end Go.Proofs.YtgenojfbhpimgaaGreatDoor
namespace Go.Ab
theorem ba_app (a b : List UInt8) : (⟨a.toArray⟩ : ByteArray) ++ (⟨b.toArray⟩ : ByteArray) = ⟨(a ++ b).toArray⟩ := by
  apply ByteArray.ext
  simp
theorem ba_take (l : List UInt8) (k : Nat) : (⟨l.toArray⟩ : ByteArray).extract 0 k = ⟨(l.take k).toArray⟩ := by
  apply ByteArray.ext
  simp [ByteArray.data_extract]
theorem ba_drop (l : List UInt8) (k : Nat) : (⟨l.toArray⟩ : ByteArray).extract k l.length = ⟨(l.drop k).toArray⟩ := by
  apply ByteArray.ext
  simp [ByteArray.data_extract]
  exact List.take_of_length_le (by simp)
end Go.Ab
namespace Go.Ab
open Go.Proofs.YtgenojfbhpimgaaGreatDoor
theorem noDig_nil : noDig [] := trivial
theorem noDig_sign (c : UInt8) (hc : isDig c = false) (r : List UInt8) : noDig (c :: r) := hc
theorem addrP_some {o : Option (List UInt8)} {r' : List UInt8} (h : (addrP o).2 = some r') : ∃ r, o = some r ∧ r = textL (addrP o).1 ++ r' ∧ 0 ≤ (addrP o).1 ∧ (addrP o).1 < 4294967296 ∧ noDig r' := by
  cases o with
  | none => simp [addrP, addrSt, numP, signP] at h
  | some r => exact ⟨r, rfl, (addrP_iff r _ r').1 (by rw [← h])⟩
theorem addrP_mk (a : Int) (r' : List UInt8) (h0 : 0 ≤ a) (h1 : a < 4294967296) (h : noDig r') : addrP (some (textL a ++ r')) = (a, some r') := (addrP_iff _ a r').2 ⟨rfl, h0, h1, h⟩
theorem numP_mk (most n : Int) (r' : List UInt8) (h0 : 0 ≤ n) (h1 : n ≤ most) (h : noDig r') : numP most (some (dec n ++ r')) = (n, some r') := (numP_iff most _ n r').2 ⟨rfl, h0, h1, h⟩
theorem signP_mk (c : UInt8) (r : List UInt8) : signP c (some (c :: r)) = some r := by simp [signP]

theorem ref_read (l : List UInt8) : readL l = if (addrP (some l)).2 = some [] then some (addrP (some l)).1 else none := by
  split
  · rename_i h
    obtain ⟨r, e, f, h0, h1, _⟩ := addrP_some h
    cases e
    rw [List.append_nil] at f
    have := read_text (addrP (some l)).1 h0 h1
    rwa [← f] at this
  · rename_i h
    refine opt_none fun a ha => h ?_
    have e := text_read ha
    have := addrP_mk a [] (readL_bd ha).1 (readL_bd ha).2 noDig_nil
    rw [List.append_nil, e] at this
    rw [this]
/-- The prefix, as the reference reads it. -/
def rpN (l : List UInt8) : Int × Option (List UInt8) := numP 32 (signP 47 (addrP (some l)).2)
theorem ref_readPrefix (l : List UInt8) : readPrefixL l = if (rpN l).2 = some [] ∧ rightB (addrP (some l)).1 (rpN l).1 = true then some ((addrP (some l)).1, (rpN l).1) else none := by
  split
  · rename_i h
    obtain ⟨h, hr⟩ := h
    unfold rpN at h hr ⊢
    obtain ⟨r, e, f, h0, h1, _⟩ := numP_some h
    rw [signP_iff] at e
    obtain ⟨r2, e2, f2, a0, a1, _⟩ := addrP_some e
    cases e2
    rw [List.append_nil] at f
    rw [f] at f2
    have := readPrefix_text _ _ a0 a1 h0 (by omega) hr
    unfold prefixTextL at this
    rw [List.append_assoc, List.singleton_append, ← f2] at this
    exact this
  · rename_i h
    refine opt_none fun ⟨a, n⟩ ha => h ?_
    obtain ⟨e, hr, a0, a1, n0, n1⟩ := prefix_read ha
    have hn : n ≤ 32 := by simp [rightB] at hr; exact hr.1
    have h1 := addrP_mk a (47 :: (dec n ++ [])) a0 a1 (noDig_sign 47 (by decide) _)
    have e2 : textL a ++ 47 :: (dec n ++ []) = l := by rw [← e]; simp [prefixTextL]
    rw [e2] at h1
    have h2 := numP_mk 32 n [] n0 hn noDig_nil
    unfold rpN
    rw [h1]
    simp only [signP_mk, h2, hr, and_self]
/-- The range, as the reference reads it. -/
def rrA (l : List UInt8) : Int × Option (List UInt8) := numP 65535 (some l)
def rrB (l : List UInt8) : Int × Option (List UInt8) := numP 65535 (signP 45 (rrA l).2)
theorem ref_readRange (l : List UInt8) : readRangeL l = if l = [42] then some (0, 65535) else if (rrA l).2 = some [] then some ((rrA l).1, (rrA l).1) else
    if (rrB l).2 = some [] ∧ (rrA l).1 < (rrB l).1 ∧ ¬ ((rrA l).1 = 0 ∧ (rrB l).1 = 65535) then some ((rrA l).1, (rrB l).1) else none := by
  split
  · rename_i h; subst h; rfl
  · rename_i hs
    split
    · rename_i h
      unfold rrA at h ⊢
      obtain ⟨r, e, f, h0, h1, _⟩ := numP_some h
      cases e
      rw [List.append_nil] at f
      have := readRange_text _ _ h0 (by omega) h0 (by omega) (Int.le_refl (numP 65535 (some l)).1)
      rw [rangeTextL_one _ (by omega), ← f] at this
      exact this
    · rename_i hA
      split
      · rename_i h
        obtain ⟨h, hlt, hne⟩ := h
        obtain ⟨r, e, f, h0, h1, _⟩ := numP_some (most := 65535) (o := signP 45 (rrA l).2) h
        have F : r = dec (rrB l).1 ++ [] := f
        have H0 : 0 ≤ (rrB l).1 := h0
        have H1 : (rrB l).1 ≤ 65535 := h1
        rw [signP_iff] at e
        obtain ⟨r2, e2, f2, a0, a1, _⟩ := numP_some (most := 65535) (o := some l) e
        have F2 : l = dec (rrA l).1 ++ 45 :: r := by cases e2; exact f2
        have A0 : 0 ≤ (rrA l).1 := a0
        have A1 : (rrA l).1 ≤ 65535 := a1
        rw [List.append_nil] at F
        rw [F] at F2
        have := readRange_text _ _ A0 (by omega) H0 (by omega) (Int.le_of_lt hlt)
        rw [rangeTextL_two _ _ hne (by omega), List.append_assoc, List.singleton_append, ← F2] at this
        exact this
      · rename_i h
        refine opt_none fun ⟨p, q⟩ ha => ?_
        obtain ⟨e, hle, p0, p1, q0, q1⟩ := range_read ha
        by_cases hst : p = 0 ∧ q = 65535
        · apply hs
          rw [← e]; unfold rangeTextL; rw [if_pos hst]
        · by_cases hpq : p = q
          · subst hpq
            rw [rangeTextL_one _ hst] at e
            have h2 := numP_mk 65535 p [] p0 (by omega) noDig_nil
            rw [List.append_nil, e] at h2
            apply hA
            unfold rrA; rw [h2]
          · rw [rangeTextL_two _ _ hst hpq] at e
            have h1 := numP_mk 65535 p (45 :: (dec q ++ [])) p0 (by omega) (noDig_sign 45 (by decide) _)
            have e2 : dec p ++ 45 :: (dec q ++ []) = l := by rw [← e]; simp
            rw [e2] at h1
            have h2 := numP_mk 65535 q [] q0 (by omega) noDig_nil
            apply h
            have ea : rrA l = (p, some (45 :: (dec q ++ []))) := h1
            have eb : rrB l = (q, some []) := by unfold rrB; rw [ea]; simp only [signP_mk, h2]
            rw [ea, eb]
            exact ⟨rfl, by show p < q; omega, hst⟩
/-- The key, as the reference reads it. -/
def rk1 (l : List UInt8) : Int × Option (List UInt8) := numP 255 (some l)
def rk2 (l : List UInt8) : Int × Option (List UInt8) := addrP (signP 32 (rk1 l).2)
def rk3 (l : List UInt8) : Int × Option (List UInt8) := numP 65535 (signP 58 (rk2 l).2)
def rk4 (l : List UInt8) : Int × Option (List UInt8) := addrP (signP 32 (rk3 l).2)
def rk5 (l : List UInt8) : Int × Option (List UInt8) := numP 65535 (signP 58 (rk4 l).2)
theorem ref_readKey (l : List UInt8) : readKeyV l = if (rk5 l).2 = some [] then .tuple #[.agg #[.int .u8 (rk1 l).1, .int .u32 (rk2 l).1, .int .u32 (rk4 l).1, .int .u16 (rk3 l).1, .int .u16 (rk5 l).1], .int .i64 0]
    else .tuple #[.agg #[.int .u8 0, .int .u32 0, .int .u32 0, .int .u16 0, .int .u16 0], .int .i64 30] := by
  split
  · rename_i h
    have h5 := h
    unfold rk5 at h
    obtain ⟨r5, e5, f5, a5, b5, _⟩ := numP_some h
    rw [signP_iff] at e5
    have h4 := e5
    unfold rk4 at e5
    obtain ⟨r4, e4, f4, a4, b4, _⟩ := addrP_some e5
    rw [signP_iff] at e4
    have h3 := e4
    unfold rk3 at e4
    obtain ⟨r3, e3, f3, a3, b3, _⟩ := numP_some e4
    rw [signP_iff] at e3
    have h2 := e3
    unfold rk2 at e3
    obtain ⟨r2, e2, f2, a2, b2, _⟩ := addrP_some e3
    rw [signP_iff] at e2
    have h1 := e2
    unfold rk1 at e2
    obtain ⟨r1, e1, f1, a1, b1, _⟩ := numP_some e2
    cases e1
    rw [List.append_nil] at f5
    have F1 : l = dec (rk1 l).1 ++ 32 :: r2 := f1
    have F2 : r2 = textL (rk2 l).1 ++ 58 :: r3 := f2
    have F3 : r3 = dec (rk3 l).1 ++ 32 :: r4 := f3
    have F4 : r4 = textL (rk4 l).1 ++ 58 :: r5 := f4
    have F5 : r5 = dec (rk5 l).1 := f5
    have e : l = keyTextL (rk1 l).1 (rk2 l).1 (rk4 l).1 (rk3 l).1 (rk5 l).1 := by
      rw [F5] at F4; rw [F4] at F3; rw [F3] at F2; rw [F2] at F1
      refine F1.trans ?_
      unfold keyTextL
      simp only [List.append_assoc, List.cons_append, List.nil_append]
    have := readKeyV_text (rk1 l).1 (rk2 l).1 (rk4 l).1 (rk3 l).1 (rk5 l).1 a1 (by have : (rk1 l).1 ≤ 255 := b1; omega) a2 b2 a4 b4 a3 (by have : (rk3 l).1 ≤ 65535 := b3; omega) a5 (by have : (rk5 l).1 ≤ 65535 := b5; omega)
    rwa [← e] at this
  · rename_i h
    unfold readKeyV
    rw [if_neg]
    intro hk
    apply h
    obtain ⟨⟨p0, p1⟩, ⟨s0, s1⟩, ⟨d0, d1⟩, ⟨sp0, sp1⟩, ⟨dp0, dp1⟩⟩ := key_bounds l
    unfold kText at hk
    generalize kPr l = pr at *
    generalize kS l = s at *
    generalize kD l = d at *
    generalize kSp l = sp at *
    generalize kDp l = dp at *
    have e : l = dec pr ++ 32 :: (textL s ++ 58 :: (dec sp ++ 32 :: (textL d ++ 58 :: (dec dp ++ [])))) := by
      rw [← hk]; unfold keyTextL; simp only [List.append_assoc, List.cons_append, List.append_nil, List.nil_append]
    have g1 : rk1 l = (pr, some (32 :: (textL s ++ 58 :: (dec sp ++ 32 :: (textL d ++ 58 :: (dec dp ++ [])))))) := by
      unfold rk1; conv => lhs; rw [e]
      exact numP_mk 255 pr _ p0 (by omega) (noDig_sign 32 (by decide) _)
    have g2 : rk2 l = (s, some (58 :: (dec sp ++ 32 :: (textL d ++ 58 :: (dec dp ++ []))))) := by
      unfold rk2; rw [g1]; simp only [signP_mk]; exact addrP_mk s _ s0 s1 (noDig_sign 58 (by decide) _)
    have g3 : rk3 l = (sp, some (32 :: (textL d ++ 58 :: (dec dp ++ [])))) := by
      unfold rk3; rw [g2]; simp only [signP_mk]; exact numP_mk 65535 sp _ sp0 (by omega) (noDig_sign 32 (by decide) _)
    have g4 : rk4 l = (d, some (58 :: (dec dp ++ []))) := by
      unfold rk4; rw [g3]; simp only [signP_mk]; exact addrP_mk d _ d0 d1 (noDig_sign 58 (by decide) _)
    unfold rk5; rw [g4]; simp only [signP_mk]
    rw [numP_mk 65535 dp [] dp0 (by omega) noDig_nil]
end Go.Ab
namespace Go.Proofs.YtgenojfbhpimgaaGreatDoor
open Go.RowKit Go.Ab
theorem at_ne {l : List UInt8} {o : Option (List UInt8)} (h : o ≠ some []) : (atOf l o != (l.length : Int)) = true := by
  simp only [bne_iff_ne, ne_eq]; exact fun e => h ((atOf_len l o).1 e)
theorem at_eq {l : List UInt8} {o : Option (List UInt8)} (h : o = some []) : (atOf l o != (l.length : Int)) = false := by
  simp only [bne_eq_false_iff_eq]; exact (atOf_len l o).2 h
end Go.Proofs.YtgenojfbhpimgaaGreatDoor
namespace Go.Proofs.YtgenojfbhpimgaaGreatDoor
open Go.RowKit Go.Ab
attribute [local go_sem high] eq_key
end Go.Proofs.YtgenojfbhpimgaaGreatDoor
