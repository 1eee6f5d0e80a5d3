/- The reference's names of reasons. The reference's ReadCounts, on lists: it reads just what the program reads (plain laws). The reference's Counts and ReadCounts, walked. -/
import Derived.Test.YtlbbepgfjigjpaaGreatDoorRfA
import Derived.Test.YtlbbepgfjigjpaaGreatDoorTr1
import Derived.Test.YtlbbepgfjigjpaaGreatDoorDEx
import Derived.Test.YtlbbepgfjigjpaaGreatDoorDRc
namespace Go.Proofs.YtlbbepgfjigjpaaGreatDoor
open Go.RowKit Go.Ab
set_option maxHeartbeats 16000000 in
set_option maxRecDepth 100000 in
theorem rname_any (r : Int) (w : World) (r0 : 0 ≤ r) (r1 : r < 256) : Gives Tryz.prog 71 #[.int .u8 r] w (.tuple #[.string ⟨(nameOf r).toArray⟩, .int .i64 (nameE r)]) := by
  unfold Gives
  by_cases h : 1 ≤ r ∧ r < 31
  · obtain ⟨h1, h2⟩ := h
    have e2 : nameE r = 0 := if_pos ⟨h1, h2⟩
    rw [e2]
    obtain ⟨k, rfl⟩ : ∃ k : Nat, r = (k : Int) + 1 := ⟨(r - 1).toNat, by omega⟩
    have hk : k < 30 := by omega
    have hs : namesL[k + 1]? = some (nameOf ((k : Int) + 1)) := by
      obtain ⟨s, hs⟩ := names_at (k + 1) (by omega)
      have e : ((k : Int) + 1).toNat = k + 1 := by omega
      unfold nameOf
      rw [if_pos ⟨h1, h2⟩, e, hs]; rfl
    generalize nameOf ((k : Int) + 1) = nm at *
    have hc3 : ∀ h, ([Value.string ⟨#[115, 104, 111, 114, 116]⟩, .string ⟨#[118, 101, 114, 115, 105, 111, 110]⟩, .string ⟨#[104, 101, 97, 100, 101, 114]⟩, .string ⟨#[116, 111, 116, 97, 108]⟩, .string ⟨#[115, 117, 109]⟩, .string ⟨#[114, 101, 115, 101, 114, 118, 101, 100]⟩, .string ⟨#[111, 102, 102, 115, 101, 116]⟩, .string ⟨#[102, 114, 97, 103, 109, 101, 110, 116]⟩, .string ⟨#[111, 112, 116, 105, 111, 110, 115]⟩, .string ⟨#[114, 111, 117, 116, 101]⟩, .string ⟨#[116, 116, 108]⟩, .string ⟨#[97, 100, 100, 114, 101, 115, 115]⟩, .string ⟨#[112, 114, 111, 116, 111, 99, 111, 108]⟩, .string ⟨#[108, 101, 110, 103, 116, 104]⟩, .string ⟨#[102, 108, 97, 103, 115]⟩, .string ⟨#[112, 111, 114, 116]⟩, .string ⟨#[116, 121, 112, 101]⟩, .string ⟨#[113, 117, 111, 116, 101]⟩, .string ⟨#[110, 101, 115, 116, 101, 100]⟩, .string ⟨#[102, 108, 111, 119]⟩, .string ⟨#[114, 101, 108, 97, 116, 101, 100]⟩, .string ⟨#[110, 101, 119]⟩, .string ⟨#[114, 117, 108, 101]⟩, .string ⟨#[110, 111, 114, 117, 108, 101]⟩, .string ⟨#[110, 111, 116, 111, 112, 101, 110]⟩, .string ⟨#[115, 116, 97, 116, 101]⟩, .string ⟨#[115, 111, 117, 114, 99, 101]⟩, .string ⟨#[114, 97, 116, 101]⟩, .string ⟨#[102, 117, 108, 108]⟩, .string ⟨#[110, 111, 110, 101]⟩] : List Value)[k]'h = .string ⟨nm.toArray⟩ := fun h => by
      have hl : ([Value.string ⟨#[115, 104, 111, 114, 116]⟩, .string ⟨#[118, 101, 114, 115, 105, 111, 110]⟩, .string ⟨#[104, 101, 97, 100, 101, 114]⟩, .string ⟨#[116, 111, 116, 97, 108]⟩, .string ⟨#[115, 117, 109]⟩, .string ⟨#[114, 101, 115, 101, 114, 118, 101, 100]⟩, .string ⟨#[111, 102, 102, 115, 101, 116]⟩, .string ⟨#[102, 114, 97, 103, 109, 101, 110, 116]⟩, .string ⟨#[111, 112, 116, 105, 111, 110, 115]⟩, .string ⟨#[114, 111, 117, 116, 101]⟩, .string ⟨#[116, 116, 108]⟩, .string ⟨#[97, 100, 100, 114, 101, 115, 115]⟩, .string ⟨#[112, 114, 111, 116, 111, 99, 111, 108]⟩, .string ⟨#[108, 101, 110, 103, 116, 104]⟩, .string ⟨#[102, 108, 97, 103, 115]⟩, .string ⟨#[112, 111, 114, 116]⟩, .string ⟨#[116, 121, 112, 101]⟩, .string ⟨#[113, 117, 111, 116, 101]⟩, .string ⟨#[110, 101, 115, 116, 101, 100]⟩, .string ⟨#[102, 108, 111, 119]⟩, .string ⟨#[114, 101, 108, 97, 116, 101, 100]⟩, .string ⟨#[110, 101, 119]⟩, .string ⟨#[114, 117, 108, 101]⟩, .string ⟨#[110, 111, 114, 117, 108, 101]⟩, .string ⟨#[110, 111, 116, 111, 112, 101, 110]⟩, .string ⟨#[115, 116, 97, 116, 101]⟩, .string ⟨#[115, 111, 117, 114, 99, 101]⟩, .string ⟨#[114, 97, 116, 101]⟩, .string ⟨#[102, 117, 108, 108]⟩, .string ⟨#[110, 111, 110, 101]⟩] : List Value)[k]? = (namesL[k + 1]?).map fun s => Value.string ⟨s.toArray⟩ := by
        rw [show ([Value.string ⟨#[115, 104, 111, 114, 116]⟩, .string ⟨#[118, 101, 114, 115, 105, 111, 110]⟩, .string ⟨#[104, 101, 97, 100, 101, 114]⟩, .string ⟨#[116, 111, 116, 97, 108]⟩, .string ⟨#[115, 117, 109]⟩, .string ⟨#[114, 101, 115, 101, 114, 118, 101, 100]⟩, .string ⟨#[111, 102, 102, 115, 101, 116]⟩, .string ⟨#[102, 114, 97, 103, 109, 101, 110, 116]⟩, .string ⟨#[111, 112, 116, 105, 111, 110, 115]⟩, .string ⟨#[114, 111, 117, 116, 101]⟩, .string ⟨#[116, 116, 108]⟩, .string ⟨#[97, 100, 100, 114, 101, 115, 115]⟩, .string ⟨#[112, 114, 111, 116, 111, 99, 111, 108]⟩, .string ⟨#[108, 101, 110, 103, 116, 104]⟩, .string ⟨#[102, 108, 97, 103, 115]⟩, .string ⟨#[112, 111, 114, 116]⟩, .string ⟨#[116, 121, 112, 101]⟩, .string ⟨#[113, 117, 111, 116, 101]⟩, .string ⟨#[110, 101, 115, 116, 101, 100]⟩, .string ⟨#[102, 108, 111, 119]⟩, .string ⟨#[114, 101, 108, 97, 116, 101, 100]⟩, .string ⟨#[110, 101, 119]⟩, .string ⟨#[114, 117, 108, 101]⟩, .string ⟨#[110, 111, 114, 117, 108, 101]⟩, .string ⟨#[110, 111, 116, 111, 112, 101, 110]⟩, .string ⟨#[115, 116, 97, 116, 101]⟩, .string ⟨#[115, 111, 117, 114, 99, 101]⟩, .string ⟨#[114, 97, 116, 101]⟩, .string ⟨#[102, 117, 108, 108]⟩, .string ⟨#[110, 111, 110, 101]⟩] : List Value) = (namesL.drop 1).map fun s => Value.string ⟨s.toArray⟩ from rfl, List.getElem?_map, List.getElem?_drop, Nat.add_comm]
      rw [hs, List.getElem?_eq_getElem h] at hl
      exact Option.some.inj hl
    have kk0 : (0 : Int) ≤ (k : Int) := by omega
    have kk1 : (k : Int) < 30 := by omega
    clear e2 hs
    go_enter Tryz.func71, Tryz.ntmps71
    go_wp2_with fail
    go_ret2
    exact ⟨rfl, mkI⟩
  · have e : nameOf r = [] := if_neg h
    have e2 : nameE r = 6 := if_neg h
    rw [e, e2]
    by_cases h0 : r = 0
    · subst h0
      go_enter Tryz.func71, Tryz.ntmps71
      go_wp2_with fail
      go_ret2
      exact ⟨rfl, mkI⟩
    · have b1 : 30 < r := by omega
      clear h h0 e e2
      go_enter Tryz.func71, Tryz.ntmps71
      go_wp2_with fail
      go_ret2
      exact ⟨rfl, mkI⟩
end Go.Proofs.YtlbbepgfjigjpaaGreatDoor
namespace Go.Ab
open Go.Proofs.YtlbbepgfjigjpaaGreatDoor
def rcName (n : Nat) : List UInt8 := (namesL[n]?).getD []
/-- The number of a line that has the name n. -/
def matchN (s : List UInt8) (n : Nat) : Option Int :=
  if (beginsP (rcName n ++ [32]) s).2 && (numR (beginsP (rcName n ++ [32]) s).1).2.2 && ((numR (beginsP (rcName n ++ [32]) s).1).2.1 == []) && decide (0 < (numR (beginsP (rcName n ++ [32]) s).1).1) then some (numR (beginsP (rcName n ++ [32]) s).1).1 else none
def scanS (s : List UInt8) (st : Nat × List Int) (n : Nat) : Nat × List Int := match matchN s n with | some x => (n, st.2.set n x) | none => st
/-- The names from last + 1 on to ahead of n are gone through. -/
def scanU (s : List UInt8) (last : Nat) (c : List Int) : Nat → Nat × List Int
  | 0 => (0, c)
  | n + 1 => if n ≤ last then (0, c) else scanS s (scanU s last c n) n
def rcLine (last : Nat) (c : List Int) (s : List UInt8) : Option (Nat × List Int) := if (scanU s last c 31).1 = 0 then none else some (scanU s last c 31)
def rcFrom : Nat → List Int → List (List UInt8) → Option (List Int)
  | _, c, [] => some c
  | last, c, s :: t => match rcLine last c s with | none => none | some r => rcFrom r.1 r.2 t
def refReadC (l : List (List UInt8)) : Option (List Int) := rcFrom 0 zeroC l
theorem matchN_some {s : List UInt8} {n : Nat} {x : Int} (h : matchN s n = some x) : s = rcName n ++ 32 :: dec x ∧ 0 < x ∧ x ≤ 9223372036854775807 := by
  unfold matchN at h
  split at h
  · rename_i hc
    simp only [Bool.and_eq_true, beq_iff_eq, decide_eq_true_eq] at hc
    obtain ⟨⟨⟨h1, h2⟩, h3⟩, h4⟩ := hc
    have e1 := beginsP_yes h1
    obtain ⟨e2, e3, e4⟩ := numR_yes h2
    cases h
    refine ⟨?_, h4, e4⟩
    rw [h3, List.append_nil] at e2
    conv => lhs; rw [e1, e2]
    simp
  · cases h
theorem matchN_line (n : Nat) (x : Int) (h0 : 0 < x) (h1 : x ≤ 9223372036854775807) : matchN (rcName n ++ 32 :: dec x) n = some x := by
  have e : rcName n ++ 32 :: dec x = (rcName n ++ [32]) ++ dec x := by simp
  have e2 := numR_dec x [] (by omega) h1 trivial
  rw [List.append_nil] at e2
  unfold matchN
  rw [e, beginsP_app]
  simp only [e2]
  simp [h0]
theorem matchN_inj {s : List UInt8} {n m : Nat} {x y : Int} (hn : matchN s n = some x) (hm : matchN s m = some y) (n0 : 1 ≤ n) (n1 : n < 31) (m0 : 1 ≤ m) (m1 : m < 31) : n = m ∧ x = y := by
  have e1 := (matchN_some hn).1
  have e2 := (matchN_some hm).1
  obtain ⟨r1, _, c1⟩ := drs_name n n0 n1
  obtain ⟨r2, _, c2⟩ := drs_name m m0 m1
  have k1 := cutC_app 32 (dec x) (rcName n) c1
  have k2 := cutC_app 32 (dec y) (rcName m) c2
  rw [← e1] at k1
  rw [← e2] at k2
  rw [k1] at k2
  have e3 : rcName n = rcName m := (Prod.mk.inj k2).1
  have hnm : n = m := by
    have h1 : rsN (rcName n) = (n : Int) := r1
    have h2 : rsN (rcName m) = (m : Int) := r2
    rw [e3, h2] at h1
    omega
  subst hnm
  rw [hn] at hm
  exact ⟨rfl, Option.some.inj hm⟩
/-- No name fits. -/
theorem scanU_none (s : List UInt8) (last : Nat) (c : List Int) : ∀ n, (∀ m, last < m → m < n → matchN s m = none) → scanU s last c n = (0, c)
  | 0, _ => rfl
  | n + 1, h => by
    rw [scanU]
    split
    · rfl
    · rw [scanU_none s last c n fun m h1 h2 => h m h1 (by omega), scanS, h n (by omega) (by omega)]
/-- One name fits. -/
theorem scanU_some (s : List UInt8) (last : Nat) (c : List Int) (r : Nat) (x : Int) (hr : matchN s r = some x) (h0 : last < r) : ∀ n, r < n → n ≤ 31 → scanU s last c n = (r, c.set r x)
  | 0, h, _ => absurd h (by omega)
  | n + 1, h, h2 => by
    rw [scanU, if_neg (by omega)]
    by_cases e : r = n
    · subst e
      rw [scanU_none s last c r fun m h3 h4 => ?_, scanS, hr]
      cases hm : matchN s m with
      | none => rfl
      | some y => have := (matchN_inj hr hm (by omega) (by omega) (by omega) (by omega)).1; omega
    · rw [scanU_some s last c r x hr h0 n (by omega) (by omega), scanS]
      cases hm : matchN s n with
      | none => rfl
      | some y => exact absurd (matchN_inj hr hm (by omega) (by omega) (by omega) (by omega)).1 e
theorem rcLine_some {last : Nat} {c : List Int} {s : List UInt8} {r : Nat × List Int} (h : rcLine last c s = some r) : ∃ x, last < r.1 ∧ r.1 < 31 ∧ matchN s r.1 = some x ∧ r.2 = c.set r.1 x := by
  unfold rcLine at h
  split at h
  · cases h
  · rename_i hne
    cases h
    by_cases hex : ∃ m, last < m ∧ m < 31 ∧ (matchN s m).isSome
    · obtain ⟨m, h1, h2, h3⟩ := hex
      obtain ⟨x, hx⟩ := Option.isSome_iff_exists.1 h3
      rw [scanU_some s last c m x hx h1 31 h2 (Nat.le_refl _)]
      exact ⟨x, h1, h2, hx, rfl⟩
    · exfalso
      apply hne
      rw [scanU_none s last c 31 fun m h1 h2 => by
        cases hm : matchN s m with
        | none => rfl
        | some y => exact absurd ⟨m, h1, h2, by rw [hm]; rfl⟩ hex]
theorem rcLine_line (last : Nat) (c : List Int) (r : Nat) (x : Int) (h0 : last < r) (h1 : r < 31) (x0 : 0 < x) (x1 : x ≤ 9223372036854775807) : rcLine last c (rcName r ++ 32 :: dec x) = some (r, c.set r x) := by
  unfold rcLine
  rw [scanU_some _ last c r x (matchN_line r x x0 x1) h0 31 h1 (Nat.le_refl _)]
  exact if_neg (by show r ≠ 0; omega)
theorem join_line (r : Nat) (n : Int) : Lib.join [(namesL[r]?).getD [], dec n] [32] = rcName r ++ 32 :: dec n := by simp [Lib.join, rcName]
theorem countsFrom_app : ∀ (a b : List Int) (r : Nat), countsFrom r (a ++ b) = countsFrom r a ++ countsFrom (r + a.length) b
  | [], b, r => by simp [countsFrom]
  | n :: t, b, r => by
    rw [List.cons_append, countsFrom, countsFrom, countsFrom_app t b (r + 1), List.length_cons, List.append_assoc, show r + 1 + t.length = r + (t.length + 1) by omega]
theorem countsFrom_zero : ∀ (k r : Nat), countsFrom r (List.replicate k 0) = []
  | 0, _ => rfl
  | k + 1, r => by rw [List.replicate_succ, countsFrom, countsFrom_zero k (r + 1), countW, if_neg (by omega)]; rfl
/-- What the reference reads is what is written. -/
theorem rcFrom_some : ∀ (l : List (List UInt8)) (last : Nat) (pre : List Int) (c' : List Int), pre.length = last + 1 → last < 31 → rcFrom last (pre ++ List.replicate (30 - last) 0) l = some c' →
    ∃ t, c' = pre ++ t ∧ t.length = 30 - last ∧ countsFrom (last + 1) t = l ∧ ∀ n ∈ t, 0 ≤ n ∧ n ≤ 9223372036854775807
  | [], last, pre, c', hp, h31, h => by
    rw [rcFrom] at h
    cases h
    exact ⟨_, rfl, by simp, countsFrom_zero _ _, fun n hn => by rw [List.eq_of_mem_replicate hn]; decide⟩
  | s :: t, last, pre, c', hp, h31, h => by
    rw [rcFrom] at h
    split at h
    · cases h
    · rename_i r hr
      obtain ⟨x, h1, h2, h3, h4⟩ := rcLine_some hr
      obtain ⟨e1, x0, x1⟩ := matchN_some h3
      obtain ⟨k, hk⟩ : ∃ k, r.1 = last + 1 + k := ⟨r.1 - (last + 1), by omega⟩
      have e4 : r.2 = (pre ++ List.replicate k 0 ++ [x]) ++ List.replicate (30 - r.1) 0 := by
        have e0 : List.replicate (30 - last) (0 : Int) = List.replicate k 0 ++ (0 :: List.replicate (30 - r.1) 0) := by
          rw [show 30 - last = k + ((30 - r.1) + 1) by omega, ← List.replicate_append_replicate, List.replicate_succ]
        rw [h4, e0]
        rw [List.set_append_right _ _ (by omega), hp, show r.1 - (last + 1) = k by omega]
        rw [List.set_append_right _ _ (by simp)]
        simp
      rw [e4] at h
      obtain ⟨t', e5, e6, e7, e8⟩ := rcFrom_some t r.1 _ c' (by simp; omega) h2 h
      refine ⟨List.replicate k 0 ++ x :: t', by rw [e5]; simp, by simp; omega, ?_, fun n hn => ?_⟩
      · rw [countsFrom_app, countsFrom_zero, List.nil_append, List.length_replicate, countsFrom, countW, if_pos ⟨by omega, x0⟩, join_line, show last + 1 + k = r.1 by omega, e7, e1]; rfl
      · rcases List.mem_append.1 hn with hn | hn
        · rw [List.eq_of_mem_replicate hn]; decide
        · rcases List.mem_cons.1 hn with rfl | hn
          · omega
          · exact e8 n hn
/-- What is written is read by the reference. -/
theorem rcFrom_counts : ∀ (t pre : List Int) (last r : Nat), pre.length = r → last < r → r + t.length ≤ 31 → (∀ n ∈ t, 0 ≤ n ∧ n ≤ 9223372036854775807) → rcFrom last (pre ++ List.replicate t.length 0) (countsFrom r t) = some (pre ++ t)
  | [], pre, last, r, _, _, _, _ => by simp [countsFrom, rcFrom]
  | n :: t, pre, last, r, hr, h0, h1, hb => by
    have hn := hb n (by simp)
    rw [List.length_cons] at h1
    rw [countsFrom, countW, List.length_cons, List.replicate_succ]
    by_cases hp : 0 < n
    · have ih := rcFrom_counts t (pre ++ [n]) r (r + 1) (by simp [hr]) (by omega) (by omega) (fun m hm => hb m (by simp [hm]))
      rw [if_pos ⟨by omega, hp⟩, List.singleton_append, rcFrom, join_line, rcLine_line last _ r n h0 (by omega) hp hn.2]
      have e : (pre ++ 0 :: List.replicate t.length (0 : Int)).set r n = pre ++ [n] ++ List.replicate t.length 0 := by subst hr; simp
      show rcFrom r ((pre ++ 0 :: List.replicate t.length 0).set r n) (countsFrom (r + 1) t) = _
      rw [e, ih]
      simp
    · obtain rfl : n = 0 := by omega
      have ih := rcFrom_counts t (pre ++ [0]) last (r + 1) (by simp [hr]) (by omega) (by omega) (fun m hm => hb m (by simp [hm]))
      rw [if_neg (by omega), List.nil_append, show pre ++ 0 :: List.replicate t.length 0 = pre ++ [0] ++ List.replicate t.length 0 by simp, ih]
      simp
theorem stepC_max {c c' : List Int} {s : List UInt8} (h : stepC c s = some c') (hb : ∀ n ∈ c, n ≤ 9223372036854775807) : ∀ n ∈ c', n ≤ 9223372036854775807 := by
  unfold stepC at h
  split at h
  · cases h
    intro n hn
    rcases List.mem_or_eq_of_mem_set hn with h1 | rfl
    · exact hb n h1
    · exact (atoiV_bounds _).2
  · cases h
theorem foldC_max : ∀ (l : List (List UInt8)) (c c' : List Int), foldC c l = some c' → (∀ n ∈ c, n ≤ 9223372036854775807) → ∀ n ∈ c', n ≤ 9223372036854775807
  | [], c, c', h, hb => by rw [foldC] at h; cases h; exact hb
  | s :: t, c, c', h, hb => by
    rw [foldC] at h
    cases hs : stepC c s with
    | none => rw [hs] at h; cases h
    | some c1 => rw [hs] at h; exact foldC_max t c1 c' h (stepC_max hs hb)
theorem readC_max {l : List (List UInt8)} {c : List Int} (h : readC l = some c) : ∀ n ∈ c, n ≤ 9223372036854775807 := by
  unfold readC at h
  split at h
  · cases h
  · rename_i c1 h1
    split at h
    · cases h; exact foldC_max l _ _ h1 fun n hn => by rw [List.eq_of_mem_replicate hn]; decide
    · cases h
/-- The reference and the program read alike. -/
theorem refReadC_eq (l : List (List UInt8)) : refReadC l = readC l := by
  cases h : refReadC l with
  | some c =>
    obtain ⟨t, rfl, h2, h3, h4⟩ := rcFrom_some l 0 [0] c rfl (by decide) h
    have := readC_counts 0 t (by simpa using h2) h4
    rw [counts_zero, h3] at this
    exact this.symm
  | none =>
    cases h2 : readC l with
    | none => rfl
    | some c =>
      exfalso
      obtain ⟨e1, e2, e3, e4⟩ := readC_some h2
      have e5 := readC_max h2
      obtain ⟨t, rfl⟩ : ∃ t, c = 0 :: t := by cases c with | nil => cases e3 | cons a t => exact ⟨t, by simp at e2; rw [e2]⟩
      rw [counts_zero] at e1
      have := rcFrom_counts t [0] 0 1 rfl (by decide) (by simp at e3; omega) (fun n hn => ⟨e4 n (by simp [hn]), e5 n (by simp [hn])⟩)
      rw [e1, show t.length = 30 by simpa using e3] at this
      have h' : rcFrom 0 zeroC l = none := h
      rw [show ([0] ++ List.replicate 30 0 : List Int) = zeroC from rfl, h'] at this
      cases this
end Go.Ab
namespace Go.Ab
open Go.RowKit Go.Proofs.YtlbbepgfjigjpaaGreatDoor
theorem scanU_succ (s : List UInt8) (last : Nat) (c : List Int) (n : Nat) (h : last < n) : scanU s last c (n + 1) = scanS s (scanU s last c n) n := by rw [scanU, if_neg (by omega)]
theorem scanU_start (s : List UInt8) (last : Nat) (c : List Int) : scanU s last c (last + 1) = (0, c) := by rw [scanU, if_pos (Nat.le_refl _)]
theorem scanU_bd {s : List UInt8} {last : Nat} {c : List Int} (hc : BdC c) : ∀ n, BdC (scanU s last c n).2 ∧ (scanU s last c n).1 < max n 1
  | 0 => ⟨hc, by show 0 < 1; decide⟩
  | n + 1 => by
    rw [scanU]
    split
    · exact ⟨hc, by show 0 < max (n + 1) 1; omega⟩
    · obtain ⟨h1, h2⟩ := scanU_bd (s := s) (last := last) hc n
      rw [scanS]
      cases hm : matchN s n with
      | none => exact ⟨h1, by show (scanU s last c n).1 < max (n + 1) 1; omega⟩
      | some x => exact ⟨h1.set n x (by have := matchN_some hm; omega), by show n < max (n + 1) 1; omega⟩
theorem matchN_def (s : List UInt8) (n : Nat) : matchN s n = (if (beginsP (rcName n ++ [32]) s).2 && (numR (beginsP (rcName n ++ [32]) s).1).2.2 && ((numR (beginsP (rcName n ++ [32]) s).1).2.1 == []) && decide (0 < (numR (beginsP (rcName n ++ [32]) s).1).1) then some (numR (beginsP (rcName n ++ [32]) s).1).1 else none) := rfl
end Go.Ab
namespace Go.Proofs.YtlbbepgfjigjpaaGreatDoor
open Go.RowKit Go.Ab
set_option maxHeartbeats 16000000 in
set_option maxRecDepth 100000 in
theorem rcounts_any (c : List Int) (w : World) (hc : c.length = 31) (hb : ∀ n ∈ c, -9223372036854775808 ≤ n ∧ n ≤ 9223372036854775807) :
    Calls Tryz.prog 38 #[.agg (c.map (Value.int .i64)).toArray] w fun e w' => countsE c w e w' 9 ∧ ∃ x : Ext w, w' = x.w := by
  have hat : ∀ k, k < 31 → ∃ n, c[k]? = some n ∧ c.getD k 0 = n ∧ (c.map (Value.int .i64)).toArray[k]? = some (.int .i64 n) := fun k hk => by
    refine ⟨c[k]'(by omega), List.getElem?_eq_getElem (by omega), ?_, ?_⟩
    · rw [List.getD_eq_getElem?_getD, List.getElem?_eq_getElem (by omega)]; rfl
    · simp [List.getElem?_eq_getElem (show k < c.length by omega)]
  generalize (c.map (Value.int .i64)).toArray = cs at *
  have Hat := Lib.hid hat
  have Hb := Lib.hid hb
  have Hc := Lib.hid hc
  clear hat hb hc
  obtain ⟨i0, hi, hy0, hy1, hy2⟩ := info_parts infoStr1
  have Hi := Lib.hid hi; have Hy0 := Lib.hid hy0; have Hy1 := Lib.hid hy1; have Hy2 := Lib.hid hy2
  clear hi hy0 hy1 hy2
  go_enter Tryz.func38, Tryz.ntmps38
  go_upto_region 1 with fail
  obtain ⟨A, hA⟩ : ∃ A, w.heap.size = A := ⟨_, rfl⟩
  rw [hA]
  refine wp_letter (fun W => UpI w W ∧ A < W.heap.size ∧ W.heap[A]? = some (.cells cs 45 (0, 0)))
    ⟨inferInstance, by rw [World.size_alloc]; omega, alloc_new hA⟩ ?_
  rintro W ⟨uW, hAW, hrA⟩
  haveI := uW
  have HrA := Lib.hid hrA
  clear hrA
  go_wp2_with fail
  go_loopw [4, 5] (fun out i wr => ∃ (k n : Nat), k ≤ 31 ∧ i = .int .i64 (k : Int) ∧ Hid (∀ j, j < k → 0 ≤ c.getD j 0) ∧ Hid ((countsK c k).length = n ∧ n ≤ k) ∧ Hid (wr.ownsRow W.heap.size 9 1 out n (strCells (countsK c k))) ∧ ∃ x : Ext W, wr = x.w) (fun _ i _ => 31 - (intOf i).toNat)
  case atStart => exact ⟨0, 0, Nat.zero_le _, rfl, Lib.hid (fun j hj => absurd hj (Nat.not_lt_zero j)), Lib.hid ⟨rfl, Nat.le_refl _⟩, Lib.hid (World.ownsRow_nil _ _ _ _), mkI⟩
  case round =>
    obtain ⟨k, n, hk, rfl, Hk, Hn, Hown, x0, rfl⟩ := hrel
    by_cases hlt : k < 31
    · have hlt' : (k : Int) < 31 := by omega
      have k0 : (0 : Int) ≤ (k : Int) := by omega
      have hmod : (k : Int) % 256 = (k : Int) := by omega
      obtain ⟨m, hm1, hm2, hm3⟩ := Hat.out k hlt
      obtain ⟨mb0, mb1⟩ := Hb.out m (List.mem_of_getElem? hm1)
      have hnm := fun w => rname_any (k : Int) w k0 (by omega)
      haveI : LtSize A x0.w := ⟨x0.lt hAW⟩
      have cc : x0.w.cell? ⟨A, k, none⟩ = some (.int .i64 m) := by rw [cell_of_row x0.w A k _ _ _ ((x0.up.block A hAW).trans HrA.out)]; exact hm3
      have hS := countsK_succ c k
      rw [hm2] at hS
      by_cases hneg : m < 0
      · have E := Lib.hid (show (c.all fun n => decide (0 ≤ n)) = false by
          rw [List.all_eq_false]; exact ⟨m, List.mem_of_getElem? hm1, by simp; omega⟩)
        clear hS hnm
        go_wp2_with fail
        go_ret2
        unfold countsE
        rw [E.out]
        exact ⟨rfl, mkI⟩
      · have hpos : 0 ≤ m := by omega
        have Hk2 := Lib.hid (show ∀ j, j < k + 1 → 0 ≤ c.getD j 0 from fun j hj => by
          rcases Nat.lt_or_eq_of_le (Nat.le_of_lt_succ hj) with h | h
          · exact Hk.out j h
          · rw [h, hm2]; exact hpos)
        clear hneg
        by_cases hk1 : 1 ≤ k
        · have hnm2 : ∀ w, Gives Tryz.prog 71 #[.int .u8 (k : Int)] w (.tuple #[.string ⟨((namesL[k]?).getD []).toArray⟩, .int .i64 0]) := fun w => (hnm w).cast (by unfold nameOf nameE; rw [if_pos (by omega), if_pos (by omega)]; simp)
          by_cases hp : 0 < m
          · have hl1 : ((namesL[k]?).getD []).length ≤ 8 := by
              obtain ⟨s, hs⟩ := names_at k hlt
              rw [hs]; exact names_short _ _ hs
            have hl2 := dec_length m mb0 mb1
            have hj : (.string ⟨(Lib.join [(namesL[k]?).getD [], dec m] [32]).toArray⟩ : Value) = .string ((⟨((namesL[k]?).getD []).toArray⟩ ++ ⟨#[32]⟩) ++ ⟨(dec m).toArray⟩) := by
              rw [show (⟨#[32]⟩ : ByteArray) = ⟨([32] : List UInt8).toArray⟩ from rfl, ba_app, ba_app]
              simp [Lib.join]
            rw [countW, if_pos ⟨hk1, hp⟩] at hS
            have h3 : ∀ w, Gives Tryz.prog 54 #[.int .i64 m] w (.string ⟨(dec m).toArray⟩) := fun w => refDecimal_any m w hpos mb1
            have HS := Lib.hid (show strCells (countsK c (k + 1)) = strCells (countsK c k) ++ [.string ((⟨((namesL[k]?).getD []).toArray⟩ ++ ⟨#[32]⟩) ++ ⟨(dec m).toArray⟩)] by rw [hS, strCells_app, ← hj]; rfl)
            have HN2 := Lib.hid (show (countsK c (k + 1)).length = n + 1 ∧ n + 1 ≤ k + 1 by rw [hS, List.length_append, Hn.out.1]; exact ⟨rfl, by have := Hn.out.2; omega⟩)
            have hn31 : n ≤ 31 := by have := Hn.out.2; omega
            clear hS hj hnm Hk Hn hm1 hm2 hm3
            generalize (namesL[k]?).getD [] = nm at *
            generalize dec m = dm at *
            generalize strCells (countsK c k) = ss at *
            go_wp2_with (first
              | (go_at_call 71; refine (hnm2 _).mono ?_; rintro e w' ⟨rfl, z1, rfl⟩)
              | (go_at_call 54; refine (h3 _).mono ?_; rintro e w' ⟨rfl, z2, rfl⟩)
              | (at_builtin; refine wpList_append_own _ rfl _ _ 23 rfl W.heap.size 9 i0 (.string ⟨#[]⟩) 1 16 Tryz.underlying23 Hi.out Hy0.out Hy1.out Hy2.out rfl (by decide) _ _ _ rfl (owns_up Hown.out (upI : Up x0.w _)) ⟨_, 0, none⟩ 1 1 [.string ((⟨nm.toArray⟩ ++ ⟨#[32]⟩) ++ ⟨dm.toArray⟩)] rfl rfl ?c1 ?c2 ?c3 ?c4 ?c5 ?_))
            case c1 => exact cell_one_new _ _ _
            case c2 => simp [Value.oneCell']
            case c3 => unfold maxLen; omega
            case c4 => omega
            case c5 => exact (upI : Up W _).size
            intro v' w1 hown' hgrow _
            have hu1 : Up W w1 := Up.grown (upI : Up W _) hgrow (owns_row Hown.out)
            obtain ⟨x1, rfl⟩ := hu1.mk
            have Hown' := Lib.hid hown'
            clear hown' hgrow Hown hnm2 h3 hu1
            go_wp2_with fail
            go_roundw
            case rel => exact ⟨k + 1, n + 1, by omega, by go_num, Hk2, HN2, by rw [HS.out]; exact Hown', mkI⟩
            case measure => simp [intOf]; omega
          · obtain rfl : m = 0 := by omega
            rw [countW, if_neg (by omega), List.append_nil] at hS
            have HS := Lib.hid hS
            have Hn2 := Hn.out.2
            clear hS hnm hm1 hm2
            generalize (namesL[k]?).getD [] = nm at *
            go_wp2_with (go_at_call 71; refine (hnm2 _).mono ?_; rintro e w' ⟨rfl, z1, rfl⟩)
            go_roundw
            case rel => exact ⟨k + 1, n, by omega, by go_num, Hk2, Lib.hid ⟨by rw [HS.out]; exact Hn.out.1, by omega⟩, Lib.hid (by rw [HS.out]; exact owns_up Hown.out upI), mkI⟩
            case measure => simp [intOf]; omega
        · have hnm2 : ∀ w, Gives Tryz.prog 71 #[.int .u8 (k : Int)] w (.tuple #[.string ⟨#[]⟩, .int .i64 6]) := fun w => (hnm w).cast (by unfold nameOf nameE; rw [if_neg (by omega), if_neg (by omega)])
          rw [countW, if_neg (by omega), List.append_nil] at hS
          have HS := Lib.hid hS
          have Hn2 := Hn.out.2
          clear hS hnm hm1 hm2
          go_wp2_with (go_at_call 71; refine (hnm2 _).mono ?_; rintro e w' ⟨rfl, z1, rfl⟩)
          go_roundw
          case rel => exact ⟨k + 1, n, by omega, by go_num, Hk2, Lib.hid ⟨by rw [HS.out]; exact Hn.out.1, by omega⟩, Lib.hid (by rw [HS.out]; exact owns_up Hown.out upI), mkI⟩
          case measure => simp [intOf]; omega
    · obtain rfl : k = 31 := by omega
      have E := Lib.hid (show (c.all fun n => decide (0 ≤ n)) = true by
        rw [List.all_eq_true]
        intro z hz
        obtain ⟨j, hj⟩ := List.getElem?_of_mem hz
        have hj31 : j < 31 := by have := (List.getElem?_eq_some_iff.1 hj).1; rw [Hc.out] at this; exact this
        have h1 := Hk.out j hj31
        rw [List.getD_eq_getElem?_getD, hj] at h1
        exact decide_eq_true h1)
      have E2 := Lib.hid (show countsK c 31 = countsL c by rw [countsL_range, Hc.out])
      have hown := Hown.out
      rw [E2.out, ← Hn.out.1, E2.out] at hown
      have Hown2 := Lib.hid (owns_base hown uW.up.size)
      clear hown
      go_wp2_with fail
      go_ret2
      unfold countsE
      rw [E.out]
      exact ⟨⟨_, rfl, Hown2.out⟩, mkI⟩
set_option maxHeartbeats 32000000 in
set_option maxRecDepth 100000 in
theorem rreadcounts_any (l : List (List UInt8)) (v : Value) (w : World) (hv : StrRow w v l) (hb : ∀ s ∈ l, s.length ≤ 1000000) (hl : l.length ≤ 1000000) :
    Gives Tryz.prog 40 #[v] w (.tuple #[.agg (intCellsA (rcV l)), .int .i64 (rcE l)]) := by
  obtain ⟨p, cap, rfl, hle, hc⟩ := hv
  obtain ⟨N, hN⟩ : ∃ N, l.length = N := ⟨_, rfl⟩
  rw [hN] at hle hl ⊢
  have HN := Lib.hid hN
  have Hc := Lib.hid hc
  have Hb := Lib.hid hb
  have HV := Lib.hid (show ∀ c, refReadC l = some c → rcV l = c ∧ rcE l = 0 from fun c h => by rw [refReadC_eq] at h; unfold rcV rcE; rw [h]; exact ⟨rfl, rfl⟩)
  have HV0 := Lib.hid (show refReadC l = none → rcV l = zeroC ∧ rcE l = 382 from fun h => by rw [refReadC_eq] at h; unfold rcV rcE; rw [h]; exact ⟨rfl, rfl⟩)
  clear hN hc hb
  unfold Gives
  go_enter Tryz.func40, Tryz.ntmps40
  go_upto_region 2 with fail
  obtain ⟨B, hB⟩ : ∃ B, w.heap.size = B := ⟨_, rfl⟩
  rw [hB]
  go_wp2_with fail
  go_loopw [5, 6] (fun la i wr => ∃ (k last : Nat) (c : List Int), k ≤ N ∧ last < 31 ∧ i = .int .i64 (k : Int) ∧ la = .int .i64 (last : Int) ∧ Hid (BdC c ∧ rcFrom last c (l.drop k) = refReadC l) ∧ Up w wr ∧ B + 1 < wr.heap.size ∧ Hid (wr.heap[B + 1]? = some (.cells (intCellsA c) 45 (0, 0))) ∧ Hid (wr.heap[B]? = some (.cells (intCellsA zeroC) 45 (0, 0)))) (fun _ i _ => N - (intOf i).toNat)
  case atStart => exact ⟨0, 0, zeroC, Nat.zero_le _, by decide, rfl, rfl, Lib.hid ⟨BdC.zero, by rw [List.drop_zero]; rfl⟩, upI, by simp; omega, Lib.hid (alloc_new (by simp [hB])), Lib.hid ((Below.heap_alloc _ _ _ (by simp; omega)).trans (alloc_new hB))⟩
  case round =>
    obtain ⟨k, last, c, hk, hlast, rfl, rfl, Hf, hu, hsz, HB1, HB0⟩ := hrel
    haveI : UpI w wr := ⟨hu⟩
    haveI : LtSize (B + 1) wr := ⟨hsz⟩
    haveI : LtSize B wr := ⟨by omega⟩
    by_cases hlt : k < N
    · have hlt' : (k : Int) < (N : Int) := by omega
      have k0 : (0 : Int) ≤ (k : Int) := by omega
      obtain ⟨s, hs⟩ : ∃ s, l[k]? = some s := ⟨_, List.getElem?_eq_getElem (by rw [HN.out]; exact hlt)⟩
      obtain ⟨b1, o1, rfl, hb1, hc1⟩ := Hc.out k s hs
      have sl := Hb.out s (List.mem_of_getElem? hs)
      have Hc1 := Lib.hid (show w.cell? ⟨b1, o1 + k, none⟩ = some (.string ⟨s.toArray⟩) by have := hc1 0 _ rfl; rwa [Nat.add_zero, Nat.mul_one] at this)
      haveI : LtSize b1 w := ⟨hb1⟩
      have Hdr := Lib.hid (show l.drop k = s :: l.drop (k + 1) by
        obtain ⟨h1, rfl⟩ := List.getElem?_eq_some_iff.1 hs
        exact List.drop_eq_getElem_cons h1)
      have hst0 := scanU_start s last c
      have hw0 : wrap64 ((last : Int) + 1) = (last : Int) + 1 := IntWalk.wrap64_in _ ⟨by omega, by omega⟩
      clear hc1 hs
      obtain ⟨wo, hwo⟩ : ∃ wo : World, wo = wr := ⟨_, rfl⟩
      rw [← hwo] at hu hsz HB1 HB0 ⊢
      haveI : UpI w wo := ⟨hu⟩
      clear hwo
      go_upto_region 8 with fail
      go_wp2_with fail
      go_loopw [7, 8] (fun fo n wr => ∃ m : Nat, last < m ∧ m ≤ 31 ∧ n = .int .i64 (m : Int) ∧ fo = .int .i64 ((scanU s last c m).1 : Int) ∧ Up w wr ∧ B + 1 < wr.heap.size ∧ Hid (wr.heap[B + 1]? = some (.cells (intCellsA (scanU s last c m).2) 45 (0, 0))) ∧ Hid (wr.heap[B]? = some (.cells (intCellsA zeroC) 45 (0, 0)))) (fun _ n _ => 31 - (intOf n).toNat)
      case atStart => exact ⟨last + 1, by omega, by omega, by go_num, by rw [hst0]; rfl, hu, hsz, by rw [hst0]; exact HB1, HB0⟩
      case round =>
        clear hw0
        obtain ⟨m, hm0, hm31, rfl, rfl, hu2, hsz2, HS1, HS0⟩ := hrel
        haveI : UpI w wr := ⟨hu2⟩
        haveI : LtSize (B + 1) wr := ⟨hsz2⟩
        haveI : LtSize B wr := ⟨by omega⟩
        haveI : LtSize b1 wr := ⟨Nat.lt_of_lt_of_le hb1 hu2.size⟩
        have c1 := hu2.cell_some' Hc1.out
        have hbd := scanU_bd (s := s) (last := last) Hf.out.1 m
        by_cases hlm : m < 31
        · have hlm' : (m : Int) < 31 := by omega
          have m0 : (0 : Int) ≤ (m : Int) := by omega
          have hmod : (m : Int) % 256 = (m : Int) := by omega
          have hnm2 : ∀ W, Gives Tryz.prog 71 #[.int .u8 (m : Int)] W (.tuple #[.string ⟨(rcName m).toArray⟩, .int .i64 0]) := fun W => (rname_any (m : Int) W m0 (by omega)).cast (by unfold nameOf nameE rcName; rw [if_pos (by omega), if_pos (by omega)]; simp)
          have hnl : (rcName m).length ≤ 8 := by
            obtain ⟨z, hz⟩ := names_at m hlm
            unfold rcName; rw [hz]; exact names_short _ _ hz
          have hbg : ∀ W, Gives Tryz.prog 50 #[.string ⟨s.toArray⟩, .string (⟨(rcName m).toArray⟩ ++ ⟨#[32]⟩)] W (.tuple #[.string ⟨(beginsP (rcName m ++ [32]) s).1.toArray⟩, .bool (beginsP (rcName m ++ [32]) s).2]) := fun W => by
            rw [show (⟨#[32]⟩ : ByteArray) = ⟨([32] : List UInt8).toArray⟩ from rfl, ba_app]
            exact rbegins_any _ _ W (by omega) (by rw [List.length_append]; simp; omega)
          have hbl := beginsP_len (rcName m ++ [32]) s
          have hmt := matchN_def s m
          have hsu := scanU_succ s last c m hm0
          generalize beginsP (rcName m ++ [32]) s = q at *
          obtain ⟨r, cb⟩ := q
          simp only at hbg hbl hmt
          generalize scanU s last c m = st at *
          obtain ⟨fo, cs⟩ := st
          simp only at hbd HS1
          obtain ⟨u, hu1⟩ := intCellsA_at cs m (by rw [hbd.1.1]; exact hlm)
          have cc : wr.cell? ⟨B + 1, m, none⟩ = some u := by rw [cell_of_row wr (B + 1) m _ _ _ HS1.out]; exact hu1
          have cf : wr.frozen? ⟨B + 1, m, none⟩ = false := frozen_of_row wr (B + 1) m _ _ HS1.out
          have skip : matchN s m = none → scanU s last c (m + 1) = (fo, cs) := fun h => by rw [hsu, scanS, h]
          have Skip := Lib.hid skip
          have take : ∀ x, matchN s m = some x → scanU s last c (m + 1) = (m, cs.set m x) := fun x h => by rw [hsu, scanS, h]
          have Take := Lib.hid take
          have Hsz2 := Lib.hid hsz2
          clear skip take hsu hu1 hbd
          generalize rcName m = nm at *
          cases cb
          · have HM := Lib.hid (Skip.out (by rw [hmt]; rfl))
            clear hmt
            go_wp2_with (first
              | (go_at_call 71; refine (hnm2 _).mono ?_; rintro e w' ⟨rfl, z1, rfl⟩)
              | (go_at_call 50; refine (hbg _).mono ?_; rintro e w' ⟨rfl, z2, rfl⟩))
            go_roundw
            case rel => exact ⟨m + 1, by omega, by omega, by go_num, by rw [HM.out], upI, lt_of_size _ (B + 1), by rw [HM.out]; exact Lib.hid (((upI : Up wr _).block (B + 1) Hsz2.out).trans HS1.out), Lib.hid (((upI : Up wr _).block B (lt_of_size wr B)).trans HS0.out)⟩
            case measure => simp [intOf]; omega
          · have hnb : ∀ W, Gives Tryz.prog 52 #[.string ⟨r.toArray⟩] W (.tuple #[.int .i64 (numR r).1, .string ⟨(numR r).2.1.toArray⟩, .bool (numR r).2.2]) := fun W => rnumber_any _ W (by omega)
            have hnb0 := numR_bd r
            generalize numR r = q2 at *
            obtain ⟨x, more, is⟩ := q2
            simp only at hnb hmt hnb0
            cases hok : (is && (more == []) && decide (0 < x))
            · have HM := Lib.hid (Skip.out (by rw [hmt, Bool.true_and, hok]; rfl))
              clear hmt
              have ARMS : True := trivial
              clear ARMS
              cases is
              · clear hok
                go_wp2_with (first
                  | (go_at_call 71; refine (hnm2 _).mono ?_; rintro e w' ⟨rfl, z1, rfl⟩)
                  | (go_at_call 52; refine (hnb _).mono ?_; rintro e w' ⟨rfl, z3, rfl⟩)
                  | (go_at_call 50; refine (hbg _).mono ?_; rintro e w' ⟨rfl, z2, rfl⟩))
                go_roundw
                case rel => exact ⟨m + 1, by omega, by omega, by go_num, by rw [HM.out], upI, lt_of_size _ (B + 1), by rw [HM.out]; exact Lib.hid (((upI : Up wr _).block (B + 1) Hsz2.out).trans HS1.out), Lib.hid (((upI : Up wr _).block B (lt_of_size wr B)).trans HS0.out)⟩
                case measure => simp [intOf]; omega
              · cases hmo : (more == [])
                · clear hok
                  go_wp2_with (first
                    | (go_at_call 71; refine (hnm2 _).mono ?_; rintro e w' ⟨rfl, z1, rfl⟩)
                    | (go_at_call 52; refine (hnb _).mono ?_; rintro e w' ⟨rfl, z3, rfl⟩)
                    | (go_at_call 50; refine (hbg _).mono ?_; rintro e w' ⟨rfl, z2, rfl⟩))
                  go_roundw
                  case rel => exact ⟨m + 1, by omega, by omega, by go_num, by rw [HM.out], upI, lt_of_size _ (B + 1), by rw [HM.out]; exact Lib.hid (((upI : Up wr _).block (B + 1) Hsz2.out).trans HS1.out), Lib.hid (((upI : Up wr _).block B (lt_of_size wr B)).trans HS0.out)⟩
                  case measure => simp [intOf]; omega
                · obtain rfl : more = [] := by simpa using hmo
                  have hx0 : decide (0 < x) = false := by simpa using hok
                  have hx1 : x ≤ 0 := by simpa using hx0
                  clear hok hmo
                  go_wp2_with (first
                    | (go_at_call 71; refine (hnm2 _).mono ?_; rintro e w' ⟨rfl, z1, rfl⟩)
                    | (go_at_call 52; refine (hnb _).mono ?_; rintro e w' ⟨rfl, z3, rfl⟩)
                    | (go_at_call 50; refine (hbg _).mono ?_; rintro e w' ⟨rfl, z2, rfl⟩))
                  go_roundw
                  case rel => exact ⟨m + 1, by omega, by omega, by go_num, by rw [HM.out], upI, lt_of_size _ (B + 1), by rw [HM.out]; exact Lib.hid (((upI : Up wr _).block (B + 1) Hsz2.out).trans HS1.out), Lib.hid (((upI : Up wr _).block B (lt_of_size wr B)).trans HS0.out)⟩
                  case measure => simp [intOf]; omega
            · have HM := Lib.hid (Take.out x (by rw [hmt, Bool.true_and, hok]; rfl))
              simp only [Bool.and_eq_true, beq_iff_eq, decide_eq_true_eq] at hok
              obtain ⟨⟨rfl, rfl⟩, hx⟩ := hok
              clear hmt
              go_wp2_with (first
                | (go_at_call 71; refine (hnm2 _).mono ?_; rintro e w' ⟨rfl, z1, rfl⟩)
                | (go_at_call 52; refine (hnb _).mono ?_; rintro e w' ⟨rfl, z3, rfl⟩)
                | (go_at_call 50; refine (hbg _).mono ?_; rintro e w' ⟨rfl, z2, rfl⟩))
              go_roundw
              case rel => exact ⟨m + 1, by omega, by omega, by go_num, by rw [HM.out], (upI : Up w z3.w).setCell (show w.heap.size ≤ B + 1 by omega) _, by rw [World.size_setCell]; exact lt_of_size z3.w (B + 1), by rw [HM.out]; exact Lib.hid (by rw [heap_setCell_same z3.w (B + 1) m (intCellsA cs) _ _ (((upI : Up wr z3.w).block (B + 1) Hsz2.out).trans HS1.out), intCellsA_set]), Lib.hid ((Below.heap_setCell _ _ _ _ (by simp)).trans (((upI : Up wr z3.w).block B (lt_of_size wr B)).trans HS0.out))⟩
              case measure => simp [intOf]; omega
        · obtain rfl : m = 31 := by omega
          have hfo31 := hbd.2
          have hfin : rcFrom last c (l.drop k) = (if (scanU s last c 31).1 = 0 then none else rcFrom (scanU s last c 31).1 (scanU s last c 31).2 (l.drop (k + 1))) := by
            rw [Hdr.out, rcFrom]
            by_cases h0 : (scanU s last c 31).1 = 0
            · rw [show rcLine last c s = none by unfold rcLine; exact if_pos h0, if_pos h0]
            · rw [show rcLine last c s = some (scanU s last c 31) by unfold rcLine; exact if_neg h0, if_neg h0]
          rw [Hf.out.2] at hfin
          generalize scanU s last c 31 = st at *
          obtain ⟨fo, cs⟩ := st
          simp only at hbd HS1 hfin hfo31
          by_cases hfo : fo = 0
          · rw [if_pos hfo] at hfin
            have HR := Lib.hid (HV0.out hfin)
            subst hfo
            clear hfin hbd
            go_upto_region 18 with fail
            have hz3 := HS0.out
            refine wp_region_lit ?_
            refine wpList_step (fun K hK => ?_)
            go_simp
            refine hK _ _ ?_; clear hK K
            refine wpList_store_row rfl 45 _ _ rfl B (intCellsA zeroC) rfl rfl 45 (intCellsA zeroC) hz3 arrSize rfl (intCellsA_one _) ?_
            have hz4 := setRow_heap wr B _ (intCellsA zeroC) _ _ hz3
            go_wp2_with fail
            refine bodyPost_ret (v := .tuple #[.agg (intCellsA zeroC), .int .i64 382]) (by simp [results, Tryz.results40, asAddr, run_loadVar_row _ B 45 45 (intCellsA zeroC) (0, 0) _ hz4 Tryz.underlying45 rfl arrSize]) rfl ?_
            exact ⟨by rw [HR.out.1, HR.out.2], (up_setRow (upI : Up w wr) (by omega) _).mk⟩
          · rw [if_neg hfo] at hfin
            have hf0 : ((fo : Int) == 0) = false := beq_eq_false_iff_ne.2 (by omega)
            have HF := Lib.hid (⟨hbd.1, hfin.symm⟩ : BdC cs ∧ rcFrom fo cs (l.drop (k + 1)) = refReadC l)
            have hf31 : fo < 31 := by simpa using hfo31
            clear hfin hbd hfo
            go_wp2_with fail
            go_roundw
            case rel => exact ⟨k + 1, fo, cs, by omega, hf31, by go_num, rfl, HF, upI, hsz2, HS1, HS0⟩
            case measure => simp [intOf]; omega
    · obtain rfl : k = N := by omega
      have hf : refReadC l = some c := by rw [← Hf.out.2, List.drop_of_length_le (by rw [HN.out]; exact Nat.le_refl _)]; rfl
      have HR := Lib.hid (HV.out c hf)
      have hcs : (Tryz.prog.info? 45).map (·.size) = some (intCellsA c).size := by rw [intCellsA_size, Hf.out.1.1]; exact arrSize
      have hsz0 : (intCellsA zeroC).size = (intCellsA c).size := by rw [intCellsA_size, intCellsA_size, Hf.out.1.1]; rfl
      have hz3 := HB0.out
      have hz4 := setRow_heap wr B _ (intCellsA c) _ _ hz3
      have h1 := HB1.out
      clear hf
      go_wp2_with (first
        | (refine wpList_load_row rfl 45 _ rfl (B + 1) rfl 45 (intCellsA c) (0, 0) _ h1 Tryz.underlying45 rfl hcs ?_)
        | (refine wpList_store_row rfl 45 _ _ rfl B (intCellsA c) rfl rfl 45 (intCellsA zeroC) hz3 hcs hsz0 (intCellsA_one _) ?_))
      refine bodyPost_ret (v := .tuple #[.agg (intCellsA c), .int .i64 0]) (by simp [results, Tryz.results40, asAddr, run_loadVar_row _ B 45 45 (intCellsA c) (0, 0) _ hz4 Tryz.underlying45 rfl hcs]) rfl ?_
      exact ⟨by rw [HR.out.1, HR.out.2], (up_setRow (upI : Up w wr) (by omega) _).mk⟩
end Go.Proofs.YtlbbepgfjigjpaaGreatDoor
