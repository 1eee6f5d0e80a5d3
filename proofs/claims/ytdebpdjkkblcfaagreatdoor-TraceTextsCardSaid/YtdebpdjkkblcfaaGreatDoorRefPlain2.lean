/- The reference reads just what the program reads: plain lists, no program in sight. -/
import Derived.Test.YtdebpdjkkblcfaaGreatDoorRef2
import Derived.Test.YtdebpdjkkblcfaaGreatDoorStructEq
namespace Go.Ab
open Go.Proofs.YtdebpdjkkblcfaaGreatDoor
theorem noDig_nil : noDig [] := trivial
theorem noDig_sign (c : UInt8) (hc : isDig c = false) (r : List UInt8) : noDig (c :: r) := hc
theorem addrP_some {o : Option (List UInt8)} {r' : List UInt8} (h : (addrP o).2 = some r') : ∃ r, o = some r ∧ r = textL (addrP o).1 ++ r' ∧ 0 ≤ (addrP o).1 ∧ (addrP o).1 < 4294967296 ∧ noDig r' := by
  cases o with
  | none => simp [addrP, addrSt, numP, signP] at h
  | some r => exact ⟨r, rfl, (addrP_iff r _ r').1 (by rw [← h])⟩
theorem addrP_mk (a : Int) (r' : List UInt8) (h0 : 0 ≤ a) (h1 : a < 4294967296) (h : noDig r') : addrP (some (textL a ++ r')) = (a, some r') := (addrP_iff _ a r').2 ⟨rfl, h0, h1, h⟩
theorem numP_mk (most n : Int) (r' : List UInt8) (h0 : 0 ≤ n) (h1 : n ≤ most) (h : noDig r') : numP most (some (dec n ++ r')) = (n, some r') := (numP_iff most _ n r').2 ⟨rfl, h0, h1, h⟩
theorem signP_mk (c : UInt8) (r : List UInt8) : signP c (some (c :: r)) = some r := by simp [signP]

theorem ref_read (l : List UInt8) : readL l = if (addrP (some l)).2 = some [] then some (addrP (some l)).1 else none := by
  split
  · rename_i h
    obtain ⟨r, e, f, h0, h1, _⟩ := addrP_some h
    cases e
    rw [List.append_nil] at f
    have := read_text (addrP (some l)).1 h0 h1
    rwa [← f] at this
  · rename_i h
    refine opt_none fun a ha => h ?_
    have e := text_read ha
    have := addrP_mk a [] (readL_bd ha).1 (readL_bd ha).2 noDig_nil
    rw [List.append_nil, e] at this
    rw [this]
/-- The prefix, as the reference reads it. -/
def rpN (l : List UInt8) : Int × Option (List UInt8) := numP 32 (signP 47 (addrP (some l)).2)
theorem ref_readPrefix (l : List UInt8) : readPrefixL l = if (rpN l).2 = some [] ∧ rightB (addrP (some l)).1 (rpN l).1 = true then some ((addrP (some l)).1, (rpN l).1) else none := by
  split
  · rename_i h
    obtain ⟨h, hr⟩ := h
    unfold rpN at h hr ⊢
    obtain ⟨r, e, f, h0, h1, _⟩ := numP_some h
    rw [signP_iff] at e
    obtain ⟨r2, e2, f2, a0, a1, _⟩ := addrP_some e
    cases e2
    rw [List.append_nil] at f
    rw [f] at f2
    have := readPrefix_text _ _ a0 a1 h0 (by omega) hr
    unfold prefixTextL at this
    rw [List.append_assoc, List.singleton_append, ← f2] at this
    exact this
  · rename_i h
    refine opt_none fun ⟨a, n⟩ ha => h ?_
    obtain ⟨e, hr, a0, a1, n0, n1⟩ := prefix_read ha
    have hn : n ≤ 32 := by simp [rightB] at hr; exact hr.1
    have h1 := addrP_mk a (47 :: (dec n ++ [])) a0 a1 (noDig_sign 47 (by decide) _)
    have e2 : textL a ++ 47 :: (dec n ++ []) = l := by rw [← e]; simp [prefixTextL]
    rw [e2] at h1
    have h2 := numP_mk 32 n [] n0 hn noDig_nil
    unfold rpN
    rw [h1]
    simp only [signP_mk, h2, hr, and_self]
/-- The range, as the reference reads it. -/
def rrA (l : List UInt8) : Int × Option (List UInt8) := numP 65535 (some l)
def rrB (l : List UInt8) : Int × Option (List UInt8) := numP 65535 (signP 45 (rrA l).2)
theorem ref_readRange (l : List UInt8) : readRangeL l = if l = [42] then some (0, 65535) else if (rrA l).2 = some [] then some ((rrA l).1, (rrA l).1) else
    if (rrB l).2 = some [] ∧ (rrA l).1 < (rrB l).1 ∧ ¬ ((rrA l).1 = 0 ∧ (rrB l).1 = 65535) then some ((rrA l).1, (rrB l).1) else none := by
  split
  · rename_i h; subst h; rfl
  · rename_i hs
    split
    · rename_i h
      unfold rrA at h ⊢
      obtain ⟨r, e, f, h0, h1, _⟩ := numP_some h
      cases e
      rw [List.append_nil] at f
      have := readRange_text _ _ h0 (by omega) h0 (by omega) (Int.le_refl (numP 65535 (some l)).1)
      rw [rangeTextL_one _ (by omega), ← f] at this
      exact this
    · rename_i hA
      split
      · rename_i h
        obtain ⟨h, hlt, hne⟩ := h
        obtain ⟨r, e, f, h0, h1, _⟩ := numP_some (most := 65535) (o := signP 45 (rrA l).2) h
        have F : r = dec (rrB l).1 ++ [] := f
        have H0 : 0 ≤ (rrB l).1 := h0
        have H1 : (rrB l).1 ≤ 65535 := h1
        rw [signP_iff] at e
        obtain ⟨r2, e2, f2, a0, a1, _⟩ := numP_some (most := 65535) (o := some l) e
        have F2 : l = dec (rrA l).1 ++ 45 :: r := by cases e2; exact f2
        have A0 : 0 ≤ (rrA l).1 := a0
        have A1 : (rrA l).1 ≤ 65535 := a1
        rw [List.append_nil] at F
        rw [F] at F2
        have := readRange_text _ _ A0 (by omega) H0 (by omega) (Int.le_of_lt hlt)
        rw [rangeTextL_two _ _ hne (by omega), List.append_assoc, List.singleton_append, ← F2] at this
        exact this
      · rename_i h
        refine opt_none fun ⟨p, q⟩ ha => ?_
        obtain ⟨e, hle, p0, p1, q0, q1⟩ := range_read ha
        by_cases hst : p = 0 ∧ q = 65535
        · apply hs
          rw [← e]; unfold rangeTextL; rw [if_pos hst]
        · by_cases hpq : p = q
          · subst hpq
            rw [rangeTextL_one _ hst] at e
            have h2 := numP_mk 65535 p [] p0 (by omega) noDig_nil
            rw [List.append_nil, e] at h2
            apply hA
            unfold rrA; rw [h2]
          · rw [rangeTextL_two _ _ hst hpq] at e
            have h1 := numP_mk 65535 p (45 :: (dec q ++ [])) p0 (by omega) (noDig_sign 45 (by decide) _)
            have e2 : dec p ++ 45 :: (dec q ++ []) = l := by rw [← e]; simp
            rw [e2] at h1
            have h2 := numP_mk 65535 q [] q0 (by omega) noDig_nil
            apply h
            have ea : rrA l = (p, some (45 :: (dec q ++ []))) := h1
            have eb : rrB l = (q, some []) := by unfold rrB; rw [ea]; simp only [signP_mk, h2]
            rw [ea, eb]
            exact ⟨rfl, by show p < q; omega, hst⟩
/-- The key, as the reference reads it. -/
def rk1 (l : List UInt8) : Int × Option (List UInt8) := numP 255 (some l)
def rk2 (l : List UInt8) : Int × Option (List UInt8) := addrP (signP 32 (rk1 l).2)
def rk3 (l : List UInt8) : Int × Option (List UInt8) := numP 65535 (signP 58 (rk2 l).2)
def rk4 (l : List UInt8) : Int × Option (List UInt8) := addrP (signP 32 (rk3 l).2)
def rk5 (l : List UInt8) : Int × Option (List UInt8) := numP 65535 (signP 58 (rk4 l).2)
theorem ref_readKey (l : List UInt8) : readKeyV l = if (rk5 l).2 = some [] then .tuple #[.agg #[.int .u8 (rk1 l).1, .int .u32 (rk2 l).1, .int .u32 (rk4 l).1, .int .u16 (rk3 l).1, .int .u16 (rk5 l).1], .int .i64 0]
    else .tuple #[.agg #[.int .u8 0, .int .u32 0, .int .u32 0, .int .u16 0, .int .u16 0], .int .i64 30] := by
  split
  · rename_i h
    have h5 := h
    unfold rk5 at h
    obtain ⟨r5, e5, f5, a5, b5, _⟩ := numP_some h
    rw [signP_iff] at e5
    have h4 := e5
    unfold rk4 at e5
    obtain ⟨r4, e4, f4, a4, b4, _⟩ := addrP_some e5
    rw [signP_iff] at e4
    have h3 := e4
    unfold rk3 at e4
    obtain ⟨r3, e3, f3, a3, b3, _⟩ := numP_some e4
    rw [signP_iff] at e3
    have h2 := e3
    unfold rk2 at e3
    obtain ⟨r2, e2, f2, a2, b2, _⟩ := addrP_some e3
    rw [signP_iff] at e2
    have h1 := e2
    unfold rk1 at e2
    obtain ⟨r1, e1, f1, a1, b1, _⟩ := numP_some e2
    cases e1
    rw [List.append_nil] at f5
    have F1 : l = dec (rk1 l).1 ++ 32 :: r2 := f1
    have F2 : r2 = textL (rk2 l).1 ++ 58 :: r3 := f2
    have F3 : r3 = dec (rk3 l).1 ++ 32 :: r4 := f3
    have F4 : r4 = textL (rk4 l).1 ++ 58 :: r5 := f4
    have F5 : r5 = dec (rk5 l).1 := f5
    have e : l = keyTextL (rk1 l).1 (rk2 l).1 (rk4 l).1 (rk3 l).1 (rk5 l).1 := by
      rw [F5] at F4; rw [F4] at F3; rw [F3] at F2; rw [F2] at F1
      refine F1.trans ?_
      unfold keyTextL
      simp only [List.append_assoc, List.cons_append, List.nil_append]
    have := readKeyV_text (rk1 l).1 (rk2 l).1 (rk4 l).1 (rk3 l).1 (rk5 l).1 a1 (by have : (rk1 l).1 ≤ 255 := b1; omega) a2 b2 a4 b4 a3 (by have : (rk3 l).1 ≤ 65535 := b3; omega) a5 (by have : (rk5 l).1 ≤ 65535 := b5; omega)
    rwa [← e] at this
  · rename_i h
    unfold readKeyV
    rw [if_neg]
    intro hk
    apply h
    obtain ⟨⟨p0, p1⟩, ⟨s0, s1⟩, ⟨d0, d1⟩, ⟨sp0, sp1⟩, ⟨dp0, dp1⟩⟩ := key_bounds l
    unfold kText at hk
    generalize kPr l = pr at *
    generalize kS l = s at *
    generalize kD l = d at *
    generalize kSp l = sp at *
    generalize kDp l = dp at *
    have e : l = dec pr ++ 32 :: (textL s ++ 58 :: (dec sp ++ 32 :: (textL d ++ 58 :: (dec dp ++ [])))) := by
      rw [← hk]; unfold keyTextL; simp only [List.append_assoc, List.cons_append, List.append_nil, List.nil_append]
    have g1 : rk1 l = (pr, some (32 :: (textL s ++ 58 :: (dec sp ++ 32 :: (textL d ++ 58 :: (dec dp ++ [])))))) := by
      unfold rk1; conv => lhs; rw [e]
      exact numP_mk 255 pr _ p0 (by omega) (noDig_sign 32 (by decide) _)
    have g2 : rk2 l = (s, some (58 :: (dec sp ++ 32 :: (textL d ++ 58 :: (dec dp ++ []))))) := by
      unfold rk2; rw [g1]; simp only [signP_mk]; exact addrP_mk s _ s0 s1 (noDig_sign 58 (by decide) _)
    have g3 : rk3 l = (sp, some (32 :: (textL d ++ 58 :: (dec dp ++ [])))) := by
      unfold rk3; rw [g2]; simp only [signP_mk]; exact numP_mk 65535 sp _ sp0 (by omega) (noDig_sign 32 (by decide) _)
    have g4 : rk4 l = (d, some (58 :: (dec dp ++ []))) := by
      unfold rk4; rw [g3]; simp only [signP_mk]; exact addrP_mk d _ d0 d1 (noDig_sign 58 (by decide) _)
    unfold rk5; rw [g4]; simp only [signP_mk]
    rw [numP_mk 65535 dp [] dp0 (by omega) noDig_nil]
end Go.Ab
namespace Go.Proofs.YtdebpdjkkblcfaaGreatDoor
open Go.RowKit Go.Ab
theorem at_ne {l : List UInt8} {o : Option (List UInt8)} (h : o ≠ some []) : (atOf l o != (l.length : Int)) = true := by
  simp only [bne_iff_ne, ne_eq]; exact fun e => h ((atOf_len l o).1 e)
theorem at_eq {l : List UInt8} {o : Option (List UInt8)} (h : o = some []) : (atOf l o != (l.length : Int)) = false := by
  simp only [bne_eq_false_iff_eq]; exact (atOf_len l o).2 h
end Go.Proofs.YtdebpdjkkblcfaaGreatDoor
namespace Go.Proofs.YtdebpdjkkblcfaaGreatDoor
open Go.RowKit Go.Ab
attribute [local go_sem high] eq_key
end Go.Proofs.YtdebpdjkkblcfaaGreatDoor
