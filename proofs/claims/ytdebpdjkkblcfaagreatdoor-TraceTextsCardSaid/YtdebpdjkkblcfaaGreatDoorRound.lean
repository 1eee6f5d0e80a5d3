/- What is written is read back: the plain law behind AddrBack. -/
import Derived.Test.YtdebpdjkkblcfaaGreatDoorAddr7
namespace Go.Ab
open Go.Proofs.YtdebpdjkkblcfaaGreatDoor
theorem dec_digit (n : Int) (h : 0 ≤ n) (c : UInt8) (hc : c.toNat < 48 ∨ 57 < c.toNat) : c ∉ dec n := fun hm => by
  have := itoa_digit n h c hm
  omega
theorem atoiV_dec (n : Int) (h0 : 0 ≤ n) (h1 : n < 1000000000000000000) : atoiV (dec n) = n := by unfold atoiV dec; rw [atoiAll_dec n h0 h1]
theorem atoiOk_dec (n : Int) (h0 : 0 ≤ n) (h1 : n < 1000000000000000000) : atoiOk (dec n) = true := by unfold atoiOk dec; rw [atoiAll_dec n h0 h1]
theorem numV_dec (b n : Int) (h0 : 0 ≤ n) (h1 : n < b) (hb : b ≤ 1000000000000000000) : numV b (dec n) = n := by unfold numV; rw [atoiV_dec n h0 (by omega)]; exact Int.emod_eq_of_lt h0 h1
theorem numOk_dec (b n : Int) (h0 : 0 ≤ n) (h1 : n < b) (hb : b ≤ 1000000000000000000) : numOk b (dec n) = true := by unfold numOk; rw [atoiOk_dec n h0 (by omega), numV_dec b n h0 h1 hb]; simp
theorem oct_dot (a : Int) (k : Nat) : (46 : UInt8) ∉ dec (oct a k) := dec_digit _ (oct_bd a k).1 _ (by decide)
theorem split_text (a : Int) : splitC 46 (textL a) = [dec (oct a 0), dec (oct a 1), dec (oct a 2), dec (oct a 3)] := by
  unfold textL
  refine split_join 46 _ (by simp) ?_
  intro p hp
  simp only [List.mem_cons, List.not_mem_nil, or_false] at hp
  rcases hp with rfl | rfl | rfl | rfl <;> exact oct_dot a _
theorem text_chars (a : Int) (c : UInt8) (hc : c.toNat < 46 ∨ c.toNat = 47 ∨ 57 < c.toNat) : c ∉ textL a := by
  have h : ∀ k, c ∉ dec (oct a k) := fun k => dec_digit _ (oct_bd a k).1 c (by omega)
  have h46 : c ≠ 46 := fun e => by subst e; revert hc; decide
  unfold textL
  simp [Lib.join, h, h46]
theorem read_text (a : Int) (a0 : 0 ≤ a) (a1 : a < 4294967296) : readL (textL a) = some a := by
  unfold readL
  rw [split_text]
  have hk : ∀ k, numOk 256 (dec (oct a k)) = true := fun k => numOk_dec 256 _ (oct_bd a k).1 (oct_bd a k).2 (by omega)
  have hv : ∀ k, numV 256 (dec (oct a k)) = oct a k := fun k => numV_dec 256 _ (oct_bd a k).1 (oct_bd a k).2 (by omega)
  simp only [hk, Bool.and_self, if_true, accL, fourL, hv, Option.some.injEq]
  have e0 : oct a 0 = a / 16777216 % 256 := rfl
  have e1 : oct a 1 = a / 65536 % 256 := rfl
  have e2 : oct a 2 = a / 256 % 256 := rfl
  have e3 : oct a 3 = a / 1 % 256 := rfl
  rw [e0, e1, e2, e3]
  omega
theorem text_inj {a b : Int} (a0 : 0 ≤ a) (a1 : a < 4294967296) (b0 : 0 ≤ b) (b1 : b < 4294967296) (h : textL a = textL b) : a = b := by
  have h1 := read_text a a0 a1
  rw [h, read_text b b0 b1] at h1
  simpa using h1.symm
theorem cut_prefix (a n : Int) : cutC 47 (prefixTextL a n) = (textL a, dec n, true) := by
  unfold prefixTextL
  rw [List.append_assoc, List.singleton_append]
  exact cutC_app 47 _ _ (text_chars a 47 (by decide))
theorem readPrefix_text (a n : Int) (a0 : 0 ≤ a) (a1 : a < 4294967296) (n0 : 0 ≤ n) (n1 : n < 256) (h : rightB a n = true) : readPrefixL (prefixTextL a n) = some (a, n) := by
  unfold readPrefixL
  rw [cut_prefix]
  simp [read_text a a0 a1, numOk_dec 256 n n0 n1 (by omega), numV_dec 256 n n0 n1 (by omega), h]
theorem prefixText_inj {a n b m : Int} (a0 : 0 ≤ a) (a1 : a < 4294967296) (n0 : 0 ≤ n) (n1 : n < 256) (b0 : 0 ≤ b) (b1 : b < 4294967296) (m0 : 0 ≤ m) (m1 : m < 256) (ha : rightB a n = true) (hb : rightB b m = true)
    (h : prefixTextL a n = prefixTextL b m) : a = b ∧ n = m := by
  have h1 := readPrefix_text a n a0 a1 n0 n1 ha
  rw [h, readPrefix_text b m b0 b1 m0 m1 hb] at h1
  simp at h1
  exact ⟨h1.1.symm, h1.2.symm⟩
theorem readRange_text (p q : Int) (p0 : 0 ≤ p) (p1 : p < 65536) (q0 : 0 ≤ q) (q1 : q < 65536) (h : p ≤ q) : readRangeL (rangeTextL p q) = some (p, q) := by
  by_cases hs : p = 0 ∧ q = 65535
  · obtain ⟨rfl, rfl⟩ := hs
    rfl
  · have hstar : ∀ n : Int, 0 ≤ n → ∀ r, dec n ++ r ≠ [42] := fun n hn r e => by
      have h42 := dec_digit n hn 42 (by decide)
      rcases hd : dec n with _ | ⟨c, t⟩
      · have := atoiOk_dec 0 (by omega) (by omega)
        exact (show dec n ≠ [] from fun e2 => by
          unfold dec Lib.itoa at e2
          split at e2
          · cases e2
          · exact decDigits_ne _ e2) hd
      · rw [hd] at e h42
        simp at e
        rw [e.1] at h42
        simp at h42
    have hcut : ∀ n : Int, 0 ≤ n → cutC 45 (dec n) = (dec n, [], false) := fun n hn => cutC_no 45 _ (dec_digit n hn 45 (by decide))
    by_cases hpq : p = q
    · subst hpq
      have e : rangeTextL p p = dec p := rangeTextL_one p (by omega)
      rw [e]
      unfold readRangeL
      have hne := hstar p p0 []
      rw [List.append_nil] at hne
      have hf : fromL (dec p) = p := by unfold fromL; rw [hcut p p0]; exact numV_dec _ p p0 p1 (by omega)
      have ht : toL (dec p) = p := by unfold toL; rw [hcut p p0]; exact numV_dec _ p p0 p1 (by omega)
      rw [if_neg hne, hf, ht, if_pos ⟨Int.le_refl _, e⟩]
    · have e := rangeTextL_two p q hs hpq
      rw [e]
      unfold readRangeL
      have hne := hstar p p0 ([45] ++ dec q)
      rw [← List.append_assoc] at hne
      have hc : cutC 45 (dec p ++ [45] ++ dec q) = (dec p, dec q, true) := by
        rw [List.append_assoc, List.singleton_append]
        exact cutC_app 45 _ _ (dec_digit p p0 45 (by decide))
      have hf : fromL (dec p ++ [45] ++ dec q) = p := by unfold fromL; rw [hc]; exact numV_dec _ p p0 p1 (by omega)
      have ht : toL (dec p ++ [45] ++ dec q) = q := by unfold toL; rw [hc]; exact numV_dec _ q q0 q1 (by omega)
      rw [if_neg hne, hf, ht, if_pos ⟨h, e⟩]
end Go.Ab
namespace Go.Ab
open Go.Proofs.YtdebpdjkkblcfaaGreatDoor
theorem cut_text_port (s sp : Int) : cutC 58 (textL s ++ [58] ++ dec sp) = (textL s, dec sp, true) := by
  rw [List.append_assoc, List.singleton_append]
  exact cutC_app 58 _ _ (text_chars s 58 (by decide))
theorem key_parts (pr s d sp dp : Int) (r0 : 0 ≤ pr) (sp0 : 0 ≤ sp) :
    cutC 32 (keyTextL pr s d sp dp) = (dec pr, (textL s ++ [58] ++ dec sp) ++ 32 :: (textL d ++ [58] ++ dec dp), true) ∧
    cutC 32 ((textL s ++ [58] ++ dec sp) ++ 32 :: (textL d ++ [58] ++ dec dp)) = (textL s ++ [58] ++ dec sp, textL d ++ [58] ++ dec dp, true) := by
  constructor
  · have e : keyTextL pr s d sp dp = dec pr ++ 32 :: ((textL s ++ [58] ++ dec sp) ++ 32 :: (textL d ++ [58] ++ dec dp)) := by unfold keyTextL; simp
    rw [e]
    exact cutC_app 32 _ _ (dec_digit pr r0 32 (by decide))
  · refine cutC_app 32 _ _ ?_
    simp only [List.mem_append, List.mem_singleton, not_or]
    exact ⟨⟨text_chars s 32 (by decide), by decide⟩, dec_digit sp sp0 32 (by decide)⟩
theorem readKey_text (pr s d sp dp : Int) (r0 : 0 ≤ pr) (r1 : pr < 256) (s0 : 0 ≤ s) (s1 : s < 4294967296) (d0 : 0 ≤ d) (d1 : d < 4294967296) (sp0 : 0 ≤ sp) (sp1 : sp < 65536) (dp0 : 0 ≤ dp) (dp1 : dp < 65536) :
    kPr (keyTextL pr s d sp dp) = pr ∧ kS (keyTextL pr s d sp dp) = s ∧ kD (keyTextL pr s d sp dp) = d ∧ kSp (keyTextL pr s d sp dp) = sp ∧ kDp (keyTextL pr s d sp dp) = dp := by
  obtain ⟨h1, h2⟩ := key_parts pr s d sp dp r0 sp0
  have hr : kRest (keyTextL pr s d sp dp) = (textL s ++ [58] ++ dec sp) ++ 32 :: (textL d ++ [58] ++ dec dp) := by unfold kRest; rw [h1]
  have hs : kSrc (keyTextL pr s d sp dp) = textL s ++ [58] ++ dec sp := by unfold kSrc; rw [hr, h2]
  have hd : kDst (keyTextL pr s d sp dp) = textL d ++ [58] ++ dec dp := by unfold kDst; rw [hr, h2]
  refine ⟨?_, ?_, ?_, ?_, ?_⟩
  · unfold kPr; rw [h1]; exact numV_dec 256 pr r0 r1 (by omega)
  · unfold kS readI; rw [hs, cut_text_port s sp]; simp [read_text s s0 s1]
  · unfold kD readI; rw [hd, cut_text_port d dp]; simp [read_text d d0 d1]
  · unfold kSp; rw [hs, cut_text_port s sp]; exact numV_dec 65536 sp sp0 sp1 (by omega)
  · unfold kDp; rw [hd, cut_text_port d dp]; exact numV_dec 65536 dp dp0 dp1 (by omega)
theorem readKeyV_text (pr s d sp dp : Int) (r0 : 0 ≤ pr) (r1 : pr < 256) (s0 : 0 ≤ s) (s1 : s < 4294967296) (d0 : 0 ≤ d) (d1 : d < 4294967296) (sp0 : 0 ≤ sp) (sp1 : sp < 65536) (dp0 : 0 ≤ dp) (dp1 : dp < 65536) :
    readKeyV (keyTextL pr s d sp dp) = .tuple #[.agg #[.int .u8 pr, .int .u32 s, .int .u32 d, .int .u16 sp, .int .u16 dp], .int .i64 0] := by
  obtain ⟨h1, h2, h3, h4, h5⟩ := readKey_text pr s d sp dp r0 r1 s0 s1 d0 d1 sp0 sp1 dp0 dp1
  unfold readKeyV kText
  rw [h1, h2, h3, h4, h5, if_pos rfl]
theorem keyText_inj {pr s d sp dp pr' s' d' sp' dp' : Int} (r0 : 0 ≤ pr) (r1 : pr < 256) (s0 : 0 ≤ s) (s1 : s < 4294967296) (d0 : 0 ≤ d) (d1 : d < 4294967296) (sp0 : 0 ≤ sp) (sp1 : sp < 65536) (dp0 : 0 ≤ dp) (dp1 : dp < 65536)
    (r0' : 0 ≤ pr') (r1' : pr' < 256) (s0' : 0 ≤ s') (s1' : s' < 4294967296) (d0' : 0 ≤ d') (d1' : d' < 4294967296) (sp0' : 0 ≤ sp') (sp1' : sp' < 65536) (dp0' : 0 ≤ dp') (dp1' : dp' < 65536)
    (h : keyTextL pr s d sp dp = keyTextL pr' s' d' sp' dp') : pr = pr' ∧ s = s' ∧ d = d' ∧ sp = sp' ∧ dp = dp' := by
  obtain ⟨h1, h2, h3, h4, h5⟩ := readKey_text pr s d sp dp r0 r1 s0 s1 d0 d1 sp0 sp1 dp0 dp1
  obtain ⟨k1, k2, k3, k4, k5⟩ := readKey_text pr' s' d' sp' dp' r0' r1' s0' s1' d0' d1' sp0' sp1' dp0' dp1'
  rw [h] at h1 h2 h3 h4 h5
  exact ⟨h1.symm.trans k1, h2.symm.trans k2, h3.symm.trans k3, h4.symm.trans k4, h5.symm.trans k5⟩
end Go.Ab
