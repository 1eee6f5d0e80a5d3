/- A key that is written is read back. -/
import Derived.Test.YtdebpdjkkblcfaaDoorRound
namespace Go.Ab
open Go.Proofs.YtdebpdjkkblcfaaDoor
theorem cut_text_port (s sp : Int) : cutC 58 (textL s ++ [58] ++ dec sp) = (textL s, dec sp, true) := by
  rw [List.append_assoc, List.singleton_append]
  exact cutC_app 58 _ _ (text_chars s 58 (by decide))
theorem key_parts (pr s d sp dp : Int) (r0 : 0 ≤ pr) (sp0 : 0 ≤ sp) :
    cutC 32 (keyTextL pr s d sp dp) = (dec pr, (textL s ++ [58] ++ dec sp) ++ 32 :: (textL d ++ [58] ++ dec dp), true) ∧
    cutC 32 ((textL s ++ [58] ++ dec sp) ++ 32 :: (textL d ++ [58] ++ dec dp)) = (textL s ++ [58] ++ dec sp, textL d ++ [58] ++ dec dp, true) := by
  constructor
  · have e : keyTextL pr s d sp dp = dec pr ++ 32 :: ((textL s ++ [58] ++ dec sp) ++ 32 :: (textL d ++ [58] ++ dec dp)) := by unfold keyTextL; simp
    rw [e]
    exact cutC_app 32 _ _ (dec_digit pr r0 32 (by decide))
  · refine cutC_app 32 _ _ ?_
    simp only [List.mem_append, List.mem_singleton, not_or]
    exact ⟨⟨text_chars s 32 (by decide), by decide⟩, dec_digit sp sp0 32 (by decide)⟩
theorem readKey_text (pr s d sp dp : Int) (r0 : 0 ≤ pr) (r1 : pr < 256) (s0 : 0 ≤ s) (s1 : s < 4294967296) (d0 : 0 ≤ d) (d1 : d < 4294967296) (sp0 : 0 ≤ sp) (sp1 : sp < 65536) (dp0 : 0 ≤ dp) (dp1 : dp < 65536) :
    kPr (keyTextL pr s d sp dp) = pr ∧ kS (keyTextL pr s d sp dp) = s ∧ kD (keyTextL pr s d sp dp) = d ∧ kSp (keyTextL pr s d sp dp) = sp ∧ kDp (keyTextL pr s d sp dp) = dp := by
  obtain ⟨h1, h2⟩ := key_parts pr s d sp dp r0 sp0
  have hr : kRest (keyTextL pr s d sp dp) = (textL s ++ [58] ++ dec sp) ++ 32 :: (textL d ++ [58] ++ dec dp) := by unfold kRest; rw [h1]
  have hs : kSrc (keyTextL pr s d sp dp) = textL s ++ [58] ++ dec sp := by unfold kSrc; rw [hr, h2]
  have hd : kDst (keyTextL pr s d sp dp) = textL d ++ [58] ++ dec dp := by unfold kDst; rw [hr, h2]
  refine ⟨?_, ?_, ?_, ?_, ?_⟩
  · unfold kPr; rw [h1]; exact numV_dec 256 pr r0 r1 (by omega)
  · unfold kS readI; rw [hs, cut_text_port s sp]; simp [read_text s s0 s1]
  · unfold kD readI; rw [hd, cut_text_port d dp]; simp [read_text d d0 d1]
  · unfold kSp; rw [hs, cut_text_port s sp]; exact numV_dec 65536 sp sp0 sp1 (by omega)
  · unfold kDp; rw [hd, cut_text_port d dp]; exact numV_dec 65536 dp dp0 dp1 (by omega)
theorem readKeyV_text (pr s d sp dp : Int) (r0 : 0 ≤ pr) (r1 : pr < 256) (s0 : 0 ≤ s) (s1 : s < 4294967296) (d0 : 0 ≤ d) (d1 : d < 4294967296) (sp0 : 0 ≤ sp) (sp1 : sp < 65536) (dp0 : 0 ≤ dp) (dp1 : dp < 65536) :
    readKeyV (keyTextL pr s d sp dp) = .tuple #[.agg #[.int .u8 pr, .int .u32 s, .int .u32 d, .int .u16 sp, .int .u16 dp], .int .i64 0] := by
  obtain ⟨h1, h2, h3, h4, h5⟩ := readKey_text pr s d sp dp r0 r1 s0 s1 d0 d1 sp0 sp1 dp0 dp1
  unfold readKeyV kText
  rw [h1, h2, h3, h4, h5, if_pos rfl]
theorem keyText_inj {pr s d sp dp pr' s' d' sp' dp' : Int} (r0 : 0 ≤ pr) (r1 : pr < 256) (s0 : 0 ≤ s) (s1 : s < 4294967296) (d0 : 0 ≤ d) (d1 : d < 4294967296) (sp0 : 0 ≤ sp) (sp1 : sp < 65536) (dp0 : 0 ≤ dp) (dp1 : dp < 65536)
    (r0' : 0 ≤ pr') (r1' : pr' < 256) (s0' : 0 ≤ s') (s1' : s' < 4294967296) (d0' : 0 ≤ d') (d1' : d' < 4294967296) (sp0' : 0 ≤ sp') (sp1' : sp' < 65536) (dp0' : 0 ≤ dp') (dp1' : dp' < 65536)
    (h : keyTextL pr s d sp dp = keyTextL pr' s' d' sp' dp') : pr = pr' ∧ s = s' ∧ d = d' ∧ sp = sp' ∧ dp = dp' := by
  obtain ⟨h1, h2, h3, h4, h5⟩ := readKey_text pr s d sp dp r0 r1 s0 s1 d0 d1 sp0 sp1 dp0 dp1
  obtain ⟨k1, k2, k3, k4, k5⟩ := readKey_text pr' s' d' sp' dp' r0' r1' s0' s1' d0' d1' sp0' sp1' dp0' dp1'
  rw [h] at h1 h2 h3 h4 h5
  exact ⟨h1.symm.trans k1, h2.symm.trans k2, h3.symm.trans k3, h4.symm.trans k4, h5.symm.trans k5⟩
end Go.Ab
