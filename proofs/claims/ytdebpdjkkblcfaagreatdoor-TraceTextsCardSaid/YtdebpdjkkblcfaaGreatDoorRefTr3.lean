/- The reference of layer 41: events read. -/
import Derived.Test.YtdebpdjkkblcfaaGreatDoorRefTr1
import Derived.Test.YtdebpdjkkblcfaaGreatDoorRef7
import Derived.Test.YtdebpdjkkblcfaaGreatDoorTrPlain
namespace Go.Ab
open Go.RowKit Go.Proofs.YtdebpdjkkblcfaaGreatDoor
theorem read_no {l : List UInt8} (h : readEvV l = .tuple #[Ev.zero.val, .int .i64 410]) (e : Ev) (b : EvB e) (hr : e.right = true) : e.text ≠ l := fun ht => by
  have := read_ev e b hr
  rw [ht, h] at this
  simp at this
theorem text_cons (e : Ev) : e.text = dec e.n ++ 32 :: (wordOf e.sd ++ 32 :: (verdictOf e.r ++ 32 :: (nameOf e.r ++ 32 :: evKey e.r e.pr e.s e.d e.sp e.dp))) := by unfold Ev.text evText; simp [Lib.join]
theorem readKey_ev (pr s d sp dp : Int) (k : KeyB pr s d sp dp) : readKeyV (keyTextL pr s d sp dp) = .tuple #[.agg #[.int .u8 pr, .int .u32 s, .int .u32 d, .int .u16 sp, .int .u16 dp], .int .i64 0] := by
  obtain ⟨h1, h2, h3, h4, h5⟩ := kv_text pr s d sp dp k
  have hb : kvB (keyTextL pr s d sp dp) = true := by
    obtain ⟨q1, q2, q3, q4, q5⟩ := readKey_text pr s d sp dp k.r0 k.r1 k.s0 k.s1 k.d0 k.d1 k.sp0 k.sp1 k.dp0 k.dp1
    unfold kvB kText; rw [q1, q2, q3, q4, q5]; simp
  rw [kv_eq, h1, h2, h3, h4, h5, hb]; rfl
theorem rsE_name (r : Int) (h0 : 1 ≤ r) (h1 : r < 31) : rsE (nameOf r) = 0 := by
  have h : ∀ i : Nat, i < 31 → 1 ≤ i → rsE ((namesL[i]?).getD []) = 0 := by decide
  unfold nameOf
  rw [if_pos ⟨h0, h1⟩, h _ (by omega) (by omega)]
end Go.Ab
namespace Go.Proofs.YtdebpdjkkblcfaaGreatDoor
open Go.RowKit Go.Ab
set_option maxHeartbeats 32000000 in
set_option maxRecDepth 100000 in
/-- The text of a right event. -/
theorem rread_yes (e : Ev) (eb : EvB e) (er : e.right = true) (w : World) (g : Good w) : Gives Tryz.prog 22 #[.string ⟨e.text.toArray⟩] w (.tuple #[e.val, .int .i64 0]) := by
  have htl := text_len e eb er
  have htc := text_cons e
  obtain ⟨⟨n0, n1⟩, ⟨sd1, r1, r30⟩, hkz⟩ := ev_right_parts er
  obtain ⟨n, sd, r, pr, s, d, sp, dp⟩ := e
  simp only at n0 n1 sd1 r1 r30 hkz htc
  have sd0 : 0 ≤ sd := eb.sd0
  have kb : KeyB pr s d sp dp := eb.key
  have hri : ∀ w, Gives Tryz.prog 24 #[.agg #[.int .i64 n, .int .u8 sd, .int .u8 r, .int .u8 pr, .int .u32 s, .int .u32 d, .int .u16 sp, .int .u16 dp]] w (.bool true) := fun w => (rright_any n sd r pr s d sp dp w sd0 (by omega) (by omega) (by omega)).cast (by rw [show rightEv n sd r pr s d sp dp = true from er])
  have hrs : ∀ w, Gives Tryz.prog 48 #[.string ⟨(nameOf r).toArray⟩] w (.tuple #[.int .u8 r, .int .i64 0]) := fun w => (rreason_any (nameOf r) w).cast (by rw [rsN_name r r1 (by omega), rsE_name r r1 (by omega)])
  have hps := fun w => rpass_any r w
  have hit : ∀ w, Good w → Gives Tryz.prog 32 #[.int .i64 n] w (.string ⟨(dec n).toArray⟩) := fun w g => itoa_any n w g (by omega) (by omega)
  have hdc : ∀ w, Gives Tryz.prog 47 #[.string ⟨(dec n).toArray⟩] w (.int .i64 n) := fun w => by
    have l1 := dec_length n (by omega) (by omega)
    refine (rdecimal_any (dec n) w (by omega)).mono ?_
    rintro e w' ⟨D, rfl, hD, x, rfl⟩
    exact ⟨by rw [hD.2 n n0 n1 rfl], mkI⟩
  have hd32 : (32 : UInt8) ∉ dec n := dec_digit n n0 _ (by decide)
  have hl : (Ev.text ⟨n, sd, r, pr, s, d, sp, dp⟩).length ≤ 500 := htl
  rw [htc] at hl ⊢
  have lens := hl
  simp only [List.length_append, List.length_cons] at lens
  have hc1 : ∀ w, Gives Tryz.prog 46 #[.string ⟨(dec n ++ 32 :: (wordOf sd ++ 32 :: (verdictOf r ++ 32 :: (nameOf r ++ 32 :: evKey r pr s d sp dp)))).toArray⟩] w (.tuple #[.string ⟨(dec n).toArray⟩, .string ⟨(wordOf sd ++ 32 :: (verdictOf r ++ 32 :: (nameOf r ++ 32 :: evKey r pr s d sp dp))).toArray⟩, .bool true]) := fun w => (rcut_any _ w (by omega)).cast (by rw [cutC_app 32 _ _ hd32])
  have hc2 : ∀ w, Gives Tryz.prog 46 #[.string ⟨(wordOf sd ++ 32 :: (verdictOf r ++ 32 :: (nameOf r ++ 32 :: evKey r pr s d sp dp))).toArray⟩] w (.tuple #[.string ⟨(wordOf sd).toArray⟩, .string ⟨(verdictOf r ++ 32 :: (nameOf r ++ 32 :: evKey r pr s d sp dp)).toArray⟩, .bool true]) := fun w => (rcut_any _ w (by simp only [List.length_append, List.length_cons]; omega)).cast (by rw [cutC_app 32 _ _ (word_chars sd)])
  have hc3 : ∀ w, Gives Tryz.prog 46 #[.string ⟨(verdictOf r ++ 32 :: (nameOf r ++ 32 :: evKey r pr s d sp dp)).toArray⟩] w (.tuple #[.string ⟨(verdictOf r).toArray⟩, .string ⟨(nameOf r ++ 32 :: evKey r pr s d sp dp).toArray⟩, .bool true]) := fun w => (rcut_any _ w (by simp only [List.length_append, List.length_cons]; omega)).cast (by rw [cutC_app 32 _ _ (verdict_chars r)])
  have hc4 : ∀ w, Gives Tryz.prog 46 #[.string ⟨(nameOf r ++ 32 :: evKey r pr s d sp dp).toArray⟩] w (.tuple #[.string ⟨(nameOf r).toArray⟩, .string ⟨(evKey r pr s d sp dp).toArray⟩, .bool true]) := fun w => (rcut_any _ w (by simp only [List.length_append, List.length_cons]; omega)).cast (by rw [cutC_app 32 _ _ (nameOf_chars r)])
  have hky : ∀ w, Gives Tryz.prog 49 #[.string ⟨(keyTextL pr s d sp dp).toArray⟩] w (.tuple #[.agg #[.int .u8 pr, .int .u32 s, .int .u32 d, .int .u16 sp, .int .u16 dp], .int .i64 0]) := fun w => (refReadKey_any _ w (by have := keyTextL_len pr s d sp dp kb.r0 kb.r1 kb.sp0 kb.sp1 kb.dp0 kb.dp1; omega)).cast (readKey_ev pr s d sp dp kb)
  clear htl htc hl lens hd32 er eb
  generalize (dec n ++ 32 :: (wordOf sd ++ 32 :: (verdictOf r ++ 32 :: (nameOf r ++ 32 :: evKey r pr s d sp dp)))) = T1 at *
  generalize (wordOf sd ++ 32 :: (verdictOf r ++ 32 :: (nameOf r ++ 32 :: evKey r pr s d sp dp))) = T2 at *
  generalize (verdictOf r ++ 32 :: (nameOf r ++ 32 :: evKey r pr s d sp dp)) = T3 at *
  generalize (nameOf r ++ 32 :: evKey r pr s d sp dp) = T4 at *
  generalize dec n = dn at *
  generalize nameOf r = nm at *
  unfold verdictOf at hc3
  unfold evKey at hc4
  generalize passB r = pb at *
  unfold Gives Ev.val
  simp only
  by_cases hr : r < 20
  · obtain ⟨rfl, rfl, rfl, rfl, rfl⟩ := hkz hr
    rw [if_pos hr] at hc4
    clear hky hkz kb
    cases pb <;> rcases (by omega : sd = 0 ∨ sd = 1) with rfl | rfl
    all_goals
      simp only [wordOf, if_true, if_false, Bool.false_eq_true, Int.one_ne_zero] at hc2 hc3
      go_enter Tryz.func22, Tryz.ntmps22
      go_wp2_with (first
        | (go_at_call 46; (with_reducible refine (hc1 _).mono ?_); rintro e w' ⟨rfl, x1, rfl⟩)
        | (go_at_call 46; (with_reducible refine (hc2 _).mono ?_); rintro e w' ⟨rfl, x2, rfl⟩)
        | (go_at_call 46; (with_reducible refine (hc3 _).mono ?_); rintro e w' ⟨rfl, x3, rfl⟩)
        | (go_at_call 46; (with_reducible refine (hc4 _).mono ?_); rintro e w' ⟨rfl, x4, rfl⟩)
        | (go_at_call 47; refine (hdc _).mono ?_; rintro e w' ⟨rfl, x5, rfl⟩)
        | (go_at_call 32; refine (hit _ (g.up upI)).mono ?_; rintro e w' ⟨rfl, x6, rfl⟩)
        | (go_at_call 48; refine (hrs _).mono ?_; rintro e w' ⟨rfl, x7, rfl⟩)
        | (go_at_call 26; refine (hps _).mono ?_; rintro e w' ⟨rfl, x8, rfl⟩)
        | (go_at_call 24; refine (hri _).mono ?_; rintro e w' ⟨rfl, x9, rfl⟩))
      all_goals first | (exfalso; omega) | skip
      first
        | refine bodyPost_ret (v := Value.tuple #[.agg #[.int .i64 n, .int .u8 0, .int .u8 r, .int .u8 0, .int .u32 0, .int .u32 0, .int .u16 0, .int .u16 0], .int .i64 0]) (by simp [results, Tryz.results22, go_sem]) rfl ⟨rfl, mkI⟩
        | refine bodyPost_ret (v := Value.tuple #[.agg #[.int .i64 n, .int .u8 1, .int .u8 r, .int .u8 0, .int .u32 0, .int .u32 0, .int .u16 0, .int .u16 0], .int .i64 0]) (by simp [results, Tryz.results22, go_sem]) rfl ⟨rfl, mkI⟩
  · rw [if_neg hr] at hc4
    have hr' : 20 ≤ r := by omega
    clear hkz kb hr
    cases pb <;> rcases (by omega : sd = 0 ∨ sd = 1) with rfl | rfl
    all_goals
      simp only [wordOf, if_true, if_false, Bool.false_eq_true, Int.one_ne_zero] at hc2 hc3
      go_enter Tryz.func22, Tryz.ntmps22
      go_wp2_with (first
        | (go_at_call 46; (with_reducible refine (hc1 _).mono ?_); rintro e w' ⟨rfl, x1, rfl⟩)
        | (go_at_call 46; (with_reducible refine (hc2 _).mono ?_); rintro e w' ⟨rfl, x2, rfl⟩)
        | (go_at_call 46; (with_reducible refine (hc3 _).mono ?_); rintro e w' ⟨rfl, x3, rfl⟩)
        | (go_at_call 46; (with_reducible refine (hc4 _).mono ?_); rintro e w' ⟨rfl, x4, rfl⟩)
        | (go_at_call 47; refine (hdc _).mono ?_; rintro e w' ⟨rfl, x5, rfl⟩)
        | (go_at_call 32; refine (hit _ (g.up upI)).mono ?_; rintro e w' ⟨rfl, x6, rfl⟩)
        | (go_at_call 48; refine (hrs _).mono ?_; rintro e w' ⟨rfl, x7, rfl⟩)
        | (go_at_call 26; refine (hps _).mono ?_; rintro e w' ⟨rfl, x8, rfl⟩)
        | (go_at_call 49; refine (hky _).mono ?_; rintro e w' ⟨rfl, xk, rfl⟩)
        | (go_at_call 24; refine (hri _).mono ?_; rintro e w' ⟨rfl, x9, rfl⟩))
      all_goals first | (exfalso; omega) | skip
      first
        | refine bodyPost_ret (v := Value.tuple #[.agg #[.int .i64 n, .int .u8 0, .int .u8 r, .int .u8 pr, .int .u32 s, .int .u32 d, .int .u16 sp, .int .u16 dp], .int .i64 0]) (by simp [results, Tryz.results22, go_sem]) rfl ⟨rfl, mkI⟩
        | refine bodyPost_ret (v := Value.tuple #[.agg #[.int .i64 n, .int .u8 1, .int .u8 r, .int .u8 pr, .int .u32 s, .int .u32 d, .int .u16 sp, .int .u16 dp], .int .i64 0]) (by simp [results, Tryz.results22, go_sem]) rfl ⟨rfl, mkI⟩
end Go.Proofs.YtdebpdjkkblcfaaGreatDoor
