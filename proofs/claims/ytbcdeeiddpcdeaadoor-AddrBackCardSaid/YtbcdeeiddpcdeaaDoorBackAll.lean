/- AddrBack: the walk returns true, for any two addresses, lengths, ranges and keys. -/
import Derived.Test.YtbcdeeiddpcdeaaDoorAwake
import Derived.Test.YtbcdeeiddpcdeaaDoorRoundKey
import Derived.Test.YtbcdeeiddpcdeaaDoorStructEq
import Derived.Test.YtbcdeeiddpcdeaaDoorKeysPlain
import Derived.Test.YtbcdeeiddpcdeaaDoorInst
namespace Go.Proofs.YtbcdeeiddpcdeaaDoor
open Go.RowKit Go.Ab
attribute [local go_sem high] eq_prefix eq_key eq_range

theorem back_prefixText (a n : Int) (w : World) (g : Good w) (h0 : 0 ≤ n) (hn : n ≤ 32) (a0 : 0 ≤ a) (a1 : a < 4294967296) (h : Hid (rightB a n = true)) :
    Gives Tryd.prog 19 #[.agg #[.int .u32 a, .int .u8 n]] w (.tuple #[.string ⟨(prefixTextL a n).toArray⟩, .int .i64 0]) := (prefixText_any a n w g h0 (by omega) a0 a1).cast (by rw [h.out]; rfl)
theorem back_cut (a m M p : Int) (w : World) (hm : Hid (m % 33 = M)) (hp : Hid (a - a % sz M = p)) (M0 : 0 ≤ M) (M1 : M ≤ 32) (a0 : 0 ≤ a) (a1 : a < 4294967296) :
    Gives Tryd.prog 15 #[.int .u32 a, .int .u8 (m % 33)] w (.tuple #[.agg #[.int .u32 p, .int .u8 M], .int .i64 0]) := by
  rw [hm.out]; exact (cut_any a M w M0 M1 a0 a1).cast (by rw [hp.out])
theorem back_read (a : Int) (w : World) (g : Good w) (a0 : 0 ≤ a) (a1 : a < 4294967296) : Gives Tryd.prog 23 #[.string ⟨(textL a).toArray⟩] w (.tuple #[.int .u32 a, .int .i64 0]) :=
  (read_any (textL a) w g (by have := textL_length a; omega)).cast (by unfold readV; rw [read_text a a0 a1])
theorem back_readPrefix (p M : Int) (w : World) (g : Good w) (M0 : 0 ≤ M) (M1 : M ≤ 32) (p0 : 0 ≤ p) (p1 : p < 4294967296) (h : Hid (rightB p M = true)) :
    Gives Tryd.prog 25 #[.string ⟨(prefixTextL p M).toArray⟩] w (.tuple #[.agg #[.int .u32 p, .int .u8 M], .int .i64 0]) :=
  (readPrefix_any (prefixTextL p M) w g (by unfold prefixTextL; have := textL_length p; have := dec_length M (by omega) (by omega); simp only [List.length_append, List.length_cons, List.length_nil]; omega)).cast (by unfold readPrefixV; rw [readPrefix_text p M p0 p1 M0 (by omega) h.out])
theorem back_keyText (e s d sp dp : Int) (w : World) (g : Good w) (k : KeyB e s d sp dp) : Gives Tryd.prog 27 #[.agg #[.int .u8 e, .int .u32 s, .int .u32 d, .int .u16 sp, .int .u16 dp]] w (.string ⟨(keyTextL e s d sp dp).toArray⟩) :=
  keyText_any e s d sp dp w g k.r0 k.r1 k.sp0 k.sp1 k.dp0 k.dp1
theorem back_readKey (e s d sp dp : Int) (w : World) (g : Good w) (k : KeyB e s d sp dp) :
    Gives Tryd.prog 26 #[.string ⟨(keyTextL e s d sp dp).toArray⟩] w (.tuple #[.agg #[.int .u8 e, .int .u32 s, .int .u32 d, .int .u16 sp, .int .u16 dp], .int .i64 0]) :=
  (readKey_any (keyTextL e s d sp dp) w g (by
    have := textL_length s; have := textL_length d
    have := dec_length e (by have := k.r0; omega) (by have := k.r1; omega)
    have := dec_length sp (by have := k.sp0; omega) (by have := k.sp1; omega)
    have := dec_length dp (by have := k.dp0; omega) (by have := k.dp1; omega)
    unfold keyTextL; simp only [List.length_append, List.length_cons, List.length_nil]; omega)).cast (readKeyV_text e s d sp dp k.r0 k.r1 k.s0 k.s1 k.d0 k.d1 k.sp0 k.sp1 k.dp0 k.dp1)
theorem back_rangeText (p q : Int) (w : World) (g : Good w) (h : p ≤ q) (p0 : 0 ≤ p) (q1 : q < 65536) : Gives Tryd.prog 20 #[.agg #[.int .u16 p, .int .u16 q]] w (.tuple #[.string ⟨(rangeTextL p q).toArray⟩, .int .i64 0]) :=
  (rangeText_any p q w g p0 (by omega) (by omega) q1).cast (if_pos h)
theorem rangeTextL_len (p q : Int) (h : p ≤ q) (p0 : 0 ≤ p) (q1 : q < 65536) : (rangeTextL p q).length < 4294967281 := by
  have := dec_length p (by omega) (by omega)
  have := dec_length q (by omega) (by omega)
  unfold rangeTextL
  split
  · simp
  · split
    · omega
    · simp only [List.length_append, List.length_cons, List.length_nil]; omega
theorem back_readRange (p q : Int) (w : World) (g : Good w) (h : p ≤ q) (p0 : 0 ≤ p) (q1 : q < 65536) : Gives Tryd.prog 28 #[.string ⟨(rangeTextL p q).toArray⟩] w (.tuple #[.agg #[.int .u16 p, .int .u16 q], .int .i64 0]) :=
  (readRange_any (rangeTextL p q) w g (rangeTextL_len p q h p0 q1)).cast (by unfold readRangeV; rw [readRange_text p q p0 (by omega) (by omega) q1 h])
theorem rangeText_beq (p q r s : Int) (h : p ≤ q) (p0 : 0 ≤ p) (q1 : q < 65536) (h' : r ≤ s) (r0 : 0 ≤ r) (s1 : s < 65536) : (rangeTextL p q == rangeTextL r s) = (p == r && q == s) := by
  rw [Bool.eq_iff_iff]
  simp only [beq_iff_eq, Bool.and_eq_true]
  constructor
  · intro e
    have h1 := readRange_text p q p0 (by omega) (by omega) q1 h
    rw [e, readRange_text r s r0 (by omega) (by omega) s1 h'] at h1
    simp at h1
    exact ⟨h1.1.symm, h1.2.symm⟩
  · rintro ⟨rfl, rfl⟩; rfl

set_option maxHeartbeats 16000000 in
set_option maxRecDepth 100000 in
theorem back_walk (a b m n r0 r1 t0 t1 e1 s1 d1 sp1 dp1 e2 s2 d2 sp2 dp2 M N p q : Int) (w : World) (g : Good w) (a0 : 0 ≤ a) (a1 : a < 4294967296) (b0 : 0 ≤ b) (b1 : b < 4294967296) (m0 : 0 ≤ m) (n0 : 0 ≤ n)
    (M0 : 0 ≤ M) (M1 : M ≤ 32) (N0 : 0 ≤ N) (N1 : N ≤ 32) (p0 : 0 ≤ p) (p1 : p < 4294967296) (q0 : 0 ≤ q) (q1 : q < 4294967296)
    (hm : Hid (m % 33 = M)) (hn : Hid (n % 33 = N)) (hp : Hid (a - a % sz M = p)) (hq : Hid (b - b % sz N = q)) (hrp : Hid (rightB p M = true)) (hrq : Hid (rightB q N = true))
    (r00 : 0 ≤ r0) (r01 : r0 < 65536) (r10 : 0 ≤ r1) (r11 : r1 < 65536) (t00 : 0 ≤ t0) (t01 : t0 < 65536) (t10 : 0 ≤ t1) (t11 : t1 < 65536) (k1 : KeyB e1 s1 d1 sp1 dp1) (k2 : KeyB e2 s2 d2 sp2 dp2)
    (ht : (textL a == textL b) = (a == b)) (hpt : (prefixTextL p M == prefixTextL q N) = (p == q && M == N)) (hkt : (keyTextL e1 s1 d1 sp1 dp1 == keyTextL e2 s2 d2 sp2 dp2) = (e1 == e2 && (s1 == s2 && (d1 == d2 && (sp1 == sp2 && dp1 == dp2))))) :
    Gives Tryd.prog 7 #[.int .u32 a, .int .u32 b, .int .u8 m, .int .u8 n, .agg #[.int .u16 r0, .int .u16 r1], .agg #[.int .u16 t0, .int .u16 t1], .agg #[.int .u8 e1, .int .u32 s1, .int .u32 d1, .int .u16 sp1, .int .u16 dp1], .agg #[.int .u8 e2, .int .u32 s2, .int .u32 d2, .int .u16 sp2, .int .u16 dp2]] w (.bool true) := by
  unfold Gives
  go_enter Tryd.func7, Tryd.ntmps7
  go_wp2_with (first
    | (go_at_call 10; refine (awake_any _ (g.up upI)).mono ?_; rintro e w' ⟨rfl, x, rfl⟩)
    | (go_at_call 24; refine (text_any _ _ (g.up upI)).mono ?_; rintro e w' ⟨rfl, x, rfl⟩)
    | (go_at_call 23; refine (back_read a _ (g.up upI) a0 a1).mono ?_; rintro e w' ⟨rfl, x, rfl⟩)
    | (go_at_call 15; ((first | with_reducible refine (back_cut a m M p _ hm hp M0 M1 a0 a1).mono ?_ | with_reducible refine (back_cut b n N q _ hn hq N0 N1 b0 b1).mono ?_)); rintro e w' ⟨rfl, x, rfl⟩)
    | (go_at_call 19; ((first | with_reducible refine (back_prefixText p M _ (g.up upI) M0 M1 p0 p1 hrp).mono ?_ | with_reducible refine (back_prefixText q N _ (g.up upI) N0 N1 q0 q1 hrq).mono ?_)); rintro e w' ⟨rfl, x, rfl⟩)
    | (go_at_call 25; refine (back_readPrefix p M _ (g.up upI) M0 M1 p0 p1 hrp).mono ?_; rintro e w' ⟨rfl, x, rfl⟩)
    | (go_at_call 27; refine (back_keyText e1 s1 d1 sp1 dp1 _ (g.up upI) k1).mono ?_; rintro e w' ⟨rfl, x, rfl⟩)
    | (go_at_call 26; refine (back_readKey e1 s1 d1 sp1 dp1 _ (g.up upI) k1).mono ?_; rintro e w' ⟨rfl, x, rfl⟩))
  (refine wp_region_ext (by kernel_rfl) (by kernel_rfl) ?_; (repeat (go_big_quiet_step ((first
    | (go_at_call 24; exact (text_any _ _ (g.up upI)).ext)
    | (go_at_call 27; first | with_reducible exact (back_keyText e1 s1 d1 sp1 dp1 _ (g.up upI) k1).ext | with_reducible exact (back_keyText e2 s2 d2 sp2 dp2 _ (g.up upI) k2).ext))))); refine wpQuiet_nil ?_; rintro _ ⟨y, rfl⟩)
  have Ht := Lib.hid ht; have Hpt := Lib.hid hpt; have Hkt := Lib.hid hkt
  clear ht hpt hkt
  rcases Int.lt_or_le r1 r0 with hA | hA
  · rcases Int.lt_or_le t1 t0 with hB | hB
    · have hk := rangeText_beq r1 r0 t1 t0 (by omega) (by omega) (by omega) (by omega) (by omega) (by omega)
      go_wp2_with (first
    | (go_at_call 20; ((first | with_reducible refine (back_rangeText r1 r0 _ (g.up upI) (by omega) (by omega) (by omega)).mono ?_ | with_reducible refine (back_rangeText t1 t0 _ (g.up upI) (by omega) (by omega) (by omega)).mono ?_)); rintro e w' ⟨rfl, x, rfl⟩)
    | (go_at_call 28; refine (back_readRange r1 r0 _ (g.up upI) (by omega) (by omega) (by omega)).mono ?_; rintro e w' ⟨rfl, x, rfl⟩))
      go_ret
      exact ⟨rfl, mkI⟩
    · have hk := rangeText_beq r1 r0 t0 t1 (by omega) (by omega) (by omega) (by omega) (by omega) (by omega)
      go_wp2_with (first
    | (go_at_call 20; ((first | with_reducible refine (back_rangeText r1 r0 _ (g.up upI) (by omega) (by omega) (by omega)).mono ?_ | with_reducible refine (back_rangeText t0 t1 _ (g.up upI) (by omega) (by omega) (by omega)).mono ?_)); rintro e w' ⟨rfl, x, rfl⟩)
    | (go_at_call 28; refine (back_readRange r1 r0 _ (g.up upI) (by omega) (by omega) (by omega)).mono ?_; rintro e w' ⟨rfl, x, rfl⟩))
      go_ret
      exact ⟨rfl, mkI⟩
  · rcases Int.lt_or_le t1 t0 with hB | hB
    · have hk := rangeText_beq r0 r1 t1 t0 (by omega) (by omega) (by omega) (by omega) (by omega) (by omega)
      go_wp2_with (first
    | (go_at_call 20; ((first | with_reducible refine (back_rangeText r0 r1 _ (g.up upI) (by omega) (by omega) (by omega)).mono ?_ | with_reducible refine (back_rangeText t1 t0 _ (g.up upI) (by omega) (by omega) (by omega)).mono ?_)); rintro e w' ⟨rfl, x, rfl⟩)
    | (go_at_call 28; refine (back_readRange r0 r1 _ (g.up upI) (by omega) (by omega) (by omega)).mono ?_; rintro e w' ⟨rfl, x, rfl⟩))
      go_ret
      exact ⟨rfl, mkI⟩
    · have hk := rangeText_beq r0 r1 t0 t1 (by omega) (by omega) (by omega) (by omega) (by omega) (by omega)
      go_wp2_with (first
    | (go_at_call 20; ((first | with_reducible refine (back_rangeText r0 r1 _ (g.up upI) (by omega) (by omega) (by omega)).mono ?_ | with_reducible refine (back_rangeText t0 t1 _ (g.up upI) (by omega) (by omega) (by omega)).mono ?_)); rintro e w' ⟨rfl, x, rfl⟩)
    | (go_at_call 28; refine (back_readRange r0 r1 _ (g.up upI) (by omega) (by omega) (by omega)).mono ?_; rintro e w' ⟨rfl, x, rfl⟩))
      go_ret
      exact ⟨rfl, mkI⟩
theorem textL_beq (a b : Int) (a0 : 0 ≤ a) (a1 : a < 4294967296) (b0 : 0 ≤ b) (b1 : b < 4294967296) : (textL a == textL b) = (a == b) := by
  rw [Bool.eq_iff_iff]; simp only [beq_iff_eq]
  exact ⟨text_inj a0 a1 b0 b1, fun h => by rw [h]⟩
theorem cutPrefix_facts (a m : Int) (a0 : 0 ≤ a) (a1 : a < 4294967296) : 0 ≤ m % 33 ∧ m % 33 ≤ 32 ∧ 0 ≤ a - a % sz (m % 33) ∧ a - a % sz (m % 33) < 4294967296 ∧ rightB (a - a % sz (m % 33)) (m % 33) = true := by
  have h0 : 0 ≤ m % 33 := by omega
  have h1 : m % 33 ≤ 32 := by omega
  have hs := sz_pos (m % 33)
  have h2 := Int.emod_nonneg a (show sz (m % 33) ≠ 0 by omega)
  have h4 := Int.mul_ediv_add_emod a (sz (m % 33))
  have h5 : 0 ≤ sz (m % 33) * (a / sz (m % 33)) := Int.mul_nonneg (by omega) (Int.ediv_nonneg a0 (by omega))
  refine ⟨h0, h1, by omega, by omega, ?_⟩
  unfold rightB
  simp only [h1, decide_true, Bool.true_and, beq_iff_eq]
  exact Int.emod_eq_zero_of_dvd ⟨a / sz (m % 33), by omega⟩
theorem back_any (a b m n r0 r1 t0 t1 e1 s1 d1 sp1 dp1 e2 s2 d2 sp2 dp2 : Int) (w : World) (g : Good w) (a0 : 0 ≤ a) (a1 : a < 4294967296) (b0 : 0 ≤ b) (b1 : b < 4294967296) (m0 : 0 ≤ m) (_ : m < 256) (n0 : 0 ≤ n) (_ : n < 256)
    (r00 : 0 ≤ r0) (r01 : r0 < 65536) (r10 : 0 ≤ r1) (r11 : r1 < 65536) (t00 : 0 ≤ t0) (t01 : t0 < 65536) (t10 : 0 ≤ t1) (t11 : t1 < 65536) (k1 : KeyB e1 s1 d1 sp1 dp1) (k2 : KeyB e2 s2 d2 sp2 dp2) :
    Gives Tryd.prog 7 #[.int .u32 a, .int .u32 b, .int .u8 m, .int .u8 n, .agg #[.int .u16 r0, .int .u16 r1], .agg #[.int .u16 t0, .int .u16 t1], .agg #[.int .u8 e1, .int .u32 s1, .int .u32 d1, .int .u16 sp1, .int .u16 dp1], .agg #[.int .u8 e2, .int .u32 s2, .int .u32 d2, .int .u16 sp2, .int .u16 dp2]] w (.bool true) := by
  obtain ⟨M0, M1, p0, p1, hrp⟩ := cutPrefix_facts a m a0 a1
  obtain ⟨N0, N1, q0, q1, hrq⟩ := cutPrefix_facts b n b0 b1
  refine back_walk a b m n r0 r1 t0 t1 e1 s1 d1 sp1 dp1 e2 s2 d2 sp2 dp2 _ _ _ _ w g a0 a1 b0 b1 m0 n0 M0 M1 N0 N1 p0 p1 q0 q1 (Lib.hid rfl) (Lib.hid rfl) (Lib.hid rfl) (Lib.hid rfl) (Lib.hid hrp) (Lib.hid hrq) r00 r01 r10 r11 t00 t01 t10 t11 k1 k2 (textL_beq a b a0 a1 b0 b1) ?_ ?_
  · rw [Bool.eq_iff_iff]; simp only [beq_iff_eq, Bool.and_eq_true]
    exact ⟨prefixText_inj p0 p1 M0 (by omega) q0 q1 N0 (by omega) hrp hrq, fun h => by rw [h.1, h.2]⟩
  · rw [Bool.eq_iff_iff]; simp only [beq_iff_eq, Bool.and_eq_true]
    exact ⟨keyText_inj k1.r0 k1.r1 k1.s0 k1.s1 k1.d0 k1.d1 k1.sp0 k1.sp1 k1.dp0 k1.dp1 k2.r0 k2.r1 k2.s0 k2.s1 k2.d0 k2.d1 k2.sp0 k2.sp1 k2.dp0 k2.dp1, fun ⟨h1, h2, h3, h4, h5⟩ => by rw [h1, h2, h3, h4, h5]⟩
end Go.Proofs.YtbcdeeiddpcdeaaDoor
