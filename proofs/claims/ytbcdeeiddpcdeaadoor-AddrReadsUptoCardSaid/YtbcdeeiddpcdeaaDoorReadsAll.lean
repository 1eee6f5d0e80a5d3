/- AddrReads: for each kind of string the walk returns true. -/
import Derived.Test.YtbcdeeiddpcdeaaDoorAwake
import Derived.Test.YtbcdeeiddpcdeaaDoorReadsPlain
import Derived.Test.YtbcdeeiddpcdeaaDoorStructEq
import Derived.Test.YtbcdeeiddpcdeaaDoorInst
namespace Go.Proofs.YtbcdeeiddpcdeaaDoor
open Go.RowKit Go.Ab
attribute [local go_sem high] eq_prefix eq_key eq_range
theorem prefixText_00 (w : World) (g : Good w) : Gives Tryd.prog 19 #[.agg #[.int .u32 0, .int .u8 0]] w (.tuple #[.string ⟨(prefixTextL 0 0).toArray⟩, .int .i64 0]) :=
  (prefixText_any 0 0 w g (by omega) (by omega) (by omega) (by omega)).cast (by rw [show rightB 0 0 = true by decide]; rfl)
theorem prefixText_ok (a n : Int) (w : World) (g : Good w) (h0 : 0 ≤ n) (hn : n < 256) (a0 : 0 ≤ a) (a1 : a < 4294967296) (h : Hid (rightB a n = true)) :
    Gives Tryd.prog 19 #[.agg #[.int .u32 a, .int .u8 n]] w (.tuple #[.string ⟨(prefixTextL a n).toArray⟩, .int .i64 0]) := (prefixText_any a n w g h0 hn a0 a1).cast (by rw [h.out]; rfl)
theorem rangeText_ok (p q : Int) (w : World) (g : Good w) (h : p ≤ q) (p0 : 0 ≤ p) (q1 : q < 65536) : Gives Tryd.prog 20 #[.agg #[.int .u16 p, .int .u16 q]] w (.tuple #[.string ⟨(rangeTextL p q).toArray⟩, .int .i64 0]) :=
  (rangeText_any p q w g p0 (by omega) (by omega) q1).cast (if_pos h)
theorem rangeText_00 (w : World) (g : Good w) : Gives Tryd.prog 20 #[.agg #[.int .u16 0, .int .u16 0]] w (.tuple #[.string ⟨(rangeTextL 0 0).toArray⟩, .int .i64 0]) :=
  (rangeText_any 0 0 w g (by omega) (by omega) (by omega) (by omega)).cast (if_pos (by omega))
set_option maxHeartbeats 8000000 in
set_option maxRecDepth 100000 in
theorem reads_addr (l : List UInt8) (w : World) (g : Good w) (hs : l.length < 4294967281) (a : Int) (h1 : readL l = some a) (h2 : readPrefixL l = none) (h3 : readRangeL l = none) (h4 : kText l ≠ l) : Gives Tryd.prog 8 #[.string ⟨l.toArray⟩] w (.bool true) := by
  have V1 : Hid (readV l = .tuple #[.int .u32 a, .int .i64 0]) := Lib.hid (by unfold readV; rw [h1])
  have T1 : (textL a == l) = true := by simpa using text_read h1
  have V2 : Hid (readPrefixV l = .tuple #[.agg #[.int .u32 0, .int .u8 0], .int .i64 30]) := Lib.hid (by unfold readPrefixV; rw [h2])
  have V3 : Hid (readRangeV l = .tuple #[.agg #[.int .u16 0, .int .u16 0], .int .i64 30]) := Lib.hid (by unfold readRangeV; rw [h3])
  obtain ⟨kp, ks, kd, ksp, kdp⟩ := key_bounds l
  have V4 : Hid (readKeyV l = .tuple #[.agg #[.int .u8 0, .int .u32 0, .int .u32 0, .int .u16 0, .int .u16 0], .int .i64 30]) := Lib.hid (by unfold readKeyV; rw [if_neg h4])
  clear h1 h2 h3 h4
  unfold Gives
  go_enter Tryd.func8, Tryd.ntmps8
  go_wp2_with (first
    | (go_at_call 10; refine (awake_any _ (g.up upI)).mono ?_; rintro e w' ⟨rfl, x, rfl⟩)
    | (go_at_call 23; refine ((read_any l _ (g.up upI) hs).cast V1.out).mono ?_; rintro e w' ⟨rfl, x, rfl⟩)
    | (go_at_call 24; refine (text_any _ _ (g.up upI)).mono ?_; rintro e w' ⟨rfl, x, rfl⟩)
    | (go_at_call 25; refine ((readPrefix_any l _ (g.up upI) hs).cast V2.out).mono ?_; rintro e w' ⟨rfl, x, rfl⟩)
    | (go_at_call 19; refine (prefixText_00 _ (g.up upI)).mono ?_; rintro e w' ⟨rfl, x, rfl⟩)
    | (go_at_call 28; refine ((readRange_any l _ (g.up upI) hs).cast V3.out).mono ?_; rintro e w' ⟨rfl, x, rfl⟩)
    | (go_at_call 20; refine (rangeText_00 _ (g.up upI)).mono ?_; rintro e w' ⟨rfl, x, rfl⟩)
    | (go_at_call 26; refine ((readKey_any l _ (g.up upI) hs).cast V4.out).mono ?_; rintro e w' ⟨rfl, x, rfl⟩)
    | (go_at_call 27; refine (keyText_any _ _ _ _ _ _ (g.up upI) kp.1 kp.2 ksp.1 ksp.2 kdp.1 kdp.2).mono ?_; rintro e w' ⟨rfl, x, rfl⟩))
  go_ret
  exact ⟨rfl, mkI⟩
set_option maxHeartbeats 8000000 in
set_option maxRecDepth 100000 in
theorem reads_pref (l : List UInt8) (w : World) (g : Good w) (hs : l.length < 4294967281) (a n : Int) (h2 : readPrefixL l = some (a, n)) (h1 : readL l = none) (h3 : readRangeL l = none) (h4 : kText l ≠ l) : Gives Tryd.prog 8 #[.string ⟨l.toArray⟩] w (.bool true) := by
  have V1 : Hid (readV l = .tuple #[.int .u32 0, .int .i64 30]) := Lib.hid (by unfold readV; rw [h1])
  obtain ⟨T2', R2, a0, a1, n0, n1⟩ := prefix_read h2
  have T2 : (prefixTextL a n == l) = true := by simpa using T2'
  have V2 : Hid (readPrefixV l = .tuple #[.agg #[.int .u32 a, .int .u8 n], .int .i64 0]) := Lib.hid (by unfold readPrefixV; rw [h2])
  have R2h := Lib.hid R2
  clear T2' R2
  have V3 : Hid (readRangeV l = .tuple #[.agg #[.int .u16 0, .int .u16 0], .int .i64 30]) := Lib.hid (by unfold readRangeV; rw [h3])
  obtain ⟨kp, ks, kd, ksp, kdp⟩ := key_bounds l
  have V4 : Hid (readKeyV l = .tuple #[.agg #[.int .u8 0, .int .u32 0, .int .u32 0, .int .u16 0, .int .u16 0], .int .i64 30]) := Lib.hid (by unfold readKeyV; rw [if_neg h4])
  clear h1 h2 h3 h4
  unfold Gives
  go_enter Tryd.func8, Tryd.ntmps8
  go_wp2_with (first
    | (go_at_call 10; refine (awake_any _ (g.up upI)).mono ?_; rintro e w' ⟨rfl, x, rfl⟩)
    | (go_at_call 23; refine ((read_any l _ (g.up upI) hs).cast V1.out).mono ?_; rintro e w' ⟨rfl, x, rfl⟩)
    | (go_at_call 24; refine (text_any _ _ (g.up upI)).mono ?_; rintro e w' ⟨rfl, x, rfl⟩)
    | (go_at_call 25; refine ((readPrefix_any l _ (g.up upI) hs).cast V2.out).mono ?_; rintro e w' ⟨rfl, x, rfl⟩)
    | (go_at_call 19; refine (prefixText_ok a n _ (g.up upI) n0 n1 a0 a1 R2h).mono ?_; rintro e w' ⟨rfl, x, rfl⟩)
    | (go_at_call 28; refine ((readRange_any l _ (g.up upI) hs).cast V3.out).mono ?_; rintro e w' ⟨rfl, x, rfl⟩)
    | (go_at_call 20; refine (rangeText_00 _ (g.up upI)).mono ?_; rintro e w' ⟨rfl, x, rfl⟩)
    | (go_at_call 26; refine ((readKey_any l _ (g.up upI) hs).cast V4.out).mono ?_; rintro e w' ⟨rfl, x, rfl⟩)
    | (go_at_call 27; refine (keyText_any _ _ _ _ _ _ (g.up upI) kp.1 kp.2 ksp.1 ksp.2 kdp.1 kdp.2).mono ?_; rintro e w' ⟨rfl, x, rfl⟩))
  go_ret
  exact ⟨rfl, mkI⟩
set_option maxHeartbeats 8000000 in
set_option maxRecDepth 100000 in
theorem reads_range (l : List UInt8) (w : World) (g : Good w) (hs : l.length < 4294967281) (p q : Int) (h3 : readRangeL l = some (p, q)) (h1 : readL l = none) (h2 : readPrefixL l = none) (h4 : kText l ≠ l) : Gives Tryd.prog 8 #[.string ⟨l.toArray⟩] w (.bool true) := by
  have V1 : Hid (readV l = .tuple #[.int .u32 0, .int .i64 30]) := Lib.hid (by unfold readV; rw [h1])
  have V2 : Hid (readPrefixV l = .tuple #[.agg #[.int .u32 0, .int .u8 0], .int .i64 30]) := Lib.hid (by unfold readPrefixV; rw [h2])
  obtain ⟨T3', R3, p0, p1, q0, q1⟩ := range_read h3
  have T3 : (rangeTextL p q == l) = true := by simpa using T3'
  have V3 : Hid (readRangeV l = .tuple #[.agg #[.int .u16 p, .int .u16 q], .int .i64 0]) := Lib.hid (by unfold readRangeV; rw [h3])
  clear T3'
  obtain ⟨kp, ks, kd, ksp, kdp⟩ := key_bounds l
  have V4 : Hid (readKeyV l = .tuple #[.agg #[.int .u8 0, .int .u32 0, .int .u32 0, .int .u16 0, .int .u16 0], .int .i64 30]) := Lib.hid (by unfold readKeyV; rw [if_neg h4])
  clear h1 h2 h3 h4
  unfold Gives
  go_enter Tryd.func8, Tryd.ntmps8
  go_wp2_with (first
    | (go_at_call 10; refine (awake_any _ (g.up upI)).mono ?_; rintro e w' ⟨rfl, x, rfl⟩)
    | (go_at_call 23; refine ((read_any l _ (g.up upI) hs).cast V1.out).mono ?_; rintro e w' ⟨rfl, x, rfl⟩)
    | (go_at_call 24; refine (text_any _ _ (g.up upI)).mono ?_; rintro e w' ⟨rfl, x, rfl⟩)
    | (go_at_call 25; refine ((readPrefix_any l _ (g.up upI) hs).cast V2.out).mono ?_; rintro e w' ⟨rfl, x, rfl⟩)
    | (go_at_call 19; refine (prefixText_00 _ (g.up upI)).mono ?_; rintro e w' ⟨rfl, x, rfl⟩)
    | (go_at_call 28; refine ((readRange_any l _ (g.up upI) hs).cast V3.out).mono ?_; rintro e w' ⟨rfl, x, rfl⟩)
    | (go_at_call 20; refine (rangeText_ok p q _ (g.up upI) R3 p0 q1).mono ?_; rintro e w' ⟨rfl, x, rfl⟩)
    | (go_at_call 26; refine ((readKey_any l _ (g.up upI) hs).cast V4.out).mono ?_; rintro e w' ⟨rfl, x, rfl⟩)
    | (go_at_call 27; refine (keyText_any _ _ _ _ _ _ (g.up upI) kp.1 kp.2 ksp.1 ksp.2 kdp.1 kdp.2).mono ?_; rintro e w' ⟨rfl, x, rfl⟩))
  go_ret
  exact ⟨rfl, mkI⟩
set_option maxHeartbeats 8000000 in
set_option maxRecDepth 100000 in
theorem reads_key (l : List UInt8) (w : World) (g : Good w) (hs : l.length < 4294967281) (h4 : kText l = l) (h1 : readL l = none) (h2 : readPrefixL l = none) (h3 : readRangeL l = none) : Gives Tryd.prog 8 #[.string ⟨l.toArray⟩] w (.bool true) := by
  have V1 : Hid (readV l = .tuple #[.int .u32 0, .int .i64 30]) := Lib.hid (by unfold readV; rw [h1])
  have V2 : Hid (readPrefixV l = .tuple #[.agg #[.int .u32 0, .int .u8 0], .int .i64 30]) := Lib.hid (by unfold readPrefixV; rw [h2])
  have V3 : Hid (readRangeV l = .tuple #[.agg #[.int .u16 0, .int .u16 0], .int .i64 30]) := Lib.hid (by unfold readRangeV; rw [h3])
  obtain ⟨kp, ks, kd, ksp, kdp⟩ := key_bounds l
  have T4 : (keyTextL (kPr l) (kS l) (kD l) (kSp l) (kDp l) == l) = true := by simpa [kText] using h4
  have V4 : Hid (readKeyV l = .tuple #[.agg #[.int .u8 (kPr l), .int .u32 (kS l), .int .u32 (kD l), .int .u16 (kSp l), .int .u16 (kDp l)], .int .i64 0]) := Lib.hid (by unfold readKeyV; rw [if_pos h4])
  clear h1 h2 h3 h4
  unfold Gives
  go_enter Tryd.func8, Tryd.ntmps8
  go_wp2_with (first
    | (go_at_call 10; refine (awake_any _ (g.up upI)).mono ?_; rintro e w' ⟨rfl, x, rfl⟩)
    | (go_at_call 23; refine ((read_any l _ (g.up upI) hs).cast V1.out).mono ?_; rintro e w' ⟨rfl, x, rfl⟩)
    | (go_at_call 24; refine (text_any _ _ (g.up upI)).mono ?_; rintro e w' ⟨rfl, x, rfl⟩)
    | (go_at_call 25; refine ((readPrefix_any l _ (g.up upI) hs).cast V2.out).mono ?_; rintro e w' ⟨rfl, x, rfl⟩)
    | (go_at_call 19; refine (prefixText_00 _ (g.up upI)).mono ?_; rintro e w' ⟨rfl, x, rfl⟩)
    | (go_at_call 28; refine ((readRange_any l _ (g.up upI) hs).cast V3.out).mono ?_; rintro e w' ⟨rfl, x, rfl⟩)
    | (go_at_call 20; refine (rangeText_00 _ (g.up upI)).mono ?_; rintro e w' ⟨rfl, x, rfl⟩)
    | (go_at_call 26; refine ((readKey_any l _ (g.up upI) hs).cast V4.out).mono ?_; rintro e w' ⟨rfl, x, rfl⟩)
    | (go_at_call 27; refine (keyText_any _ _ _ _ _ _ (g.up upI) kp.1 kp.2 ksp.1 ksp.2 kdp.1 kdp.2).mono ?_; rintro e w' ⟨rfl, x, rfl⟩))
  go_ret
  exact ⟨rfl, mkI⟩
set_option maxHeartbeats 8000000 in
set_option maxRecDepth 100000 in
theorem reads_none (l : List UInt8) (w : World) (g : Good w) (hs : l.length < 4294967281) (h1 : readL l = none) (h2 : readPrefixL l = none) (h3 : readRangeL l = none) (h4 : kText l ≠ l) : Gives Tryd.prog 8 #[.string ⟨l.toArray⟩] w (.bool true) := by
  have V1 : Hid (readV l = .tuple #[.int .u32 0, .int .i64 30]) := Lib.hid (by unfold readV; rw [h1])
  have V2 : Hid (readPrefixV l = .tuple #[.agg #[.int .u32 0, .int .u8 0], .int .i64 30]) := Lib.hid (by unfold readPrefixV; rw [h2])
  have V3 : Hid (readRangeV l = .tuple #[.agg #[.int .u16 0, .int .u16 0], .int .i64 30]) := Lib.hid (by unfold readRangeV; rw [h3])
  obtain ⟨kp, ks, kd, ksp, kdp⟩ := key_bounds l
  have V4 : Hid (readKeyV l = .tuple #[.agg #[.int .u8 0, .int .u32 0, .int .u32 0, .int .u16 0, .int .u16 0], .int .i64 30]) := Lib.hid (by unfold readKeyV; rw [if_neg h4])
  clear h1 h2 h3 h4
  unfold Gives
  go_enter Tryd.func8, Tryd.ntmps8
  go_wp2_with (first
    | (go_at_call 10; refine (awake_any _ (g.up upI)).mono ?_; rintro e w' ⟨rfl, x, rfl⟩)
    | (go_at_call 23; refine ((read_any l _ (g.up upI) hs).cast V1.out).mono ?_; rintro e w' ⟨rfl, x, rfl⟩)
    | (go_at_call 24; refine (text_any _ _ (g.up upI)).mono ?_; rintro e w' ⟨rfl, x, rfl⟩)
    | (go_at_call 25; refine ((readPrefix_any l _ (g.up upI) hs).cast V2.out).mono ?_; rintro e w' ⟨rfl, x, rfl⟩)
    | (go_at_call 19; refine (prefixText_00 _ (g.up upI)).mono ?_; rintro e w' ⟨rfl, x, rfl⟩)
    | (go_at_call 28; refine ((readRange_any l _ (g.up upI) hs).cast V3.out).mono ?_; rintro e w' ⟨rfl, x, rfl⟩)
    | (go_at_call 20; refine (rangeText_00 _ (g.up upI)).mono ?_; rintro e w' ⟨rfl, x, rfl⟩)
    | (go_at_call 26; refine ((readKey_any l _ (g.up upI) hs).cast V4.out).mono ?_; rintro e w' ⟨rfl, x, rfl⟩)
    | (go_at_call 27; refine (keyText_any _ _ _ _ _ _ (g.up upI) kp.1 kp.2 ksp.1 ksp.2 kdp.1 kdp.2).mono ?_; rintro e w' ⟨rfl, x, rfl⟩))
  go_ret
  exact ⟨rfl, mkI⟩
theorem reads_any (l : List UInt8) (w : World) (g : Good w) (hs : l.length < 4294967281) : Gives Tryd.prog 8 #[.string ⟨l.toArray⟩] w (.bool true) := by
  rcases kind l with ⟨a, h1, h2, h3, h4⟩ | ⟨a, n, h1, h2, h3, h4⟩ | ⟨p, q, h1, h2, h3, h4⟩ | ⟨h1, h2, h3, h4⟩ | ⟨h1, h2, h3, h4⟩
  · exact reads_addr l w g hs a h1 h2 h3 h4
  · exact reads_pref l w g hs a n h2 h1 h3 h4
  · exact reads_range l w g hs p q h3 h1 h2 h4
  · exact reads_key l w g hs h4 h1 h2 h3
  · exact reads_none l w g hs h1 h2 h3 h4
end Go.Proofs.YtbcdeeiddpcdeaaDoor
