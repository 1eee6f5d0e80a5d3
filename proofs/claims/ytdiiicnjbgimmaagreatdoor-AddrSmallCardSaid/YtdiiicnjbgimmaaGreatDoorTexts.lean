/- texts, the inner function of AddrTexts, returns true for any string, any range and port, any two keys. -/
import Derived.Test.YtdiiicnjbgimmaaGreatDoorRef7
import Derived.Test.YtdiiicnjbgimmaaGreatDoorNumbers
namespace Go.Ab
open Go.Proofs.YtdiiicnjbgimmaaGreatDoor
def pvA (l : List UInt8) : Int := ((readPrefixL l).map (·.1)).getD 0
def pvN (l : List UInt8) : Int := ((readPrefixL l).map (·.2)).getD 0
def pvE (l : List UInt8) : Int := if (readPrefixL l).isSome then 0 else 30
theorem pv_eq (l : List UInt8) : readPrefixV l = .tuple #[.agg #[.int .u32 (pvA l), .int .u8 (pvN l)], .int .i64 (pvE l)] := by
  unfold readPrefixV pvA pvN pvE; cases readPrefixL l <;> rfl
def rvA (l : List UInt8) : Int := ((readRangeL l).map (·.1)).getD 0
def rvB (l : List UInt8) : Int := ((readRangeL l).map (·.2)).getD 0
def rvE (l : List UInt8) : Int := if (readRangeL l).isSome then 0 else 30
theorem rv_eq (l : List UInt8) : readRangeV l = .tuple #[.agg #[.int .u16 (rvA l), .int .u16 (rvB l)], .int .i64 (rvE l)] := by
  unfold readRangeV rvA rvB rvE; cases readRangeL l <;> rfl
def kv (b : Bool) (n : Int) : Int := if b then n else 0
def kvE (b : Bool) : Int := if b then 0 else 30
theorem kv_eq (l : List UInt8) : readKeyV l = .tuple #[.agg #[.int .u8 (kv (kText l == l) (kPr l)), .int .u32 (kv (kText l == l) (kS l)), .int .u32 (kv (kText l == l) (kD l)), .int .u16 (kv (kText l == l) (kSp l)), .int .u16 (kv (kText l == l) (kDp l))], .int .i64 (kvE (kText l == l))] := by
  unfold readKeyV kv kvE
  by_cases h : kText l = l
  · have h' : (kText l == l) = true := by simpa using h
    rw [if_pos h, h']; rfl
  · have h' : (kText l == l) = false := by simpa using h
    rw [if_neg h, h']; rfl
def rtS (p q : Int) : List UInt8 := if p ≤ q then rangeTextL p q else []
def rtE (p q : Int) : Int := if p ≤ q then 0 else 32
end Go.Ab
namespace Go.Proofs.YtdiiicnjbgimmaaGreatDoor
open Go.RowKit Go.Ab
attribute [local go_sem high] eq_prefix eq_key eq_range
theorem rt_any (p q : Int) (w : World) (g : Good w) (p0 : 0 ≤ p) (p1 : p < 65536) (q0 : 0 ≤ q) (q1 : q < 65536) : Gives Tryz.prog 35 #[.agg #[.int .u16 p, .int .u16 q]] w (.tuple #[.string ⟨(rtS p q).toArray⟩, .int .i64 (rtE p q)]) :=
  (rangeText_any p q w g p0 p1 q0 q1).cast (by unfold rtS rtE; split <;> rfl)
theorem refRt_any (p q : Int) (w : World) (p0 : 0 ≤ p) (p1 : p < 65536) (q0 : 0 ≤ q) (q1 : q < 65536) : Gives Tryz.prog 36 #[.agg #[.int .u16 p, .int .u16 q]] w (.tuple #[.string ⟨(rtS p q).toArray⟩, .int .i64 (rtE p q)]) :=
  (refRangeText_any p q w p0 p1 q0 q1).cast (by unfold rtS rtE; split <;> rfl)
set_option maxHeartbeats 16000000 in
set_option maxRecDepth 100000 in
theorem texts_le_in (l : List UInt8) (p q x e1 s1 d1 sp1 dp1 e2 s2 d2 sp2 dp2 : Int) (w : World) (g : Good w) (hl : l.length < 4294967281) (p0 : 0 ≤ p) (p1 : p < 65536) (q0 : 0 ≤ q) (q1 : q < 65536) (x0 : 0 ≤ x) (x1 : x < 65536) (k1 : KeyB e1 s1 d1 sp1 dp1) (k2 : KeyB e2 s2 d2 sp2 dp2) (ha : p ≤ q) (hb : p ≤ x) (hc : x ≤ q) :
    Gives Tryz.prog 5 #[.string ⟨l.toArray⟩, .agg #[.int .u16 p, .int .u16 q], .int .u16 x, .agg #[.int .u8 e1, .int .u32 s1, .int .u32 d1, .int .u16 sp1, .int .u16 dp1], .agg #[.int .u8 e2, .int .u32 s2, .int .u32 d2, .int .u16 sp2, .int .u16 dp2]] w (.bool true) := by
  have h1 := fun w g => (read_any l w g hl).cast (readV_eq l)
  have h2 := fun w => (refRead_any l w hl).cast (readV_eq l)
  have h3 := fun w g => (readPrefix_any l w g hl).cast (pv_eq l)
  have h4 := fun w => (refReadPrefix_any l w hl (fun a n w n0 n1 a0 a1 => refRight_any a n w n0 n1 a0 a1)).cast (pv_eq l)
  have h5 := fun w g => (readRange_any l w g hl).cast (rv_eq l)
  have h6 := fun w => (refReadRange_any l w hl).cast (rv_eq l)
  have h7 := fun w g => (readKey_any l w g hl).cast (kv_eq l)
  have h8 := fun w => (refReadKey_any l w hl).cast (kv_eq l)
  have h9 : ∀ w, Good w → Gives Tryz.prog 35 #[.agg #[.int .u16 p, .int .u16 q]] w (.tuple #[.string ⟨(rtS p q).toArray⟩, .int .i64 0]) := fun w g => (rt_any p q w g p0 p1 q0 q1).cast (by unfold rtE; rw [if_pos ha])
  have h10 : ∀ w, Gives Tryz.prog 36 #[.agg #[.int .u16 p, .int .u16 q]] w (.tuple #[.string ⟨(rtS p q).toArray⟩, .int .i64 0]) := fun w => (refRt_any p q w p0 p1 q0 q1).cast (by unfold rtE; rw [if_pos ha])
  have h11 : ∀ w, Gives Tryz.prog 37 #[.agg #[.int .u16 p, .int .u16 q]] w (.bool true) := fun w => (rightRange_any p q w).cast (by rw [decide_eq_true ha])
  have h12 : ∀ w, Gives Tryz.prog 38 #[.agg #[.int .u16 p, .int .u16 q], .int .u16 x] w (.bool true) := fun w => (in_any p q x w).cast (by simp [hb, hc])
  have h13 : ∀ w, Gives Tryz.prog 41 #[.agg #[.int .u8 e2, .int .u32 s2, .int .u32 d2, .int .u16 sp2, .int .u16 dp2], .agg #[.int .u8 e2, .int .u32 s2, .int .u32 d2, .int .u16 sp2, .int .u16 dp2]] w (.int .i64 0) := fun w =>
    (compare_any e2 s2 d2 sp2 dp2 e2 s2 d2 sp2 dp2 w k2.r0 k2.r1 k2.sp0 k2.sp1 k2.dp0 k2.dp1 k2.r0 k2.r1 k2.sp0 k2.sp1 k2.dp0 k2.dp1).cast (by rw [show keyCmp e2 s2 d2 sp2 dp2 e2 s2 d2 sp2 dp2 = 0 from keyCmp_eq _ _ (fun _ _ => rfl)])
  have h14 := fun w => compare_any e1 s1 d1 sp1 dp1 e2 s2 d2 sp2 dp2 w k1.r0 k1.r1 k1.sp0 k1.sp1 k1.dp0 k1.dp1 k2.r0 k2.r1 k2.sp0 k2.sp1 k2.dp0 k2.dp1
  have h15 := fun w => refCompare_any e1 s1 d1 sp1 dp1 e2 s2 d2 sp2 dp2 w k1 k2
  have c1 : decide (p ≤ x) = true := by simpa using hb
  have c2 : decide (x ≤ q) = true := by simpa using hc
  unfold Gives
  go_enter Tryz.func5, Tryz.ntmps5
  go_wp2_with (first
    | (go_at_call 27; refine (h1 _ (g.up upI)).mono ?_; rintro e w' ⟨rfl, x, rfl⟩)
    | (go_at_call 28; refine (h2 _).mono ?_; rintro e w' ⟨rfl, x, rfl⟩)
    | (go_at_call 29; refine (h3 _ (g.up upI)).mono ?_; rintro e w' ⟨rfl, x, rfl⟩)
    | (go_at_call 30; refine (h4 _).mono ?_; rintro e w' ⟨rfl, x, rfl⟩)
    | (go_at_call 31; refine (h5 _ (g.up upI)).mono ?_; rintro e w' ⟨rfl, x, rfl⟩)
    | (go_at_call 32; refine (h6 _).mono ?_; rintro e w' ⟨rfl, x, rfl⟩)
    | (go_at_call 33; refine (h7 _ (g.up upI)).mono ?_; rintro e w' ⟨rfl, x, rfl⟩)
    | (go_at_call 34; refine (h8 _).mono ?_; rintro e w' ⟨rfl, x, rfl⟩)
    | (go_at_call 35; refine (h9 _ (g.up upI)).mono ?_; rintro e w' ⟨rfl, x, rfl⟩)
    | (go_at_call 36; refine (h10 _).mono ?_; rintro e w' ⟨rfl, x, rfl⟩))
  (refine wp_region_ext (by kernel_rfl) (by kernel_rfl) ?_; (repeat (go_big_quiet_step ((first
    | (go_at_call 37; exact (h11 _).ext)
    | (go_at_call 38; exact (h12 _).ext)
    | (go_at_call 39; exact (turn_any e2 s2 d2 sp2 dp2 _).ext)
    | (go_at_call 40; exact (refTurn_any e2 s2 d2 sp2 dp2 _).ext)
    | (go_at_call 41; first | with_reducible exact (h13 _).ext | with_reducible exact (h14 _).ext)
    | (go_at_call 42; exact (h15 _).ext)
    | (go_at_call 43; exact (keyText_any e2 s2 d2 sp2 dp2 _ (g.up upI) k2.r0 k2.r1 k2.sp0 k2.sp1 k2.dp0 k2.dp1).ext)
    | (go_at_call 44; exact (refKeyText_any e2 s2 d2 sp2 dp2 _ k2).ext))))); refine wpQuiet_nil ?_; rintro _ ⟨z1, rfl⟩)
  go_wp2_with fail
  go_ret
  exact ⟨rfl, mkI⟩
set_option maxHeartbeats 16000000 in
set_option maxRecDepth 100000 in
theorem texts_le_lo (l : List UInt8) (p q x e1 s1 d1 sp1 dp1 e2 s2 d2 sp2 dp2 : Int) (w : World) (g : Good w) (hl : l.length < 4294967281) (p0 : 0 ≤ p) (p1 : p < 65536) (q0 : 0 ≤ q) (q1 : q < 65536) (x0 : 0 ≤ x) (x1 : x < 65536) (k1 : KeyB e1 s1 d1 sp1 dp1) (k2 : KeyB e2 s2 d2 sp2 dp2) (ha : p ≤ q) (hb : x < p) :
    Gives Tryz.prog 5 #[.string ⟨l.toArray⟩, .agg #[.int .u16 p, .int .u16 q], .int .u16 x, .agg #[.int .u8 e1, .int .u32 s1, .int .u32 d1, .int .u16 sp1, .int .u16 dp1], .agg #[.int .u8 e2, .int .u32 s2, .int .u32 d2, .int .u16 sp2, .int .u16 dp2]] w (.bool true) := by
  have h1 := fun w g => (read_any l w g hl).cast (readV_eq l)
  have h2 := fun w => (refRead_any l w hl).cast (readV_eq l)
  have h3 := fun w g => (readPrefix_any l w g hl).cast (pv_eq l)
  have h4 := fun w => (refReadPrefix_any l w hl (fun a n w n0 n1 a0 a1 => refRight_any a n w n0 n1 a0 a1)).cast (pv_eq l)
  have h5 := fun w g => (readRange_any l w g hl).cast (rv_eq l)
  have h6 := fun w => (refReadRange_any l w hl).cast (rv_eq l)
  have h7 := fun w g => (readKey_any l w g hl).cast (kv_eq l)
  have h8 := fun w => (refReadKey_any l w hl).cast (kv_eq l)
  have h9 : ∀ w, Good w → Gives Tryz.prog 35 #[.agg #[.int .u16 p, .int .u16 q]] w (.tuple #[.string ⟨(rtS p q).toArray⟩, .int .i64 0]) := fun w g => (rt_any p q w g p0 p1 q0 q1).cast (by unfold rtE; rw [if_pos ha])
  have h10 : ∀ w, Gives Tryz.prog 36 #[.agg #[.int .u16 p, .int .u16 q]] w (.tuple #[.string ⟨(rtS p q).toArray⟩, .int .i64 0]) := fun w => (refRt_any p q w p0 p1 q0 q1).cast (by unfold rtE; rw [if_pos ha])
  have h11 : ∀ w, Gives Tryz.prog 37 #[.agg #[.int .u16 p, .int .u16 q]] w (.bool true) := fun w => (rightRange_any p q w).cast (by rw [decide_eq_true ha])
  have h12 : ∀ w, Gives Tryz.prog 38 #[.agg #[.int .u16 p, .int .u16 q], .int .u16 x] w (.bool false) := fun w => (in_any p q x w).cast (by rw [decide_eq_false (by omega)]; rfl)
  have h13 : ∀ w, Gives Tryz.prog 41 #[.agg #[.int .u8 e2, .int .u32 s2, .int .u32 d2, .int .u16 sp2, .int .u16 dp2], .agg #[.int .u8 e2, .int .u32 s2, .int .u32 d2, .int .u16 sp2, .int .u16 dp2]] w (.int .i64 0) := fun w =>
    (compare_any e2 s2 d2 sp2 dp2 e2 s2 d2 sp2 dp2 w k2.r0 k2.r1 k2.sp0 k2.sp1 k2.dp0 k2.dp1 k2.r0 k2.r1 k2.sp0 k2.sp1 k2.dp0 k2.dp1).cast (by rw [show keyCmp e2 s2 d2 sp2 dp2 e2 s2 d2 sp2 dp2 = 0 from keyCmp_eq _ _ (fun _ _ => rfl)])
  have h14 := fun w => compare_any e1 s1 d1 sp1 dp1 e2 s2 d2 sp2 dp2 w k1.r0 k1.r1 k1.sp0 k1.sp1 k1.dp0 k1.dp1 k2.r0 k2.r1 k2.sp0 k2.sp1 k2.dp0 k2.dp1
  have h15 := fun w => refCompare_any e1 s1 d1 sp1 dp1 e2 s2 d2 sp2 dp2 w k1 k2
  have c1 : decide (p ≤ x) = false := by simp; omega
  unfold Gives
  go_enter Tryz.func5, Tryz.ntmps5
  go_wp2_with (first
    | (go_at_call 27; refine (h1 _ (g.up upI)).mono ?_; rintro e w' ⟨rfl, x, rfl⟩)
    | (go_at_call 28; refine (h2 _).mono ?_; rintro e w' ⟨rfl, x, rfl⟩)
    | (go_at_call 29; refine (h3 _ (g.up upI)).mono ?_; rintro e w' ⟨rfl, x, rfl⟩)
    | (go_at_call 30; refine (h4 _).mono ?_; rintro e w' ⟨rfl, x, rfl⟩)
    | (go_at_call 31; refine (h5 _ (g.up upI)).mono ?_; rintro e w' ⟨rfl, x, rfl⟩)
    | (go_at_call 32; refine (h6 _).mono ?_; rintro e w' ⟨rfl, x, rfl⟩)
    | (go_at_call 33; refine (h7 _ (g.up upI)).mono ?_; rintro e w' ⟨rfl, x, rfl⟩)
    | (go_at_call 34; refine (h8 _).mono ?_; rintro e w' ⟨rfl, x, rfl⟩)
    | (go_at_call 35; refine (h9 _ (g.up upI)).mono ?_; rintro e w' ⟨rfl, x, rfl⟩)
    | (go_at_call 36; refine (h10 _).mono ?_; rintro e w' ⟨rfl, x, rfl⟩))
  (refine wp_region_ext (by kernel_rfl) (by kernel_rfl) ?_; (repeat (go_big_quiet_step ((first
    | (go_at_call 37; exact (h11 _).ext)
    | (go_at_call 38; exact (h12 _).ext)
    | (go_at_call 39; exact (turn_any e2 s2 d2 sp2 dp2 _).ext)
    | (go_at_call 40; exact (refTurn_any e2 s2 d2 sp2 dp2 _).ext)
    | (go_at_call 41; first | with_reducible exact (h13 _).ext | with_reducible exact (h14 _).ext)
    | (go_at_call 42; exact (h15 _).ext)
    | (go_at_call 43; exact (keyText_any e2 s2 d2 sp2 dp2 _ (g.up upI) k2.r0 k2.r1 k2.sp0 k2.sp1 k2.dp0 k2.dp1).ext)
    | (go_at_call 44; exact (refKeyText_any e2 s2 d2 sp2 dp2 _ k2).ext))))); refine wpQuiet_nil ?_; rintro _ ⟨z1, rfl⟩)
  go_wp2_with fail
  go_ret
  exact ⟨rfl, mkI⟩
set_option maxHeartbeats 16000000 in
set_option maxRecDepth 100000 in
theorem texts_le_hi (l : List UInt8) (p q x e1 s1 d1 sp1 dp1 e2 s2 d2 sp2 dp2 : Int) (w : World) (g : Good w) (hl : l.length < 4294967281) (p0 : 0 ≤ p) (p1 : p < 65536) (q0 : 0 ≤ q) (q1 : q < 65536) (x0 : 0 ≤ x) (x1 : x < 65536) (k1 : KeyB e1 s1 d1 sp1 dp1) (k2 : KeyB e2 s2 d2 sp2 dp2) (ha : p ≤ q) (hb : p ≤ x) (hc : q < x) :
    Gives Tryz.prog 5 #[.string ⟨l.toArray⟩, .agg #[.int .u16 p, .int .u16 q], .int .u16 x, .agg #[.int .u8 e1, .int .u32 s1, .int .u32 d1, .int .u16 sp1, .int .u16 dp1], .agg #[.int .u8 e2, .int .u32 s2, .int .u32 d2, .int .u16 sp2, .int .u16 dp2]] w (.bool true) := by
  have h1 := fun w g => (read_any l w g hl).cast (readV_eq l)
  have h2 := fun w => (refRead_any l w hl).cast (readV_eq l)
  have h3 := fun w g => (readPrefix_any l w g hl).cast (pv_eq l)
  have h4 := fun w => (refReadPrefix_any l w hl (fun a n w n0 n1 a0 a1 => refRight_any a n w n0 n1 a0 a1)).cast (pv_eq l)
  have h5 := fun w g => (readRange_any l w g hl).cast (rv_eq l)
  have h6 := fun w => (refReadRange_any l w hl).cast (rv_eq l)
  have h7 := fun w g => (readKey_any l w g hl).cast (kv_eq l)
  have h8 := fun w => (refReadKey_any l w hl).cast (kv_eq l)
  have h9 : ∀ w, Good w → Gives Tryz.prog 35 #[.agg #[.int .u16 p, .int .u16 q]] w (.tuple #[.string ⟨(rtS p q).toArray⟩, .int .i64 0]) := fun w g => (rt_any p q w g p0 p1 q0 q1).cast (by unfold rtE; rw [if_pos ha])
  have h10 : ∀ w, Gives Tryz.prog 36 #[.agg #[.int .u16 p, .int .u16 q]] w (.tuple #[.string ⟨(rtS p q).toArray⟩, .int .i64 0]) := fun w => (refRt_any p q w p0 p1 q0 q1).cast (by unfold rtE; rw [if_pos ha])
  have h11 : ∀ w, Gives Tryz.prog 37 #[.agg #[.int .u16 p, .int .u16 q]] w (.bool true) := fun w => (rightRange_any p q w).cast (by rw [decide_eq_true ha])
  have h12 : ∀ w, Gives Tryz.prog 38 #[.agg #[.int .u16 p, .int .u16 q], .int .u16 x] w (.bool false) := fun w => (in_any p q x w).cast (by rw [decide_eq_true hb, decide_eq_false (by omega)]; rfl)
  have h13 : ∀ w, Gives Tryz.prog 41 #[.agg #[.int .u8 e2, .int .u32 s2, .int .u32 d2, .int .u16 sp2, .int .u16 dp2], .agg #[.int .u8 e2, .int .u32 s2, .int .u32 d2, .int .u16 sp2, .int .u16 dp2]] w (.int .i64 0) := fun w =>
    (compare_any e2 s2 d2 sp2 dp2 e2 s2 d2 sp2 dp2 w k2.r0 k2.r1 k2.sp0 k2.sp1 k2.dp0 k2.dp1 k2.r0 k2.r1 k2.sp0 k2.sp1 k2.dp0 k2.dp1).cast (by rw [show keyCmp e2 s2 d2 sp2 dp2 e2 s2 d2 sp2 dp2 = 0 from keyCmp_eq _ _ (fun _ _ => rfl)])
  have h14 := fun w => compare_any e1 s1 d1 sp1 dp1 e2 s2 d2 sp2 dp2 w k1.r0 k1.r1 k1.sp0 k1.sp1 k1.dp0 k1.dp1 k2.r0 k2.r1 k2.sp0 k2.sp1 k2.dp0 k2.dp1
  have h15 := fun w => refCompare_any e1 s1 d1 sp1 dp1 e2 s2 d2 sp2 dp2 w k1 k2
  have c1 : decide (p ≤ x) = true := by simpa using hb
  have c2 : decide (x ≤ q) = false := by simp; omega
  unfold Gives
  go_enter Tryz.func5, Tryz.ntmps5
  go_wp2_with (first
    | (go_at_call 27; refine (h1 _ (g.up upI)).mono ?_; rintro e w' ⟨rfl, x, rfl⟩)
    | (go_at_call 28; refine (h2 _).mono ?_; rintro e w' ⟨rfl, x, rfl⟩)
    | (go_at_call 29; refine (h3 _ (g.up upI)).mono ?_; rintro e w' ⟨rfl, x, rfl⟩)
    | (go_at_call 30; refine (h4 _).mono ?_; rintro e w' ⟨rfl, x, rfl⟩)
    | (go_at_call 31; refine (h5 _ (g.up upI)).mono ?_; rintro e w' ⟨rfl, x, rfl⟩)
    | (go_at_call 32; refine (h6 _).mono ?_; rintro e w' ⟨rfl, x, rfl⟩)
    | (go_at_call 33; refine (h7 _ (g.up upI)).mono ?_; rintro e w' ⟨rfl, x, rfl⟩)
    | (go_at_call 34; refine (h8 _).mono ?_; rintro e w' ⟨rfl, x, rfl⟩)
    | (go_at_call 35; refine (h9 _ (g.up upI)).mono ?_; rintro e w' ⟨rfl, x, rfl⟩)
    | (go_at_call 36; refine (h10 _).mono ?_; rintro e w' ⟨rfl, x, rfl⟩))
  (refine wp_region_ext (by kernel_rfl) (by kernel_rfl) ?_; (repeat (go_big_quiet_step ((first
    | (go_at_call 37; exact (h11 _).ext)
    | (go_at_call 38; exact (h12 _).ext)
    | (go_at_call 39; exact (turn_any e2 s2 d2 sp2 dp2 _).ext)
    | (go_at_call 40; exact (refTurn_any e2 s2 d2 sp2 dp2 _).ext)
    | (go_at_call 41; first | with_reducible exact (h13 _).ext | with_reducible exact (h14 _).ext)
    | (go_at_call 42; exact (h15 _).ext)
    | (go_at_call 43; exact (keyText_any e2 s2 d2 sp2 dp2 _ (g.up upI) k2.r0 k2.r1 k2.sp0 k2.sp1 k2.dp0 k2.dp1).ext)
    | (go_at_call 44; exact (refKeyText_any e2 s2 d2 sp2 dp2 _ k2).ext))))); refine wpQuiet_nil ?_; rintro _ ⟨z1, rfl⟩)
  go_wp2_with fail
  go_ret
  exact ⟨rfl, mkI⟩
set_option maxHeartbeats 16000000 in
set_option maxRecDepth 100000 in
theorem texts_gt_lo (l : List UInt8) (p q x e1 s1 d1 sp1 dp1 e2 s2 d2 sp2 dp2 : Int) (w : World) (g : Good w) (hl : l.length < 4294967281) (p0 : 0 ≤ p) (p1 : p < 65536) (q0 : 0 ≤ q) (q1 : q < 65536) (x0 : 0 ≤ x) (x1 : x < 65536) (k1 : KeyB e1 s1 d1 sp1 dp1) (k2 : KeyB e2 s2 d2 sp2 dp2) (ha : q < p) (hb : x < p) :
    Gives Tryz.prog 5 #[.string ⟨l.toArray⟩, .agg #[.int .u16 p, .int .u16 q], .int .u16 x, .agg #[.int .u8 e1, .int .u32 s1, .int .u32 d1, .int .u16 sp1, .int .u16 dp1], .agg #[.int .u8 e2, .int .u32 s2, .int .u32 d2, .int .u16 sp2, .int .u16 dp2]] w (.bool true) := by
  have h1 := fun w g => (read_any l w g hl).cast (readV_eq l)
  have h2 := fun w => (refRead_any l w hl).cast (readV_eq l)
  have h3 := fun w g => (readPrefix_any l w g hl).cast (pv_eq l)
  have h4 := fun w => (refReadPrefix_any l w hl (fun a n w n0 n1 a0 a1 => refRight_any a n w n0 n1 a0 a1)).cast (pv_eq l)
  have h5 := fun w g => (readRange_any l w g hl).cast (rv_eq l)
  have h6 := fun w => (refReadRange_any l w hl).cast (rv_eq l)
  have h7 := fun w g => (readKey_any l w g hl).cast (kv_eq l)
  have h8 := fun w => (refReadKey_any l w hl).cast (kv_eq l)
  have h9 : ∀ w, Good w → Gives Tryz.prog 35 #[.agg #[.int .u16 p, .int .u16 q]] w (.tuple #[.string ⟨(rtS p q).toArray⟩, .int .i64 32]) := fun w g => (rt_any p q w g p0 p1 q0 q1).cast (by unfold rtE; rw [if_neg (by omega)])
  have h10 : ∀ w, Gives Tryz.prog 36 #[.agg #[.int .u16 p, .int .u16 q]] w (.tuple #[.string ⟨(rtS p q).toArray⟩, .int .i64 32]) := fun w => (refRt_any p q w p0 p1 q0 q1).cast (by unfold rtE; rw [if_neg (by omega)])
  have h11 : ∀ w, Gives Tryz.prog 37 #[.agg #[.int .u16 p, .int .u16 q]] w (.bool false) := fun w => (rightRange_any p q w).cast (by rw [decide_eq_false (by omega)])
  have h12 : ∀ w, Gives Tryz.prog 38 #[.agg #[.int .u16 p, .int .u16 q], .int .u16 x] w (.bool false) := fun w => (in_any p q x w).cast (by rw [decide_eq_false (by omega)]; rfl)
  have h13 : ∀ w, Gives Tryz.prog 41 #[.agg #[.int .u8 e2, .int .u32 s2, .int .u32 d2, .int .u16 sp2, .int .u16 dp2], .agg #[.int .u8 e2, .int .u32 s2, .int .u32 d2, .int .u16 sp2, .int .u16 dp2]] w (.int .i64 0) := fun w =>
    (compare_any e2 s2 d2 sp2 dp2 e2 s2 d2 sp2 dp2 w k2.r0 k2.r1 k2.sp0 k2.sp1 k2.dp0 k2.dp1 k2.r0 k2.r1 k2.sp0 k2.sp1 k2.dp0 k2.dp1).cast (by rw [show keyCmp e2 s2 d2 sp2 dp2 e2 s2 d2 sp2 dp2 = 0 from keyCmp_eq _ _ (fun _ _ => rfl)])
  have h14 := fun w => compare_any e1 s1 d1 sp1 dp1 e2 s2 d2 sp2 dp2 w k1.r0 k1.r1 k1.sp0 k1.sp1 k1.dp0 k1.dp1 k2.r0 k2.r1 k2.sp0 k2.sp1 k2.dp0 k2.dp1
  have h15 := fun w => refCompare_any e1 s1 d1 sp1 dp1 e2 s2 d2 sp2 dp2 w k1 k2
  have c1 : decide (p ≤ x) = false := by simp; omega
  unfold Gives
  go_enter Tryz.func5, Tryz.ntmps5
  go_wp2_with (first
    | (go_at_call 27; refine (h1 _ (g.up upI)).mono ?_; rintro e w' ⟨rfl, x, rfl⟩)
    | (go_at_call 28; refine (h2 _).mono ?_; rintro e w' ⟨rfl, x, rfl⟩)
    | (go_at_call 29; refine (h3 _ (g.up upI)).mono ?_; rintro e w' ⟨rfl, x, rfl⟩)
    | (go_at_call 30; refine (h4 _).mono ?_; rintro e w' ⟨rfl, x, rfl⟩)
    | (go_at_call 31; refine (h5 _ (g.up upI)).mono ?_; rintro e w' ⟨rfl, x, rfl⟩)
    | (go_at_call 32; refine (h6 _).mono ?_; rintro e w' ⟨rfl, x, rfl⟩)
    | (go_at_call 33; refine (h7 _ (g.up upI)).mono ?_; rintro e w' ⟨rfl, x, rfl⟩)
    | (go_at_call 34; refine (h8 _).mono ?_; rintro e w' ⟨rfl, x, rfl⟩)
    | (go_at_call 35; refine (h9 _ (g.up upI)).mono ?_; rintro e w' ⟨rfl, x, rfl⟩)
    | (go_at_call 36; refine (h10 _).mono ?_; rintro e w' ⟨rfl, x, rfl⟩))
  (refine wp_region_ext (by kernel_rfl) (by kernel_rfl) ?_; (repeat (go_big_quiet_step ((first
    | (go_at_call 37; exact (h11 _).ext)
    | (go_at_call 38; exact (h12 _).ext)
    | (go_at_call 39; exact (turn_any e2 s2 d2 sp2 dp2 _).ext)
    | (go_at_call 40; exact (refTurn_any e2 s2 d2 sp2 dp2 _).ext)
    | (go_at_call 41; first | with_reducible exact (h13 _).ext | with_reducible exact (h14 _).ext)
    | (go_at_call 42; exact (h15 _).ext)
    | (go_at_call 43; exact (keyText_any e2 s2 d2 sp2 dp2 _ (g.up upI) k2.r0 k2.r1 k2.sp0 k2.sp1 k2.dp0 k2.dp1).ext)
    | (go_at_call 44; exact (refKeyText_any e2 s2 d2 sp2 dp2 _ k2).ext))))); refine wpQuiet_nil ?_; rintro _ ⟨z1, rfl⟩)
  go_wp2_with fail
  go_ret
  exact ⟨rfl, mkI⟩
set_option maxHeartbeats 16000000 in
set_option maxRecDepth 100000 in
theorem texts_gt_hi (l : List UInt8) (p q x e1 s1 d1 sp1 dp1 e2 s2 d2 sp2 dp2 : Int) (w : World) (g : Good w) (hl : l.length < 4294967281) (p0 : 0 ≤ p) (p1 : p < 65536) (q0 : 0 ≤ q) (q1 : q < 65536) (x0 : 0 ≤ x) (x1 : x < 65536) (k1 : KeyB e1 s1 d1 sp1 dp1) (k2 : KeyB e2 s2 d2 sp2 dp2) (ha : q < p) (hb : p ≤ x) (hc : q < x) :
    Gives Tryz.prog 5 #[.string ⟨l.toArray⟩, .agg #[.int .u16 p, .int .u16 q], .int .u16 x, .agg #[.int .u8 e1, .int .u32 s1, .int .u32 d1, .int .u16 sp1, .int .u16 dp1], .agg #[.int .u8 e2, .int .u32 s2, .int .u32 d2, .int .u16 sp2, .int .u16 dp2]] w (.bool true) := by
  have h1 := fun w g => (read_any l w g hl).cast (readV_eq l)
  have h2 := fun w => (refRead_any l w hl).cast (readV_eq l)
  have h3 := fun w g => (readPrefix_any l w g hl).cast (pv_eq l)
  have h4 := fun w => (refReadPrefix_any l w hl (fun a n w n0 n1 a0 a1 => refRight_any a n w n0 n1 a0 a1)).cast (pv_eq l)
  have h5 := fun w g => (readRange_any l w g hl).cast (rv_eq l)
  have h6 := fun w => (refReadRange_any l w hl).cast (rv_eq l)
  have h7 := fun w g => (readKey_any l w g hl).cast (kv_eq l)
  have h8 := fun w => (refReadKey_any l w hl).cast (kv_eq l)
  have h9 : ∀ w, Good w → Gives Tryz.prog 35 #[.agg #[.int .u16 p, .int .u16 q]] w (.tuple #[.string ⟨(rtS p q).toArray⟩, .int .i64 32]) := fun w g => (rt_any p q w g p0 p1 q0 q1).cast (by unfold rtE; rw [if_neg (by omega)])
  have h10 : ∀ w, Gives Tryz.prog 36 #[.agg #[.int .u16 p, .int .u16 q]] w (.tuple #[.string ⟨(rtS p q).toArray⟩, .int .i64 32]) := fun w => (refRt_any p q w p0 p1 q0 q1).cast (by unfold rtE; rw [if_neg (by omega)])
  have h11 : ∀ w, Gives Tryz.prog 37 #[.agg #[.int .u16 p, .int .u16 q]] w (.bool false) := fun w => (rightRange_any p q w).cast (by rw [decide_eq_false (by omega)])
  have h12 : ∀ w, Gives Tryz.prog 38 #[.agg #[.int .u16 p, .int .u16 q], .int .u16 x] w (.bool false) := fun w => (in_any p q x w).cast (by rw [decide_eq_true hb, decide_eq_false (by omega)]; rfl)
  have h13 : ∀ w, Gives Tryz.prog 41 #[.agg #[.int .u8 e2, .int .u32 s2, .int .u32 d2, .int .u16 sp2, .int .u16 dp2], .agg #[.int .u8 e2, .int .u32 s2, .int .u32 d2, .int .u16 sp2, .int .u16 dp2]] w (.int .i64 0) := fun w =>
    (compare_any e2 s2 d2 sp2 dp2 e2 s2 d2 sp2 dp2 w k2.r0 k2.r1 k2.sp0 k2.sp1 k2.dp0 k2.dp1 k2.r0 k2.r1 k2.sp0 k2.sp1 k2.dp0 k2.dp1).cast (by rw [show keyCmp e2 s2 d2 sp2 dp2 e2 s2 d2 sp2 dp2 = 0 from keyCmp_eq _ _ (fun _ _ => rfl)])
  have h14 := fun w => compare_any e1 s1 d1 sp1 dp1 e2 s2 d2 sp2 dp2 w k1.r0 k1.r1 k1.sp0 k1.sp1 k1.dp0 k1.dp1 k2.r0 k2.r1 k2.sp0 k2.sp1 k2.dp0 k2.dp1
  have h15 := fun w => refCompare_any e1 s1 d1 sp1 dp1 e2 s2 d2 sp2 dp2 w k1 k2
  have c1 : decide (p ≤ x) = true := by simpa using hb
  have c2 : decide (x ≤ q) = false := by simp; omega
  unfold Gives
  go_enter Tryz.func5, Tryz.ntmps5
  go_wp2_with (first
    | (go_at_call 27; refine (h1 _ (g.up upI)).mono ?_; rintro e w' ⟨rfl, x, rfl⟩)
    | (go_at_call 28; refine (h2 _).mono ?_; rintro e w' ⟨rfl, x, rfl⟩)
    | (go_at_call 29; refine (h3 _ (g.up upI)).mono ?_; rintro e w' ⟨rfl, x, rfl⟩)
    | (go_at_call 30; refine (h4 _).mono ?_; rintro e w' ⟨rfl, x, rfl⟩)
    | (go_at_call 31; refine (h5 _ (g.up upI)).mono ?_; rintro e w' ⟨rfl, x, rfl⟩)
    | (go_at_call 32; refine (h6 _).mono ?_; rintro e w' ⟨rfl, x, rfl⟩)
    | (go_at_call 33; refine (h7 _ (g.up upI)).mono ?_; rintro e w' ⟨rfl, x, rfl⟩)
    | (go_at_call 34; refine (h8 _).mono ?_; rintro e w' ⟨rfl, x, rfl⟩)
    | (go_at_call 35; refine (h9 _ (g.up upI)).mono ?_; rintro e w' ⟨rfl, x, rfl⟩)
    | (go_at_call 36; refine (h10 _).mono ?_; rintro e w' ⟨rfl, x, rfl⟩))
  (refine wp_region_ext (by kernel_rfl) (by kernel_rfl) ?_; (repeat (go_big_quiet_step ((first
    | (go_at_call 37; exact (h11 _).ext)
    | (go_at_call 38; exact (h12 _).ext)
    | (go_at_call 39; exact (turn_any e2 s2 d2 sp2 dp2 _).ext)
    | (go_at_call 40; exact (refTurn_any e2 s2 d2 sp2 dp2 _).ext)
    | (go_at_call 41; first | with_reducible exact (h13 _).ext | with_reducible exact (h14 _).ext)
    | (go_at_call 42; exact (h15 _).ext)
    | (go_at_call 43; exact (keyText_any e2 s2 d2 sp2 dp2 _ (g.up upI) k2.r0 k2.r1 k2.sp0 k2.sp1 k2.dp0 k2.dp1).ext)
    | (go_at_call 44; exact (refKeyText_any e2 s2 d2 sp2 dp2 _ k2).ext))))); refine wpQuiet_nil ?_; rintro _ ⟨z1, rfl⟩)
  go_wp2_with fail
  go_ret
  exact ⟨rfl, mkI⟩
theorem texts_any (l : List UInt8) (p q x e1 s1 d1 sp1 dp1 e2 s2 d2 sp2 dp2 : Int) (w : World) (g : Good w) (hl : l.length < 4294967281) (p0 : 0 ≤ p) (p1 : p < 65536) (q0 : 0 ≤ q) (q1 : q < 65536) (x0 : 0 ≤ x) (x1 : x < 65536) (k1 : KeyB e1 s1 d1 sp1 dp1) (k2 : KeyB e2 s2 d2 sp2 dp2) :
    Gives Tryz.prog 5 #[.string ⟨l.toArray⟩, .agg #[.int .u16 p, .int .u16 q], .int .u16 x, .agg #[.int .u8 e1, .int .u32 s1, .int .u32 d1, .int .u16 sp1, .int .u16 dp1], .agg #[.int .u8 e2, .int .u32 s2, .int .u32 d2, .int .u16 sp2, .int .u16 dp2]] w (.bool true) := by
  rcases Int.lt_or_le q p with ha | ha <;> rcases Int.lt_or_le x p with hb | hb
  · exact texts_gt_lo l p q x e1 s1 d1 sp1 dp1 e2 s2 d2 sp2 dp2 w g hl p0 p1 q0 q1 x0 x1 k1 k2 ha hb
  · exact texts_gt_hi l p q x e1 s1 d1 sp1 dp1 e2 s2 d2 sp2 dp2 w g hl p0 p1 q0 q1 x0 x1 k1 k2 ha hb (by omega)
  · exact texts_le_lo l p q x e1 s1 d1 sp1 dp1 e2 s2 d2 sp2 dp2 w g hl p0 p1 q0 q1 x0 x1 k1 k2 ha hb
  · rcases Int.lt_or_le q x with hc | hc
    · exact texts_le_hi l p q x e1 s1 d1 sp1 dp1 e2 s2 d2 sp2 dp2 w g hl p0 p1 q0 q1 x0 x1 k1 k2 ha hb hc
    · exact texts_le_in l p q x e1 s1 d1 sp1 dp1 e2 s2 d2 sp2 dp2 w g hl p0 p1 q0 q1 x0 x1 k1 k2 ha hb hc
end Go.Proofs.YtdiiicnjbgimmaaGreatDoor
