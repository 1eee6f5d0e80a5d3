/- numbers, the inner function of AddrNumbers, returns true for any two addresses, any two prefixes and any number. -/
import Derived.Test.YtdiiicnjbgimmaaGreatDoorRefCover2
import Derived.Test.YtdiiicnjbgimmaaGreatDoorAddr2
namespace Go.Ab
open Go.Proofs.YtdiiicnjbgimmaaGreatDoor
def ptS (a n : Int) : List UInt8 := if rightB a n then prefixTextL a n else []
def ptE (a n : Int) : Int := if rightB a n then 0 else 31
def bL (a n : Int) : Int := if rightB a n then a else 0
def bH (a n : Int) : Int := if rightB a n then a + (sz n - 1) else 0
end Go.Ab
namespace Go.Proofs.YtdiiicnjbgimmaaGreatDoor
open Go.RowKit Go.Ab
attribute [local go_sem high] eq_prefix eq_key eq_range
theorem pt_any (a n : Int) (w : World) (g : Good w) (h0 : 0 ≤ n) (h1 : n < 256) (a0 : 0 ≤ a) (a1 : a < 4294967296) : Gives Tryz.prog 8 #[.agg #[.int .u32 a, .int .u8 n]] w (.tuple #[.string ⟨(ptS a n).toArray⟩, .int .i64 (ptE a n)]) :=
  (prefixText_any a n w g h0 h1 a0 a1).cast (by unfold ptS ptE; cases rightB a n <;> rfl)
theorem refPt_any (a n : Int) (w : World) (h0 : 0 ≤ n) (h1 : n < 256) (a0 : 0 ≤ a) (a1 : a < 4294967296) : Gives Tryz.prog 11 #[.agg #[.int .u32 a, .int .u8 n]] w (.tuple #[.string ⟨(ptS a n).toArray⟩, .int .i64 (ptE a n)]) :=
  (refPrefixText_any a n w h0 h1 a0 a1).cast (by unfold ptS ptE; cases rightB a n <;> rfl)
theorem bd_any (a n : Int) (w : World) (h0 : 0 ≤ n) (a0 : 0 ≤ a) (a1 : a < 4294967296) : Gives Tryz.prog 9 #[.agg #[.int .u32 a, .int .u8 n]] w (.tuple #[.int .u32 (bL a n), .int .u32 (bH a n), .int .i64 (ptE a n)]) :=
  (bounds_any a n w h0 a0 a1).cast (by unfold bL bH ptE; cases rightB a n <;> rfl)
theorem refBd_any (a n : Int) (w : World) (h0 : 0 ≤ n) (h1 : n < 256) (a0 : 0 ≤ a) (a1 : a < 4294967296) : Gives Tryz.prog 12 #[.agg #[.int .u32 a, .int .u8 n]] w (.tuple #[.int .u32 (bL a n), .int .u32 (bH a n), .int .i64 (ptE a n)]) :=
  (refBounds_any a n w h0 h1 a0 a1).cast (by unfold bL bH ptE; cases rightB a n <;> rfl)
set_option maxHeartbeats 16000000 in
set_option maxRecDepth 100000 in
theorem numbers_yes_s (a b p pn q qn n : Int) (w : World) (g : Good w) (a0 : 0 ≤ a) (a1 : a < 4294967296) (b0 : 0 ≤ b) (b1 : b < 4294967296) (p0 : 0 ≤ p) (p1 : p < 4294967296) (pn0 : 0 ≤ pn) (pn1 : pn < 256) (q0 : 0 ≤ q) (q1 : q < 4294967296) (qn0 : 0 ≤ qn) (qn1 : qn < 256) (n0 : 0 ≤ n) (n1 : n < 256) (hab : a ≤ b) (hn : n ≤ 32) :
    Gives Tryz.prog 4 #[.int .u32 a, .int .u32 b, .agg #[.int .u32 p, .int .u8 pn], .agg #[.int .u32 q, .int .u8 qn], .int .u8 n] w (.bool true) := by
  obtain ⟨s0, s1⟩ := szN n n0
  have hcut := cut_any a n
  have hmask : ∀ w, Gives Tryz.prog 25 #[.int .u8 n] w (.int .u32 (4294967296 - sz n)) := fun w => mask_any n w n0
  have hsize : ∀ w, Gives Tryz.prog 26 #[.int .u8 n] w (.int .i64 (sz n)) := fun w => refSize_any n w n0 n1
  generalize sz n = s at *
  have hc := fun w => hcut w n0 hn a0 a1
  clear hcut
  have m1 := Int.mul_ediv_add_emod a s
  have m2 := Int.emod_nonneg a (show s ≠ 0 by omega)
  have m3 : 0 ≤ s * (a / s) := Int.mul_nonneg (by omega) (Int.ediv_nonneg a0 (by omega))
  have m4 := Int.ediv_nonneg a0 (show 0 ≤ s by omega)
  have m5 : a / s ≤ a := Int.ediv_le_self s a0
  have f1 : a.tdiv s = a / s := Int.tdiv_eq_ediv_of_nonneg a0
  have f2 : IntKind.i64.wrap (a / s) = a / s := IntWalk.i64_in _ (by omega)
  have f5 : IntKind.i64.wrap (4294967296 - s) = 4294967296 - s := IntWalk.i64_in _ (by omega)
  have f6 : a / s * s = a - a % s := by rw [Int.mul_comm]; omega
  have k0 : 0 ≤ a - a % s := by omega
  have k1 : a - a % s < 4294967296 := by omega
  clear m1 m2 m3
  generalize a - a % s = c at *
  have f3 : IntKind.i64.wrap c = c := IntWalk.i64_in _ (by omega)
  have f4 : IntKind.u32.wrap c = c := by rw [IntKind.wrap_u32]; omega
  have hco := fun w => cover_yes a b w a0 hab b1
  have hcr := fun w => refCover_yes a b w a0 hab b1
  have hlen := coverL_62 a b a0 hab b1
  have hpos : 0 < (coverL a b).length := by rw [coverL_step a b hab]; simp
  generalize coverL a b = L at *
  obtain ⟨N, HN⟩ : ∃ N, Hid (L.length = N) := ⟨_, Lib.hid rfl⟩
  rw [HN.out] at hlen hpos hco hcr
  unfold Gives
  go_enter Tryz.func4, Tryz.ntmps4
  go_wp2_with (first
    | (go_at_call 7; refine (hc _).mono ?_; rintro e w' ⟨rfl, x, rfl⟩)
    | (go_at_call 8; refine (pt_any p pn _ (g.up upI) pn0 pn1 p0 p1).mono ?_; rintro e w' ⟨rfl, x, rfl⟩)
    | (go_at_call 9; refine (bd_any p pn _ pn0 p0 p1).mono ?_; rintro e w' ⟨rfl, x, rfl⟩))
  refine (hco _).mono ?_
  rintro e w' ⟨v1, rfl, o1, y1, rfl⟩
  obtain ⟨g1, c1, rfl, hg1, hl1, hc1, hcells1⟩ := owns_cells o1 hpos
  haveI : LtSize g1 y1.w := ⟨hl1⟩
  have HC1 := Lib.hid hcells1
  have HL1 := Lib.hid hl1
  clear o1 hg1 hl1 hc1 hcells1
  go_wp2_with (first
    | (go_at_call 11; refine (refPt_any p pn _ pn0 pn1 p0 p1).mono ?_; rintro e w' ⟨rfl, x, rfl⟩)
    | (go_at_call 12; refine (refBd_any p pn _ pn0 pn1 p0 p1).mono ?_; rintro e w' ⟨rfl, x, rfl⟩))
  refine (hcr _).mono ?_
  rintro e w' ⟨v2, rfl, o2, y2, rfl⟩
  obtain ⟨g2, c2, rfl, hg2, hl2, hc2, hcells2⟩ := owns_cells o2 hpos
  haveI : LtSize g2 y2.w := ⟨hl2⟩
  have HC2 := Lib.hid hcells2
  have UP2 : UpI y1.w y2.w := inferInstance
  clear o2 hg2 hl2 hc2 hcells2
  have hsame : ∀ W, Up y2.w W → Gives Tryz.prog 18 #[.slice (some ⟨g1, 0, none⟩) N c1, .slice (some ⟨g2, 0, none⟩) N c2] W (.bool true) := fun W hW =>
    same_rows L N g1 g2 c1 c2 W HN.out (by omega) (hW.lt (UP2.up.lt HL1.out)) (hW.lt ‹LtSize g2 y2.w›.lt) (fun j u hu => hW.cell_some' (UP2.up.cell_some' (HC1.out j u hu))) (fun j u hu => hW.cell_some' (HC2.out j u hu))
  go_wp2_with fail
  (refine wp_region_ext (by kernel_rfl) (by kernel_rfl) ?_; (repeat (go_big_quiet_step ((first
    | (go_at_call 14; exact (text_any a _ (g.up upI)).ext)
    | (go_at_call 15; exact (refText_any a _ a0 a1).ext)
    | (go_at_call 16; exact (right_any p pn _ pn0 p0 p1).ext)
    | (go_at_call 17; exact (refRight_any p pn _ pn0 pn1 p0 p1).ext)
    | (go_at_call 18; exact (hsame _ upI).ext))))); refine wpQuiet_nil ?_; rintro _ ⟨z1, rfl⟩)
  go_wp2_with fail
  (refine wp_region_ext (by kernel_rfl) (by kernel_rfl) ?_; (repeat (go_big_quiet_step ((first
    | (go_at_call 19; exact (has_any p pn a _ pn0 p0 p1 a0 a1).ext)
    | (go_at_call 20; exact (refHas_any p pn a _ pn0 pn1 p0 p1 a0 a1).ext)
    | (go_at_call 21; exact (inside_any p pn q qn _ pn0 p0 p1 qn0 q0 q1).ext)
    | (go_at_call 22; exact (refInside_any p pn q qn _ pn0 pn1 p0 p1 qn0 qn1 q0 q1).ext)
    | (go_at_call 23; exact (meet_any p pn q qn _ pn0 p0 p1 qn0 q0 q1).ext)
    | (go_at_call 24; exact (refMeet_any p pn q qn _ pn0 pn1 p0 p1 qn0 qn1 q0 q1).ext))))); refine wpQuiet_nil ?_; rintro _ ⟨z2, rfl⟩)
  go_wp2_with (go_at_call 26; refine (hsize _).mono ?_; rintro e w' ⟨rfl, x, rfl⟩)
  (refine wp_region_ext (by kernel_rfl) (by kernel_rfl) ?_; (repeat (go_big_quiet_step ((go_at_call 25; exact (hmask _).ext)))); refine wpQuiet_nil ?_; rintro _ ⟨z3, rfl⟩)
  go_wp2_with fail
  go_ret
  exact ⟨rfl, mkI⟩
set_option maxHeartbeats 16000000 in
set_option maxRecDepth 100000 in
theorem numbers_yes_l (a b p pn q qn n : Int) (w : World) (g : Good w) (a0 : 0 ≤ a) (a1 : a < 4294967296) (b0 : 0 ≤ b) (b1 : b < 4294967296) (p0 : 0 ≤ p) (p1 : p < 4294967296) (pn0 : 0 ≤ pn) (pn1 : pn < 256) (q0 : 0 ≤ q) (q1 : q < 4294967296) (qn0 : 0 ≤ qn) (qn1 : qn < 256) (n0 : 0 ≤ n) (n1 : n < 256) (hab : a ≤ b) (hn : 32 < n) :
    Gives Tryz.prog 4 #[.int .u32 a, .int .u32 b, .agg #[.int .u32 p, .int .u8 pn], .agg #[.int .u32 q, .int .u8 qn], .int .u8 n] w (.bool true) := by
  have hc := fun w => cut_wrong a n w hn
  have hmask : ∀ w, Gives Tryz.prog 25 #[.int .u8 n] w (.int .u32 4294967295) := fun w => (mask_any n w n0).cast (by unfold maskI; rw [sz_big n (by omega)]; rfl)
  have hco := fun w => cover_yes a b w a0 hab b1
  have hcr := fun w => refCover_yes a b w a0 hab b1
  have hlen := coverL_62 a b a0 hab b1
  have hpos : 0 < (coverL a b).length := by rw [coverL_step a b hab]; simp
  generalize coverL a b = L at *
  obtain ⟨N, HN⟩ : ∃ N, Hid (L.length = N) := ⟨_, Lib.hid rfl⟩
  rw [HN.out] at hlen hpos hco hcr
  unfold Gives
  go_enter Tryz.func4, Tryz.ntmps4
  go_wp2_with (first
    | (go_at_call 7; refine (hc _).mono ?_; rintro e w' ⟨rfl, x, rfl⟩)
    | (go_at_call 8; refine (pt_any p pn _ (g.up upI) pn0 pn1 p0 p1).mono ?_; rintro e w' ⟨rfl, x, rfl⟩)
    | (go_at_call 9; refine (bd_any p pn _ pn0 p0 p1).mono ?_; rintro e w' ⟨rfl, x, rfl⟩))
  refine (hco _).mono ?_
  rintro e w' ⟨v1, rfl, o1, y1, rfl⟩
  obtain ⟨g1, c1, rfl, hg1, hl1, hc1, hcells1⟩ := owns_cells o1 hpos
  haveI : LtSize g1 y1.w := ⟨hl1⟩
  have HC1 := Lib.hid hcells1
  have HL1 := Lib.hid hl1
  clear o1 hg1 hl1 hc1 hcells1
  go_wp2_with (first
    | (go_at_call 11; refine (refPt_any p pn _ pn0 pn1 p0 p1).mono ?_; rintro e w' ⟨rfl, x, rfl⟩)
    | (go_at_call 12; refine (refBd_any p pn _ pn0 pn1 p0 p1).mono ?_; rintro e w' ⟨rfl, x, rfl⟩))
  refine (hcr _).mono ?_
  rintro e w' ⟨v2, rfl, o2, y2, rfl⟩
  obtain ⟨g2, c2, rfl, hg2, hl2, hc2, hcells2⟩ := owns_cells o2 hpos
  haveI : LtSize g2 y2.w := ⟨hl2⟩
  have HC2 := Lib.hid hcells2
  have UP2 : UpI y1.w y2.w := inferInstance
  clear o2 hg2 hl2 hc2 hcells2
  have hsame : ∀ W, Up y2.w W → Gives Tryz.prog 18 #[.slice (some ⟨g1, 0, none⟩) N c1, .slice (some ⟨g2, 0, none⟩) N c2] W (.bool true) := fun W hW =>
    same_rows L N g1 g2 c1 c2 W HN.out (by omega) (hW.lt (UP2.up.lt HL1.out)) (hW.lt ‹LtSize g2 y2.w›.lt) (fun j u hu => hW.cell_some' (UP2.up.cell_some' (HC1.out j u hu))) (fun j u hu => hW.cell_some' (HC2.out j u hu))
  go_wp2_with fail
  (refine wp_region_ext (by kernel_rfl) (by kernel_rfl) ?_; (repeat (go_big_quiet_step ((first
    | (go_at_call 14; exact (text_any a _ (g.up upI)).ext)
    | (go_at_call 15; exact (refText_any a _ a0 a1).ext)
    | (go_at_call 16; exact (right_any p pn _ pn0 p0 p1).ext)
    | (go_at_call 17; exact (refRight_any p pn _ pn0 pn1 p0 p1).ext)
    | (go_at_call 18; exact (hsame _ upI).ext))))); refine wpQuiet_nil ?_; rintro _ ⟨z1, rfl⟩)
  go_wp2_with fail
  (refine wp_region_ext (by kernel_rfl) (by kernel_rfl) ?_; (repeat (go_big_quiet_step ((first
    | (go_at_call 19; exact (has_any p pn a _ pn0 p0 p1 a0 a1).ext)
    | (go_at_call 20; exact (refHas_any p pn a _ pn0 pn1 p0 p1 a0 a1).ext)
    | (go_at_call 21; exact (inside_any p pn q qn _ pn0 p0 p1 qn0 q0 q1).ext)
    | (go_at_call 22; exact (refInside_any p pn q qn _ pn0 pn1 p0 p1 qn0 qn1 q0 q1).ext)
    | (go_at_call 23; exact (meet_any p pn q qn _ pn0 p0 p1 qn0 q0 q1).ext)
    | (go_at_call 24; exact (refMeet_any p pn q qn _ pn0 pn1 p0 p1 qn0 qn1 q0 q1).ext))))); refine wpQuiet_nil ?_; rintro _ ⟨z2, rfl⟩)
  go_wp2_with (go_at_call 25; refine (hmask _).mono ?_; rintro e w' ⟨rfl, x, rfl⟩)
  go_ret
  exact ⟨rfl, mkI⟩
set_option maxHeartbeats 16000000 in
set_option maxRecDepth 100000 in
theorem numbers_no_s (a b p pn q qn n : Int) (w : World) (g : Good w) (a0 : 0 ≤ a) (a1 : a < 4294967296) (b0 : 0 ≤ b) (b1 : b < 4294967296) (p0 : 0 ≤ p) (p1 : p < 4294967296) (pn0 : 0 ≤ pn) (pn1 : pn < 256) (q0 : 0 ≤ q) (q1 : q < 4294967296) (qn0 : 0 ≤ qn) (qn1 : qn < 256) (n0 : 0 ≤ n) (n1 : n < 256) (hab : b < a) (hn : n ≤ 32) :
    Gives Tryz.prog 4 #[.int .u32 a, .int .u32 b, .agg #[.int .u32 p, .int .u8 pn], .agg #[.int .u32 q, .int .u8 qn], .int .u8 n] w (.bool true) := by
  obtain ⟨s0, s1⟩ := szN n n0
  have hcut := cut_any a n
  have hmask : ∀ w, Gives Tryz.prog 25 #[.int .u8 n] w (.int .u32 (4294967296 - sz n)) := fun w => mask_any n w n0
  have hsize : ∀ w, Gives Tryz.prog 26 #[.int .u8 n] w (.int .i64 (sz n)) := fun w => refSize_any n w n0 n1
  generalize sz n = s at *
  have hc := fun w => hcut w n0 hn a0 a1
  clear hcut
  have m1 := Int.mul_ediv_add_emod a s
  have m2 := Int.emod_nonneg a (show s ≠ 0 by omega)
  have m3 : 0 ≤ s * (a / s) := Int.mul_nonneg (by omega) (Int.ediv_nonneg a0 (by omega))
  have m4 := Int.ediv_nonneg a0 (show 0 ≤ s by omega)
  have m5 : a / s ≤ a := Int.ediv_le_self s a0
  have f1 : a.tdiv s = a / s := Int.tdiv_eq_ediv_of_nonneg a0
  have f2 : IntKind.i64.wrap (a / s) = a / s := IntWalk.i64_in _ (by omega)
  have f5 : IntKind.i64.wrap (4294967296 - s) = 4294967296 - s := IntWalk.i64_in _ (by omega)
  have f6 : a / s * s = a - a % s := by rw [Int.mul_comm]; omega
  have k0 : 0 ≤ a - a % s := by omega
  have k1 : a - a % s < 4294967296 := by omega
  clear m1 m2 m3
  generalize a - a % s = c at *
  have f3 : IntKind.i64.wrap c = c := IntWalk.i64_in _ (by omega)
  have f4 : IntKind.u32.wrap c = c := by rw [IntKind.wrap_u32]; omega
  unfold Gives
  go_enter Tryz.func4, Tryz.ntmps4
  go_wp2_with (first
    | (go_at_call 7; refine (hc _).mono ?_; rintro e w' ⟨rfl, x, rfl⟩)
    | (go_at_call 8; refine (pt_any p pn _ (g.up upI) pn0 pn1 p0 p1).mono ?_; rintro e w' ⟨rfl, x, rfl⟩)
    | (go_at_call 9; refine (bd_any p pn _ pn0 p0 p1).mono ?_; rintro e w' ⟨rfl, x, rfl⟩))
  refine (cover_no a b _ hab).mono ?_
  rintro e w' ⟨rfl, y1, rfl⟩
  go_wp2_with (first
    | (go_at_call 11; refine (refPt_any p pn _ pn0 pn1 p0 p1).mono ?_; rintro e w' ⟨rfl, x, rfl⟩)
    | (go_at_call 12; refine (refBd_any p pn _ pn0 pn1 p0 p1).mono ?_; rintro e w' ⟨rfl, x, rfl⟩))
  refine (refCover_no a b _ hab).mono ?_
  rintro e w' ⟨rfl, y2, rfl⟩
  go_wp2_with fail
  (refine wp_region_ext (by kernel_rfl) (by kernel_rfl) ?_; (repeat (go_big_quiet_step ((first
    | (go_at_call 14; exact (text_any a _ (g.up upI)).ext)
    | (go_at_call 15; exact (refText_any a _ a0 a1).ext)
    | (go_at_call 16; exact (right_any p pn _ pn0 p0 p1).ext)
    | (go_at_call 17; exact (refRight_any p pn _ pn0 pn1 p0 p1).ext)
    | (go_at_call 18; exact (same_nil _).ext))))); refine wpQuiet_nil ?_; rintro _ ⟨z1, rfl⟩)
  go_wp2_with fail
  (refine wp_region_ext (by kernel_rfl) (by kernel_rfl) ?_; (repeat (go_big_quiet_step ((first
    | (go_at_call 19; exact (has_any p pn a _ pn0 p0 p1 a0 a1).ext)
    | (go_at_call 20; exact (refHas_any p pn a _ pn0 pn1 p0 p1 a0 a1).ext)
    | (go_at_call 21; exact (inside_any p pn q qn _ pn0 p0 p1 qn0 q0 q1).ext)
    | (go_at_call 22; exact (refInside_any p pn q qn _ pn0 pn1 p0 p1 qn0 qn1 q0 q1).ext)
    | (go_at_call 23; exact (meet_any p pn q qn _ pn0 p0 p1 qn0 q0 q1).ext)
    | (go_at_call 24; exact (refMeet_any p pn q qn _ pn0 pn1 p0 p1 qn0 qn1 q0 q1).ext))))); refine wpQuiet_nil ?_; rintro _ ⟨z2, rfl⟩)
  go_wp2_with (go_at_call 26; refine (hsize _).mono ?_; rintro e w' ⟨rfl, x, rfl⟩)
  (refine wp_region_ext (by kernel_rfl) (by kernel_rfl) ?_; (repeat (go_big_quiet_step ((go_at_call 25; exact (hmask _).ext)))); refine wpQuiet_nil ?_; rintro _ ⟨z3, rfl⟩)
  go_wp2_with fail
  go_ret
  exact ⟨rfl, mkI⟩
set_option maxHeartbeats 16000000 in
set_option maxRecDepth 100000 in
theorem numbers_no_l (a b p pn q qn n : Int) (w : World) (g : Good w) (a0 : 0 ≤ a) (a1 : a < 4294967296) (b0 : 0 ≤ b) (b1 : b < 4294967296) (p0 : 0 ≤ p) (p1 : p < 4294967296) (pn0 : 0 ≤ pn) (pn1 : pn < 256) (q0 : 0 ≤ q) (q1 : q < 4294967296) (qn0 : 0 ≤ qn) (qn1 : qn < 256) (n0 : 0 ≤ n) (n1 : n < 256) (hab : b < a) (hn : 32 < n) :
    Gives Tryz.prog 4 #[.int .u32 a, .int .u32 b, .agg #[.int .u32 p, .int .u8 pn], .agg #[.int .u32 q, .int .u8 qn], .int .u8 n] w (.bool true) := by
  have hc := fun w => cut_wrong a n w hn
  have hmask : ∀ w, Gives Tryz.prog 25 #[.int .u8 n] w (.int .u32 4294967295) := fun w => (mask_any n w n0).cast (by unfold maskI; rw [sz_big n (by omega)]; rfl)
  unfold Gives
  go_enter Tryz.func4, Tryz.ntmps4
  go_wp2_with (first
    | (go_at_call 7; refine (hc _).mono ?_; rintro e w' ⟨rfl, x, rfl⟩)
    | (go_at_call 8; refine (pt_any p pn _ (g.up upI) pn0 pn1 p0 p1).mono ?_; rintro e w' ⟨rfl, x, rfl⟩)
    | (go_at_call 9; refine (bd_any p pn _ pn0 p0 p1).mono ?_; rintro e w' ⟨rfl, x, rfl⟩))
  refine (cover_no a b _ hab).mono ?_
  rintro e w' ⟨rfl, y1, rfl⟩
  go_wp2_with (first
    | (go_at_call 11; refine (refPt_any p pn _ pn0 pn1 p0 p1).mono ?_; rintro e w' ⟨rfl, x, rfl⟩)
    | (go_at_call 12; refine (refBd_any p pn _ pn0 pn1 p0 p1).mono ?_; rintro e w' ⟨rfl, x, rfl⟩))
  refine (refCover_no a b _ hab).mono ?_
  rintro e w' ⟨rfl, y2, rfl⟩
  go_wp2_with fail
  (refine wp_region_ext (by kernel_rfl) (by kernel_rfl) ?_; (repeat (go_big_quiet_step ((first
    | (go_at_call 14; exact (text_any a _ (g.up upI)).ext)
    | (go_at_call 15; exact (refText_any a _ a0 a1).ext)
    | (go_at_call 16; exact (right_any p pn _ pn0 p0 p1).ext)
    | (go_at_call 17; exact (refRight_any p pn _ pn0 pn1 p0 p1).ext)
    | (go_at_call 18; exact (same_nil _).ext))))); refine wpQuiet_nil ?_; rintro _ ⟨z1, rfl⟩)
  go_wp2_with fail
  (refine wp_region_ext (by kernel_rfl) (by kernel_rfl) ?_; (repeat (go_big_quiet_step ((first
    | (go_at_call 19; exact (has_any p pn a _ pn0 p0 p1 a0 a1).ext)
    | (go_at_call 20; exact (refHas_any p pn a _ pn0 pn1 p0 p1 a0 a1).ext)
    | (go_at_call 21; exact (inside_any p pn q qn _ pn0 p0 p1 qn0 q0 q1).ext)
    | (go_at_call 22; exact (refInside_any p pn q qn _ pn0 pn1 p0 p1 qn0 qn1 q0 q1).ext)
    | (go_at_call 23; exact (meet_any p pn q qn _ pn0 p0 p1 qn0 q0 q1).ext)
    | (go_at_call 24; exact (refMeet_any p pn q qn _ pn0 pn1 p0 p1 qn0 qn1 q0 q1).ext))))); refine wpQuiet_nil ?_; rintro _ ⟨z2, rfl⟩)
  go_wp2_with (go_at_call 25; refine (hmask _).mono ?_; rintro e w' ⟨rfl, x, rfl⟩)
  go_ret
  exact ⟨rfl, mkI⟩
theorem numbers_any (a b p pn q qn n : Int) (w : World) (g : Good w) (a0 : 0 ≤ a) (a1 : a < 4294967296) (b0 : 0 ≤ b) (b1 : b < 4294967296) (p0 : 0 ≤ p) (p1 : p < 4294967296) (pn0 : 0 ≤ pn) (pn1 : pn < 256) (q0 : 0 ≤ q) (q1 : q < 4294967296) (qn0 : 0 ≤ qn) (qn1 : qn < 256) (n0 : 0 ≤ n) (n1 : n < 256) :
    Gives Tryz.prog 4 #[.int .u32 a, .int .u32 b, .agg #[.int .u32 p, .int .u8 pn], .agg #[.int .u32 q, .int .u8 qn], .int .u8 n] w (.bool true) := by
  rcases Int.lt_or_le b a with h | h <;> rcases Int.lt_or_le 32 n with hn | hn
  · exact numbers_no_l a b p pn q qn n w g a0 a1 b0 b1 p0 p1 pn0 pn1 q0 q1 qn0 qn1 n0 n1 h hn
  · exact numbers_no_s a b p pn q qn n w g a0 a1 b0 b1 p0 p1 pn0 pn1 q0 q1 qn0 qn1 n0 n1 h hn
  · exact numbers_yes_l a b p pn q qn n w g a0 a1 b0 b1 p0 p1 pn0 pn1 q0 q1 qn0 qn1 n0 n1 h hn
  · exact numbers_yes_s a b p pn q qn n w g a0 a1 b0 b1 p0 p1 pn0 pn1 q0 q1 qn0 qn1 n0 n1 h hn
end Go.Proofs.YtdiiicnjbgimmaaGreatDoor
