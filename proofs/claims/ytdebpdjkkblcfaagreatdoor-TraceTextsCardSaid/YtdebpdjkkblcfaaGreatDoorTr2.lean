/- The text of an event. -/
import Derived.Test.YtdebpdjkkblcfaaGreatDoorTr1
import Derived.Test.YtdebpdjkkblcfaaGreatDoorAddr2
import Derived.Test.YtdebpdjkkblcfaaGreatDoorKeyB
import Derived.Deep.RegionHeld3
import Derived.Outline
namespace Go.Ab
open Go.Proofs.YtdebpdjkkblcfaaGreatDoor
def wordOf (sd : Int) : List UInt8 := if sd = 0 then [105, 110] else [111, 117, 116]
def verdictOf (r : Int) : List UInt8 := if passB r then [112, 97, 115, 115] else [100, 114, 111, 112]
def evKey (r pr s d sp dp : Int) : List UInt8 := if r < 20 then [45] else keyTextL pr s d sp dp
/-- The text of an event. -/
def evText (n sd r pr s d sp dp : Int) : List UInt8 := Lib.join [dec n, wordOf sd, verdictOf r, nameOf r, evKey r pr s d sp dp] [32]
/-- What Text returns. -/
def evTextS (n sd r pr s d sp dp : Int) : List UInt8 := if rightEv n sd r pr s d sp dp then evText n sd r pr s d sp dp else []
def evTextE (n sd r pr s d sp dp : Int) : Int := if rightEv n sd r pr s d sp dp then 0 else 2
theorem keyTextL_len (pr s d sp dp : Int) (r0 : 0 ≤ pr) (r1 : pr < 256) (sp0 : 0 ≤ sp) (sp1 : sp < 65536) (dp0 : 0 ≤ dp) (dp1 : dp < 65536) : (keyTextL pr s d sp dp).length ≤ 300 := by
  have := textL_length s; have := textL_length d
  have := dec_length pr (by omega) (by omega)
  have := dec_length sp (by omega) (by omega)
  have := dec_length dp (by omega) (by omega)
  unfold keyTextL; simp only [List.length_append, List.length_cons, List.length_nil]; omega
end Go.Ab
namespace Go.Proofs.YtdebpdjkkblcfaaGreatDoor
open Go.RowKit Go.Ab
set_option maxHeartbeats 4000000 in
set_option maxRecDepth 100000 in
theorem verdict_any (r : Int) (w : World) (g : GoodT w) (r0 : 0 ≤ r) (r1 : r < 256) : Gives Tryz.prog 41 #[.int .u8 r] w (.string ⟨(verdictOf r).toArray⟩) := by
  have h2 := g.words 2 [100, 114, 111, 112] rfl
  have h3 := g.words 3 [112, 97, 115, 115] rfl
  have hp := fun w => pass_any r w r0 r1
  unfold Gives verdictOf
  generalize passB r = b at *
  cases b
  · go_enter Tryz.func41, Tryz.ntmps41
    haveI : LtSize 0 w := ⟨cell_lt' h2⟩
    go_wp2_with (go_at_call 25; refine (hp _).mono ?_; rintro e w' ⟨rfl, x, rfl⟩)
    go_ret
    exact ⟨rfl, mkI⟩
  · go_enter Tryz.func41, Tryz.ntmps41
    haveI : LtSize 0 w := ⟨cell_lt' h2⟩
    go_wp2_with (go_at_call 25; refine (hp _).mono ?_; rintro e w' ⟨rfl, x, rfl⟩)
    go_ret
    exact ⟨rfl, mkI⟩
theorem join5 (W : World) (n : Nat) (a b c d e : List UInt8) [h : SizeIs W n] (hl : a.length + b.length + c.length + d.length + e.length ≤ 4294967296) :
    Gives Tryz.prog 40 #[.slice (some ⟨n, 0, none⟩) 5 5, .string ⟨#[32]⟩] (W.alloc (.cells #[.string ⟨a.toArray⟩, .string ⟨b.toArray⟩, .string ⟨c.toArray⟩, .string ⟨d.toArray⟩, .string ⟨e.toArray⟩] 9)) (.string ⟨(Lib.join [a, b, c, d, e] [32]).toArray⟩) := by
  obtain rfl := h.eq
  have hj : (Lib.join [a, b, c, d, e] [32]).length = a.length + b.length + c.length + d.length + e.length + 4 := by simp [Lib.join]; omega
  exact join_own (.slice (some ⟨W.heap.size, 0, none⟩) 5 5) 5 0 [⟨a.toArray⟩, ⟨b.toArray⟩, ⟨c.toArray⟩, ⟨d.toArray⟩, ⟨e.toArray⟩] ⟨#[32]⟩ _
    ⟨by simp, .inr ⟨W.heap.size, 5, _, rfl, by omega, World.alloc_heap_new _ _, by omega, by unfold maxLen; omega, by simp, by simp⟩⟩ (by omega) (by show (Lib.join [a, b, c, d, e] [32]).length ≤ _; omega)
set_option maxHeartbeats 8000000 in
set_option maxRecDepth 100000 in
theorem evText_no (n sd r pr s d sp dp : Int) (w : World) (hn : rightEv n sd r pr s d sp dp = false) (sd0 : 0 ≤ sd) (sd1 : sd < 256) (r0 : 0 ≤ r) (r1 : r < 256) :
    Gives Tryz.prog 20 #[.agg #[.int .i64 n, .int .u8 sd, .int .u8 r, .int .u8 pr, .int .u32 s, .int .u32 d, .int .u16 sp, .int .u16 dp]] w (.tuple #[.string ⟨#[]⟩, .int .i64 2]) := by
  have hr := fun w => (tright_any n sd r pr s d sp dp w sd0 sd1 r0 r1).cast (by rw [hn])
  clear hn
  unfold Gives
  go_enter Tryz.func20, Tryz.ntmps20
  go_wp2_with (go_at_call 23; refine (hr _).mono ?_; rintro e w' ⟨rfl, x, rfl⟩)
  go_ret2
  exact ⟨rfl, mkI⟩
theorem wordsL_at (sd : Int) (h0 : 0 ≤ sd) (h1 : sd ≤ 1) : wordsL[sd.toNat]? = some (wordOf sd) := by
  rcases (by omega : sd = 0 ∨ sd = 1) with rfl | rfl <;> rfl
set_option maxHeartbeats 8000000 in
set_option maxRecDepth 100000 in
theorem evText_key (n r pr s d sp dp : Int) (k : Nat) (w : World) (g : GoodT w) (hr : Hid (rightEv n k r pr s d sp dp = true)) (n0 : 0 ≤ n) (n1 : n ≤ 1099511627776) (k1 : k ≤ 1) (r0 : 20 ≤ r) (r1 : r < 30) (kb : KeyB pr s d sp dp) :
    Gives Tryz.prog 20 #[.agg #[.int .i64 n, .int .u8 k, .int .u8 r, .int .u8 pr, .int .u32 s, .int .u32 d, .int .u16 sp, .int .u16 dp]] w (.tuple #[.string ⟨(Lib.join [dec n, wordOf k, verdictOf r, nameOf r, keyTextL pr s d sp dp] [32]).toArray⟩, .int .i64 0]) := by
  have hrt : ∀ w, Gives Tryz.prog 23 #[.agg #[.int .i64 n, .int .u8 k, .int .u8 r, .int .u8 pr, .int .u32 s, .int .u32 d, .int .u16 sp, .int .u16 dp]] w (.bool true) := fun w => (tright_any n k r pr s d sp dp w (by omega) (by omega) (by omega) (by omega)).cast (by rw [hr.out])
  have hnm : ∀ w, GoodN w → Gives Tryz.prog 38 #[.int .u8 r] w (.tuple #[.string ⟨(nameOf r).toArray⟩, .int .i64 0]) := fun w g => (name_any r w g (by omega) (by omega)).cast (by unfold nameE; rw [if_pos (by omega)])
  have hw : w.cell? ⟨0, k, none⟩ = some (.string ⟨(wordOf k).toArray⟩) := g.words k _ (by have := wordsL_at k (by omega) (by omega); simpa using this)
  have l1 := dec_length n (by omega) (by omega)
  have l2 : (wordOf k).length ≤ 3 := by unfold wordOf; split <;> simp
  have l3 : (verdictOf r).length ≤ 4 := by unfold verdictOf; split <;> simp
  have l4 : (nameOf r).length ≤ 8 := by
    unfold nameOf; rw [if_pos (by omega)]
    obtain ⟨t, ht⟩ := names_at r.toNat (by omega)
    rw [ht]; exact names_short _ _ ht
  have l5 := keyTextL_len pr s d sp dp kb.r0 kb.r1 kb.sp0 kb.sp1 kb.dp0 kb.dp1
  have L := Lib.hid (show (dec n).length + (wordOf k).length + (verdictOf r).length + (nameOf r).length + (keyTextL pr s d sp dp).length ≤ 4294967296 by omega)
  clear l1 l2 l3 l4 l5 hr
  haveI : LtSize 0 w := ⟨cell_lt' hw⟩
  have k0 : (0 : Int) ≤ (k : Int) := by omega
  have k2 : (k : Int) < 4 := by omega
  unfold Gives
  go_enter Tryz.func20, Tryz.ntmps20
  go_wp2_with (first
    | (go_at_call 23; refine (hrt _).mono ?_; rintro e w' ⟨rfl, x, rfl⟩)
    | (go_at_call 38; refine (hnm _ (g.goodN.up upI)).mono ?_; rintro e w' ⟨rfl, x, rfl⟩)
    | (go_at_call 39; refine (keyText_any pr s d sp dp _ (g.good.up upI) kb.r0 kb.r1 kb.sp0 kb.sp1 kb.dp0 kb.dp1).mono ?_; rintro e w' ⟨rfl, x, rfl⟩))
  all_goals first | (exfalso; omega) | skip
  have f0 : x.w.cell? ⟨w.heap.size, 0, none⟩ = some (.int .i64 n) := by simp [go_sem]
  have f1 : x.w.cell? ⟨w.heap.size, 1, none⟩ = some (.int .u8 k) := by simp [go_sem]
  have f2 : x.w.cell? ⟨w.heap.size, 2, none⟩ = some (.int .u8 r) := by simp [go_sem]
  have f3 : x.w.cell? ⟨0, k, none⟩ = some (.string ⟨(wordOf k).toArray⟩) := by simp [go_sem, hw]
  have gx := g.up (upI : Up w x.w)
  have ux : UpI w x.w := inferInstance
  clear hw g
  generalize x.w = w1 at *
  go_region_held3 (fun w' => UpI w1 w' ∧ w'.cell? ⟨w.heap.size, 0, none⟩ = some (.int .i64 n) ∧ w'.cell? ⟨w.heap.size, 1, none⟩ = some (.int .u8 k) ∧ w'.cell? ⟨w.heap.size, 2, none⟩ = some (.int .u8 r) ∧ w'.cell? ⟨0, k, none⟩ = some (.string ⟨(wordOf k).toArray⟩))
    (exact ⟨inferInstance, (upI : Up w1 _).cell_some' f0, (upI : Up w1 _).cell_some' f1, (upI : Up w1 _).cell_some' f2, (upI : Up w1 _).cell_some' f3⟩)
    (first
      | (go_at_call 32; refine (itoa_any n _ (gx.good.up upI) (by omega) (by omega)).mono ?_; rintro e w' ⟨rfl, x, rfl⟩)
      | (go_at_call 41; refine (verdict_any r _ (gx.up upI) (by omega) (by omega)).mono ?_; rintro e w' ⟨rfl, x, rfl⟩)
      | (go_at_call 40; refine (join5 _ _ (dec n) (wordOf k) (verdictOf r) (nameOf r) (keyTextL pr s d sp dp) L.out).mono ?_; rintro e w' ⟨rfl, x, rfl⟩))
  all_goals (go_wp2_with fail; go_ret2; exact ⟨rfl, mkI⟩)
set_option maxHeartbeats 8000000 in
set_option maxRecDepth 100000 in
theorem evText_none (n r pr s d sp dp : Int) (k : Nat) (w : World) (g : GoodT w) (hr : Hid (rightEv n k r pr s d sp dp = true)) (n0 : 0 ≤ n) (n1 : n ≤ 1099511627776) (k1 : k ≤ 1) (r0 : 1 ≤ r) (r1 : r < 20) :
    Gives Tryz.prog 20 #[.agg #[.int .i64 n, .int .u8 k, .int .u8 r, .int .u8 pr, .int .u32 s, .int .u32 d, .int .u16 sp, .int .u16 dp]] w (.tuple #[.string ⟨(Lib.join [dec n, wordOf k, verdictOf r, nameOf r, [45]] [32]).toArray⟩, .int .i64 0]) := by
  have hrt : ∀ w, Gives Tryz.prog 23 #[.agg #[.int .i64 n, .int .u8 k, .int .u8 r, .int .u8 pr, .int .u32 s, .int .u32 d, .int .u16 sp, .int .u16 dp]] w (.bool true) := fun w => (tright_any n k r pr s d sp dp w (by omega) (by omega) (by omega) (by omega)).cast (by rw [hr.out])
  have hnm : ∀ w, GoodN w → Gives Tryz.prog 38 #[.int .u8 r] w (.tuple #[.string ⟨(nameOf r).toArray⟩, .int .i64 0]) := fun w g => (name_any r w g (by omega) (by omega)).cast (by unfold nameE; rw [if_pos (by omega)])
  have hw : w.cell? ⟨0, k, none⟩ = some (.string ⟨(wordOf k).toArray⟩) := g.words k _ (by have := wordsL_at k (by omega) (by omega); simpa using this)
  have l1 := dec_length n (by omega) (by omega)
  have l2 : (wordOf k).length ≤ 3 := by unfold wordOf; split <;> simp
  have l3 : (verdictOf r).length ≤ 4 := by unfold verdictOf; split <;> simp
  have l4 : (nameOf r).length ≤ 8 := by
    unfold nameOf; rw [if_pos (by omega)]
    obtain ⟨t, ht⟩ := names_at r.toNat (by omega)
    rw [ht]; exact names_short _ _ ht
  have L := Lib.hid (show (dec n).length + (wordOf k).length + (verdictOf r).length + (nameOf r).length + ([45] : List UInt8).length ≤ 4294967296 by simp only [List.length_cons, List.length_nil]; omega)
  clear l1 l2 l3 l4 hr
  haveI : LtSize 0 w := ⟨cell_lt' hw⟩
  have k0 : (0 : Int) ≤ (k : Int) := by omega
  have k2 : (k : Int) < 4 := by omega
  unfold Gives
  go_enter Tryz.func20, Tryz.ntmps20
  go_wp2_with (first
    | (go_at_call 23; refine (hrt _).mono ?_; rintro e w' ⟨rfl, x, rfl⟩)
    | (go_at_call 38; refine (hnm _ (g.goodN.up upI)).mono ?_; rintro e w' ⟨rfl, x, rfl⟩))
  all_goals first | (exfalso; omega) | skip
  have f0 : x.w.cell? ⟨w.heap.size, 0, none⟩ = some (.int .i64 n) := by simp [go_sem]
  have f1 : x.w.cell? ⟨w.heap.size, 1, none⟩ = some (.int .u8 k) := by simp [go_sem]
  have f2 : x.w.cell? ⟨w.heap.size, 2, none⟩ = some (.int .u8 r) := by simp [go_sem]
  have f3 : x.w.cell? ⟨0, k, none⟩ = some (.string ⟨(wordOf k).toArray⟩) := by simp [go_sem, hw]
  have gx := g.up (upI : Up w x.w)
  have ux : UpI w x.w := inferInstance
  clear hw g
  generalize x.w = w1 at *
  go_region_held3 (fun w' => UpI w1 w' ∧ w'.cell? ⟨w.heap.size, 0, none⟩ = some (.int .i64 n) ∧ w'.cell? ⟨w.heap.size, 1, none⟩ = some (.int .u8 k) ∧ w'.cell? ⟨w.heap.size, 2, none⟩ = some (.int .u8 r) ∧ w'.cell? ⟨0, k, none⟩ = some (.string ⟨(wordOf k).toArray⟩))
    (exact ⟨inferInstance, (upI : Up w1 _).cell_some' f0, (upI : Up w1 _).cell_some' f1, (upI : Up w1 _).cell_some' f2, (upI : Up w1 _).cell_some' f3⟩)
    (first
      | (go_at_call 32; refine (itoa_any n _ (gx.good.up upI) (by omega) (by omega)).mono ?_; rintro e w' ⟨rfl, x, rfl⟩)
      | (go_at_call 41; refine (verdict_any r _ (gx.up upI) (by omega) (by omega)).mono ?_; rintro e w' ⟨rfl, x, rfl⟩)
      | (go_at_call 40; refine (join5 _ _ (dec n) (wordOf k) (verdictOf r) (nameOf r) [45] L.out).mono ?_; rintro e w' ⟨rfl, x, rfl⟩))
  all_goals (go_wp2_with fail; go_ret2; exact ⟨rfl, mkI⟩)
theorem tr_text (n sd r pr s d sp dp : Int) (w : World) (g : GoodT w) (sd0 : 0 ≤ sd) (sd1 : sd < 256) (r0 : 0 ≤ r) (r1 : r < 256) (kb : KeyB pr s d sp dp) :
    Gives Tryz.prog 20 #[.agg #[.int .i64 n, .int .u8 sd, .int .u8 r, .int .u8 pr, .int .u32 s, .int .u32 d, .int .u16 sp, .int .u16 dp]] w (.tuple #[.string ⟨(evTextS n sd r pr s d sp dp).toArray⟩, .int .i64 (evTextE n sd r pr s d sp dp)]) := by
  cases h : rightEv n sd r pr s d sp dp
  · exact (evText_no n sd r pr s d sp dp w h sd0 sd1 r0 r1).cast (by unfold evTextS evTextE; rw [h]; rfl)
  · have h2 := h
    unfold rightEv at h2
    simp only [Bool.and_eq_true, decide_eq_true_eq] at h2
    obtain ⟨⟨n0, n1⟩, ⟨s1, q0, q1⟩, _⟩ := h2
    obtain ⟨k, rfl⟩ := Int.eq_ofNat_of_zero_le sd0
    by_cases hr : r < 20
    · exact (evText_none n r pr s d sp dp k w g (Lib.hid h) n0 n1 (by omega) q0 hr).cast (by unfold evTextS evTextE evText evKey; rw [h, if_pos hr]; rfl)
    · exact (evText_key n r pr s d sp dp k w g (Lib.hid h) n0 n1 (by omega) (by omega) q1 kb).cast (by unfold evTextS evTextE evText evKey; rw [h, if_neg hr]; rfl)
end Go.Proofs.YtdebpdjkkblcfaaGreatDoor
