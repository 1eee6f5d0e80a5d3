/- Events read: what Read of package trace returns. -/
import Derived.Test.YtdebpdjkkblcfaaGreatDoorTr2
import Derived.Test.YtdebpdjkkblcfaaGreatDoorSplitN
import Derived.Test.YtdebpdjkkblcfaaGreatDoorKv
namespace Go.Ab
open Go.Proofs.YtdebpdjkkblcfaaGreatDoor
def rvSd (b : List UInt8) : Int := if b = [111, 117, 116] then 1 else 0
/-- Is a string, in five parts, the text of the event that its parts tell? -/
def evOk (l a b d e : List UInt8) : Bool :=
  rightEv (atoiV a) (rvSd b) (rsN d) (kv (kvB e) (kPr e)) (kv (kvB e) (kS e)) (kv (kvB e) (kD e)) (kv (kvB e) (kSp e)) (kv (kvB e) (kDp e)) &&
  (evText (atoiV a) (rvSd b) (rsN d) (kv (kvB e) (kPr e)) (kv (kvB e) (kS e)) (kv (kvB e) (kD e)) (kv (kvB e) (kSp e)) (kv (kvB e) (kDp e)) == l)
def evZero : Value := .tuple #[.agg #[.int .i64 0, .int .u8 0, .int .u8 0, .int .u8 0, .int .u32 0, .int .u32 0, .int .u16 0, .int .u16 0], .int .i64 410]
def evGot (a b d e : List UInt8) : Value :=
  .tuple #[.agg #[.int .i64 (atoiV a), .int .u8 (rvSd b), .int .u8 (rsN d), .int .u8 (kv (kvB e) (kPr e)), .int .u32 (kv (kvB e) (kS e)), .int .u32 (kv (kvB e) (kD e)), .int .u16 (kv (kvB e) (kSp e)), .int .u16 (kv (kvB e) (kDp e))], .int .i64 0]
theorem rsN_bd (s : List UInt8) : 0 ≤ rsN s ∧ rsN s < 31 := by
  unfold rsN
  split <;> omega
end Go.Ab
namespace Go.Proofs.YtdebpdjkkblcfaaGreatDoor
open Go.RowKit Go.Ab
theorem atoi_any2 (l : List UInt8) (w : World) (g : Good w) (hs : l.length ≤ 281474976710656) :
    Calls Tryz.prog 43 #[.string ⟨l.toArray⟩] w fun e w' => ∃ ev, e = .returned (.tuple #[.int .i64 (atoiV l), ev]) ∧ ∃ x : Ext w, w' = x.w := by
  cases h : atoiOk l
  · exact (atoi_bad l w g hs h).mono fun e w' ⟨N, he, hx⟩ => ⟨_, he, hx⟩
  · exact (atoi_ok l w hs h).mono fun e w' ⟨he, hx⟩ => ⟨_, he, hx⟩
set_option maxHeartbeats 4000000 in
set_option maxRecDepth 100000 in
theorem tr_read_few (l : List UInt8) (w : World) (g : GoodT w) (hs : l.length < 4294967281) (h : (parts5 l).length < 5) : Gives Tryz.prog 21 #[.string ⟨l.toArray⟩] w evZero := by
  obtain ⟨n, hn⟩ : ∃ n, (parts5 l).length = n := ⟨_, rfl⟩
  have hsp := fun w g => splitN_few l w g hs
  rw [hn] at h hsp
  unfold Gives evZero
  clear hn
  go_enter Tryz.func21, Tryz.ntmps21
  go_wp2_with (go_at_call 42; refine (hsp _ (g.good.up upI)).mono ?_; rintro e w' ⟨c, rfl, x, rfl⟩)
  all_goals first | (exfalso; omega) | skip
  refine bodyPost_ret (v := Value.tuple #[.agg #[.int .i64 0, .int .u8 0, .int .u8 0, .int .u8 0, .int .u32 0, .int .u32 0, .int .u16 0, .int .u16 0], .int .i64 410]) (by simp [results, Tryz.results21, go_sem]) rfl ⟨rfl, mkI⟩
set_option maxHeartbeats 16000000 in
set_option maxRecDepth 100000 in
theorem tr_read_five (l a b c d e : List UInt8) (w : World) (g : GoodT w) (hs : l.length < 4294967281) (h : parts5 l = [a, b, c, d, e]) (v : Value) (hv : v = if evOk l a b d e then evGot a b d e else evZero) : Gives Tryz.prog 21 #[.string ⟨l.toArray⟩] w v := by
  have hsp := fun w g => splitN_five l a b c d e w g hs h
  have hl := parts5_lens l
  rw [h] at hl
  have la := hl a (by simp); have lb := hl b (by simp); have ld := hl d (by simp); have le := hl e (by simp)
  have hw1 := g.words 1 [111, 117, 116] rfl
  have hkb := kv_bounds e
  have hrk := fun w g => (readKey_any e w g (by omega)).cast (kv_eq e)
  obtain ⟨rn0, rn1⟩ := rsN_bd d
  haveI : LtSize 0 w := ⟨cell_lt' hw1⟩
  unfold evOk evGot at hv
  have hbn := atoiV_bounds a
  generalize hk1 : kv (kvB e) (kPr e) = q1 at *
  generalize hk2 : kv (kvB e) (kS e) = q2 at *
  generalize hk3 : kv (kvB e) (kD e) = q3 at *
  generalize hk4 : kv (kvB e) (kSp e) = q4 at *
  generalize hk5 : kv (kvB e) (kDp e) = q5 at *
  generalize hk6 : kvE (kvB e) = q6 at *
  clear hk1 hk2 hk3 hk4 hk5 hk6 h hl
  by_cases hb : b = [111, 117, 116]
  · have hsd : rvSd b = 1 := if_pos hb
    have tb : (b == [111, 117, 116]) = true := by simpa using hb
    rw [hsd] at hv
    clear hsd hb
    have htx := fun w g => tr_text (atoiV a) 1 (rsN d) q1 q2 q3 q4 q5 w g (by omega) (by omega) rn0 (by omega) hkb
    cases hR : rightEv (atoiV a) 1 (rsN d) q1 q2 q3 q4 q5
    · have htx2 : ∀ w, GoodT w → Gives Tryz.prog 20 #[.agg #[.int .i64 (atoiV a), .int .u8 1, .int .u8 (rsN d), .int .u8 q1, .int .u32 q2, .int .u32 q3, .int .u16 q4, .int .u16 q5]] w (.tuple #[.string ⟨#[]⟩, .int .i64 2]) := fun w g => (htx w g).cast (by unfold evTextS evTextE; rw [hR]; rfl)
      rw [hR, Bool.false_and, if_neg (by simp)] at hv
      subst hv
      unfold Gives evZero
      clear htx hR
      go_enter Tryz.func21, Tryz.ntmps21
      go_wp2_with (first
        | (go_at_call 42; refine (hsp _ (g.good.up upI)).mono ?_; rintro e w' ⟨rfl, rfl⟩)
        | (go_at_call 43; refine (atoi_any2 a _ (g.good.up upI) (by omega)).mono ?_; rintro e w' ⟨ev, rfl, x, rfl⟩)
        | (go_at_call 44; refine (reason_any d _ (g.goodN.up upI)).mono ?_; rintro e w' ⟨rfl, x, rfl⟩)
        | (go_at_call 45; refine (hrk _ (g.good.up upI)).mono ?_; rintro e w' ⟨rfl, x, rfl⟩)
        | (go_at_call 20; refine (htx2 _ (g.up upI)).mono ?_; rintro e w' ⟨rfl, x, rfl⟩))
      (refine wp_region_ext (by kernel_rfl) (by kernel_rfl) ?_; (repeat (go_big_quiet_step (fail))); refine wpQuiet_nil ?_; rintro _ ⟨y, rfl⟩)
      go_wp2_with (first
        | (go_at_call 42; refine (hsp _ (g.good.up upI)).mono ?_; rintro e w' ⟨rfl, rfl⟩)
        | (go_at_call 43; refine (atoi_any2 a _ (g.good.up upI) (by omega)).mono ?_; rintro e w' ⟨ev, rfl, x, rfl⟩)
        | (go_at_call 44; refine (reason_any d _ (g.goodN.up upI)).mono ?_; rintro e w' ⟨rfl, x, rfl⟩)
        | (go_at_call 45; refine (hrk _ (g.good.up upI)).mono ?_; rintro e w' ⟨rfl, x, rfl⟩)
        | (go_at_call 20; refine (htx2 _ (g.up upI)).mono ?_; rintro e w' ⟨rfl, x, rfl⟩))
      all_goals first | (exfalso; omega) | skip
      refine bodyPost_ret (v := Value.tuple #[.agg #[.int .i64 0, .int .u8 0, .int .u8 0, .int .u8 0, .int .u32 0, .int .u32 0, .int .u16 0, .int .u16 0], .int .i64 410]) (by simp [results, Tryz.results21, go_sem]) rfl ⟨rfl, mkI⟩
    · have htx2 : ∀ w, GoodT w → Gives Tryz.prog 20 #[.agg #[.int .i64 (atoiV a), .int .u8 1, .int .u8 (rsN d), .int .u8 q1, .int .u32 q2, .int .u32 q3, .int .u16 q4, .int .u16 q5]] w (.tuple #[.string ⟨(evText (atoiV a) 1 (rsN d) q1 q2 q3 q4 q5).toArray⟩, .int .i64 0]) := fun w g => (htx w g).cast (by unfold evTextS evTextE; rw [hR]; rfl)
      rw [hR, Bool.true_and] at hv
      generalize evText (atoiV a) 1 (rsN d) q1 q2 q3 q4 q5 = tx at *
      cases hT : (tx == l)
      · rw [hT, if_neg (by simp)] at hv
        subst hv
        unfold Gives evZero
        clear htx hR
        go_enter Tryz.func21, Tryz.ntmps21
        go_wp2_with (first
          | (go_at_call 42; refine (hsp _ (g.good.up upI)).mono ?_; rintro e w' ⟨rfl, rfl⟩)
          | (go_at_call 43; refine (atoi_any2 a _ (g.good.up upI) (by omega)).mono ?_; rintro e w' ⟨ev, rfl, x, rfl⟩)
          | (go_at_call 44; refine (reason_any d _ (g.goodN.up upI)).mono ?_; rintro e w' ⟨rfl, x, rfl⟩)
          | (go_at_call 45; refine (hrk _ (g.good.up upI)).mono ?_; rintro e w' ⟨rfl, x, rfl⟩)
          | (go_at_call 20; refine (htx2 _ (g.up upI)).mono ?_; rintro e w' ⟨rfl, x, rfl⟩))
        (refine wp_region_ext (by kernel_rfl) (by kernel_rfl) ?_; (repeat (go_big_quiet_step (fail))); refine wpQuiet_nil ?_; rintro _ ⟨y, rfl⟩)
        go_wp2_with (first
          | (go_at_call 42; refine (hsp _ (g.good.up upI)).mono ?_; rintro e w' ⟨rfl, rfl⟩)
          | (go_at_call 43; refine (atoi_any2 a _ (g.good.up upI) (by omega)).mono ?_; rintro e w' ⟨ev, rfl, x, rfl⟩)
          | (go_at_call 44; refine (reason_any d _ (g.goodN.up upI)).mono ?_; rintro e w' ⟨rfl, x, rfl⟩)
          | (go_at_call 45; refine (hrk _ (g.good.up upI)).mono ?_; rintro e w' ⟨rfl, x, rfl⟩)
          | (go_at_call 20; refine (htx2 _ (g.up upI)).mono ?_; rintro e w' ⟨rfl, x, rfl⟩))
        all_goals first | (exfalso; omega) | skip
        refine bodyPost_ret (v := Value.tuple #[.agg #[.int .i64 0, .int .u8 0, .int .u8 0, .int .u8 0, .int .u32 0, .int .u32 0, .int .u16 0, .int .u16 0], .int .i64 410]) (by simp [results, Tryz.results21, go_sem]) rfl ⟨rfl, mkI⟩
      · rw [hT, if_pos rfl] at hv
        subst hv
        unfold Gives
        clear htx hR
        go_enter Tryz.func21, Tryz.ntmps21
        go_wp2_with (first
          | (go_at_call 42; refine (hsp _ (g.good.up upI)).mono ?_; rintro e w' ⟨rfl, rfl⟩)
          | (go_at_call 43; refine (atoi_any2 a _ (g.good.up upI) (by omega)).mono ?_; rintro e w' ⟨ev, rfl, x, rfl⟩)
          | (go_at_call 44; refine (reason_any d _ (g.goodN.up upI)).mono ?_; rintro e w' ⟨rfl, x, rfl⟩)
          | (go_at_call 45; refine (hrk _ (g.good.up upI)).mono ?_; rintro e w' ⟨rfl, x, rfl⟩)
          | (go_at_call 20; refine (htx2 _ (g.up upI)).mono ?_; rintro e w' ⟨rfl, x, rfl⟩))
        (refine wp_region_ext (by kernel_rfl) (by kernel_rfl) ?_; (repeat (go_big_quiet_step (fail))); refine wpQuiet_nil ?_; rintro _ ⟨y, rfl⟩)
        go_wp2_with (first
          | (go_at_call 42; refine (hsp _ (g.good.up upI)).mono ?_; rintro e w' ⟨rfl, rfl⟩)
          | (go_at_call 43; refine (atoi_any2 a _ (g.good.up upI) (by omega)).mono ?_; rintro e w' ⟨ev, rfl, x, rfl⟩)
          | (go_at_call 44; refine (reason_any d _ (g.goodN.up upI)).mono ?_; rintro e w' ⟨rfl, x, rfl⟩)
          | (go_at_call 45; refine (hrk _ (g.good.up upI)).mono ?_; rintro e w' ⟨rfl, x, rfl⟩)
          | (go_at_call 20; refine (htx2 _ (g.up upI)).mono ?_; rintro e w' ⟨rfl, x, rfl⟩))
        all_goals first | (exfalso; omega) | skip
        refine bodyPost_ret (v := Value.tuple #[.agg #[.int .i64 (atoiV a), .int .u8 1, .int .u8 (rsN d), .int .u8 q1, .int .u32 q2, .int .u32 q3, .int .u16 q4, .int .u16 q5], .int .i64 0]) (by simp [results, Tryz.results21, go_sem]) rfl ⟨rfl, mkI⟩
  · have hsd : rvSd b = 0 := if_neg hb
    have tb : (b == [111, 117, 116]) = false := by simpa using hb
    rw [hsd] at hv
    clear hsd hb
    have htx := fun w g => tr_text (atoiV a) 0 (rsN d) q1 q2 q3 q4 q5 w g (by omega) (by omega) rn0 (by omega) hkb
    cases hR : rightEv (atoiV a) 0 (rsN d) q1 q2 q3 q4 q5
    · have htx2 : ∀ w, GoodT w → Gives Tryz.prog 20 #[.agg #[.int .i64 (atoiV a), .int .u8 0, .int .u8 (rsN d), .int .u8 q1, .int .u32 q2, .int .u32 q3, .int .u16 q4, .int .u16 q5]] w (.tuple #[.string ⟨#[]⟩, .int .i64 2]) := fun w g => (htx w g).cast (by unfold evTextS evTextE; rw [hR]; rfl)
      rw [hR, Bool.false_and, if_neg (by simp)] at hv
      subst hv
      unfold Gives evZero
      clear htx hR
      go_enter Tryz.func21, Tryz.ntmps21
      go_wp2_with (first
        | (go_at_call 42; refine (hsp _ (g.good.up upI)).mono ?_; rintro e w' ⟨rfl, rfl⟩)
        | (go_at_call 43; refine (atoi_any2 a _ (g.good.up upI) (by omega)).mono ?_; rintro e w' ⟨ev, rfl, x, rfl⟩)
        | (go_at_call 44; refine (reason_any d _ (g.goodN.up upI)).mono ?_; rintro e w' ⟨rfl, x, rfl⟩)
        | (go_at_call 45; refine (hrk _ (g.good.up upI)).mono ?_; rintro e w' ⟨rfl, x, rfl⟩)
        | (go_at_call 20; refine (htx2 _ (g.up upI)).mono ?_; rintro e w' ⟨rfl, x, rfl⟩))
      (refine wp_region_ext (by kernel_rfl) (by kernel_rfl) ?_; (repeat (go_big_quiet_step (fail))); refine wpQuiet_nil ?_; rintro _ ⟨y, rfl⟩)
      go_wp2_with (first
        | (go_at_call 42; refine (hsp _ (g.good.up upI)).mono ?_; rintro e w' ⟨rfl, rfl⟩)
        | (go_at_call 43; refine (atoi_any2 a _ (g.good.up upI) (by omega)).mono ?_; rintro e w' ⟨ev, rfl, x, rfl⟩)
        | (go_at_call 44; refine (reason_any d _ (g.goodN.up upI)).mono ?_; rintro e w' ⟨rfl, x, rfl⟩)
        | (go_at_call 45; refine (hrk _ (g.good.up upI)).mono ?_; rintro e w' ⟨rfl, x, rfl⟩)
        | (go_at_call 20; refine (htx2 _ (g.up upI)).mono ?_; rintro e w' ⟨rfl, x, rfl⟩))
      all_goals first | (exfalso; omega) | skip
      refine bodyPost_ret (v := Value.tuple #[.agg #[.int .i64 0, .int .u8 0, .int .u8 0, .int .u8 0, .int .u32 0, .int .u32 0, .int .u16 0, .int .u16 0], .int .i64 410]) (by simp [results, Tryz.results21, go_sem]) rfl ⟨rfl, mkI⟩
    · have htx2 : ∀ w, GoodT w → Gives Tryz.prog 20 #[.agg #[.int .i64 (atoiV a), .int .u8 0, .int .u8 (rsN d), .int .u8 q1, .int .u32 q2, .int .u32 q3, .int .u16 q4, .int .u16 q5]] w (.tuple #[.string ⟨(evText (atoiV a) 0 (rsN d) q1 q2 q3 q4 q5).toArray⟩, .int .i64 0]) := fun w g => (htx w g).cast (by unfold evTextS evTextE; rw [hR]; rfl)
      rw [hR, Bool.true_and] at hv
      generalize evText (atoiV a) 0 (rsN d) q1 q2 q3 q4 q5 = tx at *
      cases hT : (tx == l)
      · rw [hT, if_neg (by simp)] at hv
        subst hv
        unfold Gives evZero
        clear htx hR
        go_enter Tryz.func21, Tryz.ntmps21
        go_wp2_with (first
          | (go_at_call 42; refine (hsp _ (g.good.up upI)).mono ?_; rintro e w' ⟨rfl, rfl⟩)
          | (go_at_call 43; refine (atoi_any2 a _ (g.good.up upI) (by omega)).mono ?_; rintro e w' ⟨ev, rfl, x, rfl⟩)
          | (go_at_call 44; refine (reason_any d _ (g.goodN.up upI)).mono ?_; rintro e w' ⟨rfl, x, rfl⟩)
          | (go_at_call 45; refine (hrk _ (g.good.up upI)).mono ?_; rintro e w' ⟨rfl, x, rfl⟩)
          | (go_at_call 20; refine (htx2 _ (g.up upI)).mono ?_; rintro e w' ⟨rfl, x, rfl⟩))
        (refine wp_region_ext (by kernel_rfl) (by kernel_rfl) ?_; (repeat (go_big_quiet_step (fail))); refine wpQuiet_nil ?_; rintro _ ⟨y, rfl⟩)
        go_wp2_with (first
          | (go_at_call 42; refine (hsp _ (g.good.up upI)).mono ?_; rintro e w' ⟨rfl, rfl⟩)
          | (go_at_call 43; refine (atoi_any2 a _ (g.good.up upI) (by omega)).mono ?_; rintro e w' ⟨ev, rfl, x, rfl⟩)
          | (go_at_call 44; refine (reason_any d _ (g.goodN.up upI)).mono ?_; rintro e w' ⟨rfl, x, rfl⟩)
          | (go_at_call 45; refine (hrk _ (g.good.up upI)).mono ?_; rintro e w' ⟨rfl, x, rfl⟩)
          | (go_at_call 20; refine (htx2 _ (g.up upI)).mono ?_; rintro e w' ⟨rfl, x, rfl⟩))
        all_goals first | (exfalso; omega) | skip
        refine bodyPost_ret (v := Value.tuple #[.agg #[.int .i64 0, .int .u8 0, .int .u8 0, .int .u8 0, .int .u32 0, .int .u32 0, .int .u16 0, .int .u16 0], .int .i64 410]) (by simp [results, Tryz.results21, go_sem]) rfl ⟨rfl, mkI⟩
      · rw [hT, if_pos rfl] at hv
        subst hv
        unfold Gives
        clear htx hR
        go_enter Tryz.func21, Tryz.ntmps21
        go_wp2_with (first
          | (go_at_call 42; refine (hsp _ (g.good.up upI)).mono ?_; rintro e w' ⟨rfl, rfl⟩)
          | (go_at_call 43; refine (atoi_any2 a _ (g.good.up upI) (by omega)).mono ?_; rintro e w' ⟨ev, rfl, x, rfl⟩)
          | (go_at_call 44; refine (reason_any d _ (g.goodN.up upI)).mono ?_; rintro e w' ⟨rfl, x, rfl⟩)
          | (go_at_call 45; refine (hrk _ (g.good.up upI)).mono ?_; rintro e w' ⟨rfl, x, rfl⟩)
          | (go_at_call 20; refine (htx2 _ (g.up upI)).mono ?_; rintro e w' ⟨rfl, x, rfl⟩))
        (refine wp_region_ext (by kernel_rfl) (by kernel_rfl) ?_; (repeat (go_big_quiet_step (fail))); refine wpQuiet_nil ?_; rintro _ ⟨y, rfl⟩)
        go_wp2_with (first
          | (go_at_call 42; refine (hsp _ (g.good.up upI)).mono ?_; rintro e w' ⟨rfl, rfl⟩)
          | (go_at_call 43; refine (atoi_any2 a _ (g.good.up upI) (by omega)).mono ?_; rintro e w' ⟨ev, rfl, x, rfl⟩)
          | (go_at_call 44; refine (reason_any d _ (g.goodN.up upI)).mono ?_; rintro e w' ⟨rfl, x, rfl⟩)
          | (go_at_call 45; refine (hrk _ (g.good.up upI)).mono ?_; rintro e w' ⟨rfl, x, rfl⟩)
          | (go_at_call 20; refine (htx2 _ (g.up upI)).mono ?_; rintro e w' ⟨rfl, x, rfl⟩))
        all_goals first | (exfalso; omega) | skip
        refine bodyPost_ret (v := Value.tuple #[.agg #[.int .i64 (atoiV a), .int .u8 0, .int .u8 (rsN d), .int .u8 q1, .int .u32 q2, .int .u32 q3, .int .u16 q4, .int .u16 q5], .int .i64 0]) (by simp [results, Tryz.results21, go_sem]) rfl ⟨rfl, mkI⟩
/-- What Read returns. -/
def readEvV (l : List UInt8) : Value := match parts5 l with | [a, b, _, d, e] => if evOk l a b d e then evGot a b d e else evZero | _ => evZero
theorem tr_read (l : List UInt8) (w : World) (g : GoodT w) (hs : l.length < 4294967281) : Gives Tryz.prog 21 #[.string ⟨l.toArray⟩] w (readEvV l) := by
  by_cases h : (parts5 l).length = 5
  · obtain ⟨a, b, c, d, e, he⟩ : ∃ a b c d e, parts5 l = [a, b, c, d, e] := by
      match parts5 l, h with
      | [a, b, c, d, e], _ => exact ⟨a, b, c, d, e, rfl⟩
    exact tr_read_five l a b c d e w g hs he _ (by unfold readEvV; rw [he])
  · have hlt : (parts5 l).length < 5 := by have := (partsC_le 32 4 l).1; unfold parts5 at *; omega
    refine (tr_read_few l w g hs hlt).cast ?_
    unfold readEvV
    split
    · rename_i he; rw [he] at h; exact absurd rfl h
    · rfl
end Go.Proofs.YtdebpdjkkblcfaaGreatDoor
