/- The walk of TraceTexts. -/
import Derived.Test.YtdebpdjkkblcfaaGreatDoorRefTr4
import Derived.Test.YtdebpdjkkblcfaaGreatDoorAwk3
namespace Go.Proofs.YtdebpdjkkblcfaaGreatDoor
open Go.RowKit Go.Ab
set_option maxHeartbeats 4000000 in
theorem eq_revent (w : World) (n1 sd1 r1 p1 s1 d1 sp1 dp1 n2 sd2 r2 p2 s2 d2 sp2 dp2 : Int) :
    (Op.equalIn 10000 37 (.agg #[.int .i64 n1, .int .u8 sd1, .int .u8 r1, .int .u8 p1, .int .u32 s1, .int .u32 d1, .int .u16 sp1, .int .u16 dp1]) (.agg #[.int .i64 n2, .int .u8 sd2, .int .u8 r2, .int .u8 p2, .int .u32 s2, .int .u32 d2, .int .u16 sp2, .int .u16 dp2])).run Tryz.prog w = .ok (evB n1 sd1 r1 p1 s1 d1 sp1 dp1 n2 sd2 r2 p2 s2 d2 sp2 dp2) w := by
  unfold evB
  cases h1 : (n1 == n2) with
  | false => simp [go_sem, h1]
  | true =>
    cases h2 : (sd1 == sd2) with
    | false => simp [go_sem, h1, h2]
    | true =>
      cases h3 : (r1 == r2) with
      | false => simp [go_sem, h1, h2, h3]
      | true =>
        cases h4 : (p1 == p2) with
        | false => simp [go_sem, h1, h2, h3, h4]
        | true =>
          cases h5 : (s1 == s2) with
          | false => simp [go_sem, h1, h2, h3, h4, h5]
          | true =>
            cases h6 : (d1 == d2) with
            | false => simp [go_sem, h1, h2, h3, h4, h5, h6]
            | true =>
              cases h7 : (sp1 == sp2) with
              | false => simp [go_sem, h1, h2, h3, h4, h5, h6, h7]
              | true => cases h8 : (dp1 == dp2) <;> simp [go_sem, h1, h2, h3, h4, h5, h6, h7, h8]
theorem rread_any (l : List UInt8) (w : World) (g : Good w) (hl : l.length < 4294967281) : Gives Tryz.prog 22 #[.string ⟨l.toArray⟩] w (readEvV l) := by
  rcases read_any_ev l with h | ⟨e, eb, er, et, h⟩
  · exact (rread_no l w g hl (fun e b hr => read_no h e b hr)).cast h.symm
  · subst et
    exact (rread_yes e eb er w g).cast h.symm
/-- What is read from a string, as an event and a number. -/
theorem read_form (l : List UInt8) : ∃ (e : Ev) (n : Int), readEvV l = .tuple #[e.val, .int .i64 n] ∧ (n = 0 ∨ n = 410) := by
  rcases read_any_ev l with h | ⟨e, _, _, _, h⟩
  · exact ⟨_, _, h, .inr rfl⟩
  · exact ⟨_, _, h, .inl rfl⟩
attribute [local go_sem high] eq_event eq_revent
set_option maxHeartbeats 16000000 in
set_option maxRecDepth 100000 in
theorem evtexts_any (e : Ev) (eb : EvB e) (reason : Int) (l : List UInt8) (w : World) (g : GoodT w) (hl : l.length < 4294967281) (h0 : 0 ≤ reason) (h1 : reason < 256) :
    Gives Tryz.prog 6 #[e.val, .int .u8 reason, .string ⟨l.toArray⟩] w (.bool true) := by
  obtain ⟨x, n, hx, hn⟩ := read_form l
  have hr1 := fun w g => (tr_read l w g hl).cast hx
  have hr2 := fun w g => (rread_any l w g hl).cast hx
  have ht1 := fun w g => tr_text e.n e.sd e.r e.pr e.s e.d e.sp e.dp w g eb.sd0 eb.sd1 eb.r0 eb.r1 eb.key
  have ht2 := fun w g => rtext_any e.n e.sd e.r e.pr e.s e.d e.sp e.dp w g eb.sd0 eb.sd1 eb.r0 eb.r1 eb.key
  have hi1 := fun w => tright_any e.n e.sd e.r e.pr e.s e.d e.sp e.dp w eb.sd0 eb.sd1 eb.r0 eb.r1
  have hi2 := fun w => rright_any e.n e.sd e.r e.pr e.s e.d e.sp e.dp w eb.sd0 eb.sd1 eb.r0 eb.r1
  have hp1 := fun w => pass_any reason w h0 h1
  have hp2 := fun w => rpass_any reason w
  have hxx : evB x.n x.sd x.r x.pr x.s x.d x.sp x.dp x.n x.sd x.r x.pr x.s x.d x.sp x.dp = true := by rw [evB_eq]; simp
  have hE : 0 ≤ evTextE e.n e.sd e.r e.pr e.s e.d e.sp e.dp ∧ evTextE e.n e.sd e.r e.pr e.s e.d e.sp e.dp ≤ 2 := by unfold evTextE; split <;> omega
  generalize evTextS e.n e.sd e.r e.pr e.s e.d e.sp e.dp = ts at *
  generalize evTextE e.n e.sd e.r e.pr e.s e.d e.sp e.dp = te at *
  generalize rightEv e.n e.sd e.r e.pr e.s e.d e.sp e.dp = rb at *
  generalize passB reason = pb at *
  obtain ⟨hE0, hE1⟩ := hE
  have hn0 : 0 ≤ n := by omega
  have hn1 : n ≤ 410 := by omega
  clear hx hn
  unfold Ev.val at hr1 hr2 ⊢
  unfold Gives
  cases rb <;> cases pb
  all_goals
    go_enter Tryz.func6, Tryz.ntmps6
    go_wp2_with (first
      | (go_at_call 20; refine (ht1 _ (g.up upI)).mono ?_; rintro e w' ⟨rfl, x1, rfl⟩)
      | (go_at_call 10; refine (ht2 _ (g.good.up upI)).mono ?_; rintro e w' ⟨rfl, x2, rfl⟩)
      | (go_at_call 21; refine (hr1 _ (g.up upI)).mono ?_; rintro e w' ⟨rfl, x3, rfl⟩)
      | (go_at_call 22; refine (hr2 _ (g.good.up upI)).mono ?_; rintro e w' ⟨rfl, x4, rfl⟩))
    (refine wp_region_ext (by kernel_rfl) (by kernel_rfl) ?_; (repeat (go_big_quiet_step ((first
      | (go_at_call 23; exact (hi1 _).ext)
      | (go_at_call 24; exact (hi2 _).ext)
      | (go_at_call 25; exact (hp1 _).ext)
      | (go_at_call 26; exact (hp2 _).ext))))); refine wpQuiet_nil ?_; rintro _ ⟨y, rfl⟩)
    go_wp2_with fail
    go_ret
    exact ⟨rfl, mkI⟩
set_option maxHeartbeats 16000000 in
set_option maxRecDepth 100000 in
theorem ttexts_any (e : Ev) (eb : EvB e) (reason : Int) (l : List UInt8) (w : World) (g : GoodT w) (h0 : 0 ≤ reason) (h1 : reason < 256) :
    Gives Tryz.prog 3 #[e.val, .int .u8 reason, .string ⟨l.toArray⟩] w (.bool true) := by
  unfold Gives
  by_cases hlen : l.length ≤ 200
  · have hc := Lib.hid (fun w g => evtexts_any e eb reason l w g (by omega) h0 h1)
    unfold Ev.val at hc ⊢
    go_enter Tryz.func3, Tryz.ntmps3
    go_wp2_with (first
      | (go_at_call 6; refine (hc.out _ (g.up upI)).mono ?_; rintro e w' ⟨rfl, x1, rfl⟩)
      | (go_at_call 7; refine (awake_any _ (g.up upI)).mono ?_; rintro e w' ⟨rfl, x2, rfl⟩))
    go_ret
    exact ⟨rfl, mkI⟩
  · have hlen' : 200 < l.length := by omega
    clear hlen
    unfold Ev.val
    go_enter Tryz.func3, Tryz.ntmps3
    go_wp2_with (first
      | (go_at_call 7; refine (awake_any _ (g.up upI)).mono ?_; rintro e w' ⟨rfl, x2, rfl⟩))
    go_ret
    exact ⟨rfl, mkI⟩
end Go.Proofs.YtdebpdjkkblcfaaGreatDoor
