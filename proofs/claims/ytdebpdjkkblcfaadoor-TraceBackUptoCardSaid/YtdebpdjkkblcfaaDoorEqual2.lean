/- Two slices of integers compared. -/
import Derived.Test.YtdebpdjkkblcfaaDoorEqual
namespace Go.Proofs.YtdebpdjkkblcfaaDoor
open Go.RowKit Go.Ab
set_option maxHeartbeats 8000000 in
set_option maxRecDepth 100000 in
theorem equal_int (w : World) (va vb : Value) (la lb : List Int) (ha : IntRow w va la) (hb : IntRow w vb lb) (hl : la.length ≤ 1000000) :
    Gives Tryd.prog 31 #[va, vb] w (.bool (decide (la = lb))) := by
  obtain ⟨pa, ca, rfl, ha⟩ := ha
  obtain ⟨pb, cb, rfl, hb⟩ := hb
  unfold Gives
  by_cases hlen : la.length = lb.length
  · rw [← hlen]
    obtain ⟨N, hN⟩ : ∃ N, la.length = N := ⟨_, rfl⟩
    have HL := Lib.hid hlen
    rw [← hlen] at hb
    rw [hN] at ha hb hl ⊢
    have HN := Lib.hid hN
    clear hN hlen
    go_enter Tryd.func31, Tryd.ntmps31
    go_wp2_with fail
    go_loopw [13] (fun i wr => ∃ k : Nat, k ≤ N ∧ i = .int .i64 (k : Int) ∧ Hid (la.take k = lb.take k) ∧ ∃ x : Ext w, wr = x.w) (fun i _ => N - (intOf i).toNat)
    case atStart => exact ⟨0, by omega, rfl, Lib.hid rfl, (Up.refl w).mk⟩
    case round =>
      obtain ⟨k, hk, rfl, Hk, x, rfl⟩ := hrel
      by_cases hlt : k < N
      · have hlt' : (k : Int) < (N : Int) := by omega
        obtain ⟨b, o, rfl, hb1, hc1⟩ := ha k hlt
        obtain ⟨b2, o2, rfl, hb2, hc2⟩ := hb k hlt
        obtain ⟨e, he⟩ : ∃ e, la[k]? = some e := ⟨_, List.getElem?_eq_getElem (by rw [HN.out]; exact hlt)⟩
        obtain ⟨e2, he2⟩ : ∃ e, lb[k]? = some e := ⟨_, List.getElem?_eq_getElem (by rw [← HL.out, HN.out]; exact hlt)⟩
        rw [he] at hc1
        rw [he2] at hc2
        have a0 := hc1 0 _ rfl
        have q0 := hc2 0 _ rfl
        rw [Nat.add_zero, Nat.mul_one] at a0 q0
        have T1 := Lib.hid (take_snoc la k e he)
        have T2 := Lib.hid (take_snoc lb k e2 he2)
        clear hc1 hc2 ha hb
        haveI : LtSize b w := ⟨hb1⟩
        haveI : LtSize b2 w := ⟨hb2⟩
        by_cases hee : e = e2
        · have hB : (e != e2) = false := by simp [hee]
          have HQ := Lib.hid hee
          clear hee he he2
          go_wp2_with fail
          (refine wp_region_ext (by kernel_rfl) (by kernel_rfl) ?_; (repeat (go_big_quiet_step (fail))); refine wpQuiet_nil ?_; rintro _ ⟨y, rfl⟩)
          go_wp2_with fail
          go_roundw
          case rel => exact ⟨k + 1, by omega, by go_num, Lib.hid (by rw [T1.out, T2.out, Hk.out, HQ.out]), mkI⟩
          case measure => simp [intOf]; omega
        · have hB : (e != e2) = true := by simp [hee]
          have HQ := Lib.hid (show ¬ la = lb from fun h => hee (by rw [h, he2] at he; exact (Option.some.inj he).symm))
          clear hee he he2
          go_wp2_with fail
          (refine wp_region_ext (by kernel_rfl) (by kernel_rfl) ?_; (repeat (go_big_quiet_step (fail))); refine wpQuiet_nil ?_; rintro _ ⟨y, rfl⟩)
          go_wp2_with fail
          go_ret
          exact ⟨ret_bool (decide_eq_false HQ.out).symm, mkI⟩
      · obtain rfl : k = N := by omega
        have HQ := Lib.hid (show la = lb from list_eq_take la lb HL.out (by rw [HN.out]; exact Hk.out))
        go_wp2_with fail
        go_ret
        exact ⟨ret_bool (decide_eq_true HQ.out).symm, mkI⟩
  · have HQ := Lib.hid (show ¬ la = lb from fun h => hlen (by rw [h]))
    have hne : ((la.length : Int) != (lb.length : Int)) = true := by simp; omega
    clear ha hb
    go_enter Tryd.func31, Tryd.ntmps31
    go_wp2_with fail
    go_ret
    exact ⟨ret_bool (decide_eq_false HQ.out).symm, mkI⟩
end Go.Proofs.YtdebpdjkkblcfaaDoor
