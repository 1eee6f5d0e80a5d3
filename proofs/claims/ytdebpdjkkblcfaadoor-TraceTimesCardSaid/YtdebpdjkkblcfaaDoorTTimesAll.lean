/- The walk of TraceTimes. -/
import Derived.Test.YtdebpdjkkblcfaaDoorTLast0
import Derived.Test.YtdebpdjkkblcfaaDoorEvAt
namespace Go.Ab
open Go.RowKit Go.Proofs.YtdebpdjkkblcfaaDoor
/-- An event at another time. -/
def Ev.at (e : Ev) (n : Int) : Ev := ⟨n, e.sd, e.r, e.pr, e.s, e.d, e.sp, e.dp⟩
theorem Ev.at_b {e : Ev} (h : EvB e) (n : Int) (h0 : 0 ≤ n) (h1 : n ≤ 1099511627776) : EvB (e.at n) := ⟨by show -9223372036854775808 ≤ n; omega, by show n ≤ 9223372036854775807; omega, h.sd0, h.sd1, h.r0, h.r1, h.key⟩
theorem Ev.at_r {e : Ev} (h : e.right = true) (n : Int) (h0 : 0 ≤ n) (h1 : n ≤ 1099511627776) : (e.at n).right = true := by
  unfold Ev.right rightEv at h ⊢
  simp only [Bool.and_eq_true, decide_eq_true_eq] at h
  show (decide (0 ≤ n) && decide (n ≤ 1099511627776) && _) = true
  simp only [Bool.and_eq_true, decide_eq_true_eq]
  exact ⟨⟨h0, h1⟩, h.2⟩
end Go.Ab
namespace Go.Proofs.YtdebpdjkkblcfaaDoor
open Go.RowKit Go.Ab
attribute [local go_sem high] eq_event
set_option maxHeartbeats 32000000 in
set_option maxRecDepth 100000 in
theorem ttimes_any (size now at' : Int) (l : List Sm) (y : Sm) (v : Value) (w : World) (g : GoodT w) (hv : SmRow w v l) (hb : ∀ x ∈ l, SmB x) (hy : SmB y) (s0 : 0 ≤ size) (s1 : size < 256) :
    Gives Tryd.prog 5 #[.int .u8 size, .int .i64 now, v, .agg #[.int .u8 y.a, .int .u8 y.sd, .int .u8 y.r, .int .u8 y.p, .int .u32 y.s, .int .u32 y.d, .int .u16 y.sp, .int .u16 y.dp], .int .i64 at'] w (.bool true) := by
  have hok := madeL_ok now l hb
  have hEl : (madeL now l).length ≤ 80 := by rw [madeL_length]; omega
  have hmade := fun w' (h : UpI w w') => made_all now l v w' (hv.up h.up) hb
  have hmod := fun w => modulo_any at' 2147483648 w (by omega) (by omega)
  have hA0 : 0 ≤ at' % 2147483648 := by omega
  have hA1 : at' % 2147483648 < 2147483648 := by omega
  generalize at' % 2147483648 = A at *
  have hmk := fun w => made_any 0 y w hy (by omega) (by omega)
  have eb0 := madeE_b 0 y hy (by omega) (by omega)
  have er0 := madeE_r 0 y (by omega) (by omega)
  generalize madeE 0 y = F at *
  unfold Ev.val at hmk
  have eb : EvB ⟨A, F.sd, F.r, F.pr, F.s, F.d, F.sp, F.dp⟩ := Ev.at_b eb0 A hA0 (by omega)
  have er : rightEv A F.sd F.r F.pr F.s F.d F.sp F.dp = true := Ev.at_r er0 A hA0 (by omega)
  clear eb0 er0
  generalize madeL now l = E at *
  obtain ⟨n, hn⟩ : ∃ n : Nat, (n : Int) = 1 + size % 30 := ⟨(1 + size % 30).toNat, by omega⟩
  have hn0 : 1 ≤ n := by omega
  have hn1 : n ≤ 30 := by omega
  obtain ⟨m, hm⟩ : ∃ m, E.length = m := ⟨_, rfl⟩
  have hok' := Lib.hid hok
  have hfill := fun w' u (h : EvRow w' u E) => filled_all size E u w' h hok'.out hEl s0 s1 n hn
  rw [hm] at hEl hmade
  have Hmade := Lib.hid hmade
  have Hfill := Lib.hid hfill
  have HM := Lib.hid hm
  have Hn := Lib.hid hn
  have Hmk := Lib.hid hmk
  have Hmod := Lib.hid hmod
  have Heb := Lib.hid eb
  have Her := Lib.hid er
  have hAA : evB A F.sd F.r F.pr F.s F.d F.sp F.dp A F.sd F.r F.pr F.s F.d F.sp F.dp = true := by unfold evB; simp
  have HEQ : ∀ W a b, EvRow W a (lastL E n) → EvRow W b (lastL E n) → Gives Tryd.prog 24 #[a, b] W (.bool true) := fun W a b ha hb => (equal_ev W a b _ _ ha hb (by rw [lastL_drop, List.length_drop, HM.out]; omega)).cast (by simp)
  clear hmade hfill hm hn hv hb hok hmk hmod hy eb er
  obtain ⟨ya, ysd, yr, yp, ys, yd, ysp, ydp⟩ := y
  simp only at Hmk ⊢
  unfold Gives
  go_enter Tryd.func5, Tryd.ntmps5
  go_wp2_with (first
    | (go_at_call 9; refine (awake_any _ (g.up upI)).mono ?_; rintro e w' ⟨rfl, z, rfl⟩)
    | (go_at_call 20; refine (Hmade.out _ inferInstance).mono ?_; rintro e w' ⟨u, rfl, hown, hnil, x, rfl⟩))
  have hrow : EvRow x.w u E := EvRow.of_owns (by rw [HM.out]; exact hown)
  have HR := Lib.hid hrow
  clear g Hmade
  rcases Nat.eq_zero_or_pos m with h0 | h0
  · subst h0
    obtain rfl : u = .slice none 0 0 := hnil (List.length_eq_zero_iff.1 HM.out)
    clear hown hnil hrow
    go_wp2_with (first
      | (go_at_call 21; refine (Hfill.out _ _ HR.out).mono ?_; rintro e w' ⟨R, G, rfl, hring, hR, hG, y, rfl⟩
         have hxs : w.heap.size ≤ x.w.heap.size := (upI : Up w x.w).size
         have Hring := Lib.hid hring
         haveI : LtSize R y.w := ⟨hring.ltR⟩
         haveI : LtSize G y.w := ⟨hring.ltG⟩
         haveI : GeSize w R := ⟨Nat.le_trans hxs hR⟩
         haveI : GeSize w G := ⟨Nat.le_trans hxs hG⟩
         have hlist : ∀ W, UpI y.w W → Calls Tryd.prog 22 #[.pointer (some ⟨R, 0, none⟩)] W fun e w' => ∃ v, e = .returned v ∧ EvRow w' v (lastL E n) ∧ ∃ x : Ext W, w' = x.w := fun W h => (ring_list W R G n E (Hring.out.up h.up)).mono fun _ _ ⟨v, h1, h2, h3⟩ => ⟨v, h1, EvRow.of_owns h2, h3⟩
         have htot : ∀ W, UpI y.w W → Gives Tryd.prog 25 #[.pointer (some ⟨R, 0, none⟩)] W (.int .i64 0) := fun W h => (ring_total W R G n E (Hring.out.up h.up)).cast (by rw [HM.out]; try rfl)
         have Hlist := Lib.hid hlist; have Htot := Lib.hid htot
         clear hring hlist htot hxs hR hG)
      | (go_at_call 11; refine (Hmk.out _).mono ?_; rintro e w' ⟨rfl, z1, rfl⟩)
      | (go_at_call 10; refine (Hmod.out _).mono ?_; rintro e w' ⟨rfl, z2, rfl⟩)
      | (go_at_call 22; refine (Hlist.out _ inferInstance).mono ?_; rintro e w' ⟨v1, rfl, hv1, y1, rfl⟩; have Hv1 := Lib.hid hv1; clear hv1))
    have Hput := Lib.hid (fun (W : World) (hu : UpI y.w W) => put_px W R G n E (Hring.out.up hu.up) A F.sd F.r F.pr F.s F.d F.sp F.dp Heb.out Her.out (by intro q hq; rw [List.length_eq_zero_iff.1 HM.out] at hq; cases hq) (by rw [HM.out]; omega))
    rw [HM.out] at Hput
    clear Hlist Htot HEQ Hfill Hmk Hmod Hring
    go_wp2_with (first
      | (go_at_call 23; refine (Hput.out _ inferInstance).mono ?_; rintro e w' ⟨rfl, hr', z3, rfl⟩; have Hr' := Lib.hid hr'; clear hr' Hput)
      | (go_at_call 26; refine (ring_get _ R G n (E ++ [⟨A, F.sd, F.r, F.pr, F.s, F.d, F.sp, F.dp⟩]) (Hr'.out.up upI) 0 ⟨A, F.sd, F.r, F.pr, F.s, F.d, F.sp, F.dp⟩ (by rw [List.getElem?_append_right (by rw [HM.out]; exact Nat.le_refl _), HM.out]; simp) (by rw [List.length_append, HM.out, List.length_singleton]; omega)).mono ?_; unfold Ev.val; rintro e w' ⟨rfl, z4, rfl⟩))
    go_ret
    exact ⟨rfl, mkI⟩
  · obtain ⟨gb, cap, rfl, hgb, hgs, hcap, _⟩ := owns_cells hown h0
    obtain ⟨t, ht⟩ : ∃ t, m = t + 1 := ⟨m - 1, by omega⟩
    have hmt : (m : Int) - 1 = (t : Int) := by omega
    have ht0 : (0 : Int) ≤ (t : Int) := by omega
    have ht1 : (t : Int) < (m : Int) := by omega
    obtain ⟨p, hp⟩ : ∃ p, E[t]? = some p := ⟨_, List.getElem?_eq_getElem (by rw [HM.out]; omega)⟩
    have hpl := Lib.hid (show E.getLast? = some p by rw [List.getLast?_eq_getElem?, HM.out, ht]; exact hp)
    obtain ⟨p', cap', hpv, hc⟩ := hrow
    obtain ⟨b, o, hp', hbw, hcc⟩ := hc t (by rw [HM.out]; omega)
    obtain ⟨rfl, hme, rfl⟩ := Value.slice.inj hpv
    simp only [hp, Option.bind_some] at hcc
    obtain ⟨hb1, ho1⟩ : gb = b ∧ 0 = o := by simpa using hp'
    subst hb1 ho1
    have c0 := hcc 0 _ rfl
    rw [Nat.add_zero, Nat.zero_add] at c0
    haveI : LtSize gb x.w := ⟨hbw⟩
    have htk := Lib.hid (show p.n ≤ A → takes E ⟨A, F.sd, F.r, F.pr, F.s, F.d, F.sp, F.dp⟩ from fun h q hq => by rw [hpl.out] at hq; cases hq; exact h)
    have Ht := Lib.hid ht
    clear hown hnil hpv hc hcc hp' hp ht hme
    obtain ⟨pn, hpn⟩ : ∃ pn, p.n = pn := ⟨_, rfl⟩
    rw [hpn] at c0 htk
    have Hpn := Lib.hid hpn
    clear hpn
    by_cases hlt : A < pn
    · have hltb : decide (A < pn) = true := by simpa using hlt
      go_wp2_with (first
        | (go_at_call 21; refine (Hfill.out _ _ HR.out).mono ?_; rintro e w' ⟨R, G, rfl, hring, hR, hG, y, rfl⟩
           have hxs : w.heap.size ≤ x.w.heap.size := (upI : Up w x.w).size
           have Hring := Lib.hid hring
           haveI : LtSize R y.w := ⟨hring.ltR⟩
           haveI : LtSize G y.w := ⟨hring.ltG⟩
           haveI : GeSize w R := ⟨Nat.le_trans hxs hR⟩
           haveI : GeSize w G := ⟨Nat.le_trans hxs hG⟩
           have hgR : gb < R := Nat.lt_of_lt_of_le hbw hR
           have hgG : gb < G := Nat.lt_of_lt_of_le hbw hG
           haveI : NeB gb R := ⟨by omega⟩
           haveI : NeB gb G := ⟨by omega⟩
           clear hgR hgG
           have hlist : ∀ W, UpI y.w W → Calls Tryd.prog 22 #[.pointer (some ⟨R, 0, none⟩)] W fun e w' => ∃ v, e = .returned v ∧ EvRow w' v (lastL E n) ∧ ∃ x : Ext W, w' = x.w := fun W h => (ring_list W R G n E (Hring.out.up h.up)).mono fun _ _ ⟨v, h1, h2, h3⟩ => ⟨v, h1, EvRow.of_owns h2, h3⟩
           have htot : ∀ W, UpI y.w W → Gives Tryd.prog 25 #[.pointer (some ⟨R, 0, none⟩)] W (.int .i64 (m : Int)) := fun W h => (ring_total W R G n E (Hring.out.up h.up)).cast (by rw [HM.out]; try rfl)
           have Hlist := Lib.hid hlist; have Htot := Lib.hid htot
           clear hring hlist htot hxs hR hG)
        | (go_at_call 11; refine (Hmk.out _).mono ?_; rintro e w' ⟨rfl, z1, rfl⟩)
        | (go_at_call 10; refine (Hmod.out _).mono ?_; rintro e w' ⟨rfl, z2, rfl⟩)
        | (go_at_call 22; refine (Hlist.out _ inferInstance).mono ?_; rintro e w' ⟨v1, rfl, hv1, y1, rfl⟩; have Hv1 := Lib.hid hv1; clear hv1))
      have Hput := Lib.hid (fun (W : World) (hu : UpI y.w W) => put_back_px W R G n E (Hring.out.up hu.up) A F.sd F.r F.pr F.s F.d F.sp F.dp Heb.out Her.out p hpl.out (by rw [Hpn.out]; exact hlt))
      clear Hfill Hmk Hmod Hring
      go_wp2_with (first
        | (go_at_call 23; refine (Hput.out _ inferInstance).mono ?_; rintro e w' ⟨rfl, z3, rfl⟩)
        | (go_at_call 22; refine (Hlist.out _ inferInstance).mono ?_; rintro e w' ⟨v2, rfl, hv2, y2, rfl⟩; have Hv2 := Lib.hid hv2; clear hv2)
        | (go_at_call 24; refine (HEQ _ _ _ Hv2.out (Hv1.out.up upI)).mono ?_; rintro e w' ⟨rfl, y3, rfl⟩)
        | (go_at_call 25; refine (Htot.out _ inferInstance).mono ?_; rintro e w' ⟨rfl, y4, rfl⟩))
      go_ret
      exact ⟨rfl, mkI⟩
    · have hltb : decide (A < pn) = false := by simpa using hlt
      go_wp2_with (first
        | (go_at_call 21; refine (Hfill.out _ _ HR.out).mono ?_; rintro e w' ⟨R, G, rfl, hring, hR, hG, y, rfl⟩
           have hxs : w.heap.size ≤ x.w.heap.size := (upI : Up w x.w).size
           have Hring := Lib.hid hring
           haveI : LtSize R y.w := ⟨hring.ltR⟩
           haveI : LtSize G y.w := ⟨hring.ltG⟩
           haveI : GeSize w R := ⟨Nat.le_trans hxs hR⟩
           haveI : GeSize w G := ⟨Nat.le_trans hxs hG⟩
           have hgR : gb < R := Nat.lt_of_lt_of_le hbw hR
           have hgG : gb < G := Nat.lt_of_lt_of_le hbw hG
           haveI : NeB gb R := ⟨by omega⟩
           haveI : NeB gb G := ⟨by omega⟩
           clear hgR hgG
           have hlist : ∀ W, UpI y.w W → Calls Tryd.prog 22 #[.pointer (some ⟨R, 0, none⟩)] W fun e w' => ∃ v, e = .returned v ∧ EvRow w' v (lastL E n) ∧ ∃ x : Ext W, w' = x.w := fun W h => (ring_list W R G n E (Hring.out.up h.up)).mono fun _ _ ⟨v, h1, h2, h3⟩ => ⟨v, h1, EvRow.of_owns h2, h3⟩
           have htot : ∀ W, UpI y.w W → Gives Tryd.prog 25 #[.pointer (some ⟨R, 0, none⟩)] W (.int .i64 (m : Int)) := fun W h => (ring_total W R G n E (Hring.out.up h.up)).cast (by rw [HM.out]; try rfl)
           have Hlist := Lib.hid hlist; have Htot := Lib.hid htot
           clear hring hlist htot hxs hR hG)
        | (go_at_call 11; refine (Hmk.out _).mono ?_; rintro e w' ⟨rfl, z1, rfl⟩)
        | (go_at_call 10; refine (Hmod.out _).mono ?_; rintro e w' ⟨rfl, z2, rfl⟩)
        | (go_at_call 22; refine (Hlist.out _ inferInstance).mono ?_; rintro e w' ⟨v1, rfl, hv1, y1, rfl⟩; have Hv1 := Lib.hid hv1; clear hv1))
      have Hput := Lib.hid (fun (W : World) (hu : UpI y.w W) => put_px W R G n E (Hring.out.up hu.up) A F.sd F.r F.pr F.s F.d F.sp F.dp Heb.out Her.out (htk.out (by omega)) (by rw [HM.out]; omega))
      rw [HM.out] at Hput
      clear Hlist Htot HEQ Hfill Hmk Hmod Hring
      go_wp2_with (first
        | (go_at_call 23; refine (Hput.out _ inferInstance).mono ?_; rintro e w' ⟨rfl, hr', z3, rfl⟩; have Hr' := Lib.hid hr'; clear hr' Hput)
        | (go_at_call 26; refine (ring_get _ R G n (E ++ [⟨A, F.sd, F.r, F.pr, F.s, F.d, F.sp, F.dp⟩]) (Hr'.out.up upI) m ⟨A, F.sd, F.r, F.pr, F.s, F.d, F.sp, F.dp⟩ (by rw [List.getElem?_append_right (by rw [HM.out]; exact Nat.le_refl _), HM.out]; simp) (by rw [List.length_append, HM.out, List.length_singleton]; omega)).mono ?_; unfold Ev.val; rintro e w' ⟨rfl, z4, rfl⟩))
      go_ret
      exact ⟨rfl, mkI⟩
end Go.Proofs.YtdebpdjkkblcfaaDoor
