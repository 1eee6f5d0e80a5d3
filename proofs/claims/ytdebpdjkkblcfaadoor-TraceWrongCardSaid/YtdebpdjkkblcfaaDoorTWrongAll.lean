/- The walk of TraceWrong: an event with one of six defects. -/
import Derived.Test.YtdebpdjkkblcfaaDoorTLast0
import Derived.Test.YtdebpdjkkblcfaaDoorEvAt
import Derived.RegionTactic
import Derived.Laws.BitsAllLaws
import Derived.ChangeAlike
namespace Go.Proofs.YtdebpdjkkblcfaaDoor
open Go.RowKit Go.Ab
theorem or_one (n : Int) (h0 : 0 ≤ n) (h1 : n < 65536) : ∃ c : Int, bits .or .u16 n 1 = c ∧ 0 < c ∧ c < 65536 := by
  refine ⟨_, u16_or n 1 h0 h1 (by omega) (by omega), ?_, ?_⟩
  · have : (1 : Int).toNat ≤ n.toNat ||| (1 : Int).toNat := Nat.right_le_or
    have e : (1 : Int).toNat = 1 := rfl
    rw [e] at this ⊢
    omega
  · have : n.toNat ||| (1 : Int).toNat < 2 ^ 16 := Nat.or_lt_two_pow (by omega) (by decide)
    omega
set_option maxHeartbeats 32000000 in
set_option maxRecDepth 100000 in
theorem twrong_0 (size now way nn : Int) (l : List Sm) (y : Sm) (v : Value) (w : World) (g : GoodT w) (hv : SmRow w v l) (hb : ∀ x ∈ l, SmB x) (hy : SmB y) (s0 : 0 ≤ size) (s1 : size < 256) (w0 : 0 ≤ way) (nn0 : -9223372036854775808 ≤ nn) (nn1 : nn ≤ 9223372036854775807) (hway : way % 6 = 0) :
    Gives Tryd.prog 6 #[.int .u8 size, .int .i64 now, v, .agg #[.int .u8 y.a, .int .u8 y.sd, .int .u8 y.r, .int .u8 y.p, .int .u32 y.s, .int .u32 y.d, .int .u16 y.sp, .int .u16 y.dp], .int .u8 way, .int .i64 nn] w (.bool true) := by
  have hok := madeL_ok now l hb
  have hEl : (madeL now l).length ≤ 80 := by rw [madeL_length]; omega
  have hmade := fun w' (h : UpI w w') => made_all now l v w' (hv.up h.up) hb
  have hwt : way.tmod 6 = 0 := by rw [Int.tmod_eq_emod_of_nonneg w0]; exact hway
  have hmk := fun w => made_any 2147483648 y w hy (by omega) (by omega)
  have eb0 := madeE_b 2147483648 y hy (by omega) (by omega)
  generalize madeE 2147483648 y = F at *
  obtain ⟨ya, ysd, yr, yp, ys, yd, ysp, ydp⟩ := y
  simp only at hmk ⊢
  unfold Ev.val at hmk
  have eb : EvB ⟨min nn (-1), F.sd, F.r, F.pr, F.s, F.d, F.sp, F.dp⟩ := ⟨by simp only; have := eb0.n0; omega, by simp only; have := eb0.n1; omega, by simp only; have := eb0.sd0; omega, by simp only; have := eb0.sd1; omega, by simp only; have := eb0.r0; omega, by simp only; have := eb0.r1; omega,
    ⟨by simp only; have := eb0.key.r0; omega, by simp only; have := eb0.key.r1; omega, by simp only; have := eb0.key.s0; omega, by simp only; have := eb0.key.s1; omega, by simp only; have := eb0.key.d0; omega, by simp only; have := eb0.key.d1; omega, by simp only; have := eb0.key.sp0; omega, by simp only; have := eb0.key.sp1; omega, by simp only; have := eb0.key.dp0; omega, by simp only; have := eb0.key.dp1; omega⟩⟩
  have er : rightEv (min nn (-1)) F.sd F.r F.pr F.s F.d F.sp F.dp = false := by
    have : ¬ 0 ≤ min nn (-1) := by omega
    simp [rightEv, this]
  have hf0 := eb0.n0; have hf1 := eb0.n1
  generalize madeL now l = E at *
  obtain ⟨n, hn⟩ : ∃ n : Nat, (n : Int) = 1 + size % 30 := ⟨(1 + size % 30).toNat, by omega⟩
  have hn0 : 1 ≤ n := by omega
  have hn1 : n ≤ 30 := by omega
  obtain ⟨m, hm⟩ : ∃ m, E.length = m := ⟨_, rfl⟩
  have hok' := Lib.hid hok
  have hfill := fun w' u (h : EvRow w' u E) => filled_all size E u w' h hok'.out hEl s0 s1 n hn
  rw [hm] at hEl hmade
  have Hmade := Lib.hid hmade
  have Hfill := Lib.hid hfill
  have HM := Lib.hid hm
  have Hn := Lib.hid hn
  have Hmk := Lib.hid hmk
  have Htx := Lib.hid (fun W (h : GoodT W) => (tr_text (min nn (-1)) F.sd F.r F.pr F.s F.d F.sp F.dp W h eb.sd0 eb.sd1 eb.r0 eb.r1 eb.key).cast (show _ = Value.tuple #[.string ⟨#[]⟩, .int .i64 2] by unfold evTextS evTextE; rw [er]; rfl))
  have Hri := Lib.hid (fun W => (tright_any (min nn (-1)) F.sd F.r F.pr F.s F.d F.sp F.dp W eb.sd0 eb.sd1 eb.r0 eb.r1).cast (show _ = Value.bool false by rw [er]))
  have Hbad := Lib.hid (fun W R G (h : Ring W R G n E) => put_bad W R G n E h ⟨min nn (-1), F.sd, F.r, F.pr, F.s, F.d, F.sp, F.dp⟩ eb er)
  have Hnew1 := Lib.hid (fun W => ring_new_no (min nn 0) W (by omega))
  have Hnew2 := Lib.hid (fun W => ring_new_no (max nn 4097) W (by omega))
  have HLL : Hid ((lastL E n).length ≤ 1000000) := Lib.hid (by rw [lastL_drop, List.length_drop, HM.out]; omega)
  have HB := Lib.hid hy
  obtain ⟨a0, a1, sd0, sd1, r0, r1, p0, p1, _, _, _, _, _, _, _, _⟩ := hy
  simp only at a0 a1 sd0 sd1 r0 r1 p0 p1
  clear hmade hfill hm hn hv hb hok hmk eb er hway
  unfold Gives
  go_enter Tryd.func6, Tryd.ntmps6
  go_wp2_with (first
    | (go_at_call 9; refine (awake_any _ (g.up upI)).mono ?_; rintro e w' ⟨rfl, z, rfl⟩)
    | (go_at_call 20; refine (Hmade.out _ inferInstance).mono ?_; rintro e w' ⟨u, rfl, hown, hnil, x, rfl⟩; have HR := Lib.hid (show EvRow x.w u E from EvRow.of_owns (by rw [HM.out]; exact hown)); clear hown hnil; obtain ⟨pu, cu, hu, _⟩ := HR.out; rw [HM.out] at hu; subst hu)
    | (go_at_call 21; refine (Hfill.out _ _ HR.out).mono ?_; rintro e w' ⟨R, G, rfl, hring, hR, hG, y, rfl⟩
       have Hring := Lib.hid hring
       have hlist : ∀ W, UpI y.w W → Calls Tryd.prog 22 #[.pointer (some ⟨R, 0, none⟩)] W fun e w' => ∃ v, e = .returned v ∧ EvRow w' v (lastL E n) ∧ ∃ x : Ext W, w' = x.w := fun W h => (ring_list W R G n E (Hring.out.up h.up)).mono fun _ _ ⟨v, h1, h2, h3⟩ => ⟨v, h1, EvRow.of_owns h2, h3⟩
       have htot : ∀ W, UpI y.w W → Gives Tryd.prog 25 #[.pointer (some ⟨R, 0, none⟩)] W (.int .i64 (m : Int)) := fun W h => (ring_total W R G n E (Hring.out.up h.up)).cast (by rw [HM.out])
       have Hlist := Lib.hid hlist; have Htot := Lib.hid htot
       clear hring hlist htot hR hG Hfill Hmade)
    | (go_at_call 11; refine (Hmk.out _).mono ?_; rintro e w' ⟨rfl, z1, rfl⟩))
  all_goals
    go_wp2_with (first
      | (go_at_call 22; refine (Hlist.out _ inferInstance).mono ?_; rintro e w' ⟨v1, rfl, hv1, y1, rfl⟩; haveI : EvRowI y1.w v1 (lastL E n) := ⟨hv1⟩; clear hv1)
      | (go_at_call 23; refine (Hbad.out _ R G (Hring.out.up upI)).mono ?_; rintro e w' ⟨rfl, y2, rfl⟩)
      | (go_at_call 12; refine (Htx.out _ (g.up upI)).mono ?_; rintro e w' ⟨rfl, y3, rfl⟩)
      | (go_at_call 27; (with_reducible refine (Hnew1.out _).mono ?_); rintro e w' ⟨rfl, y4, rfl⟩)
      | (go_at_call 27; (with_reducible refine (Hnew2.out _).mono ?_); rintro e w' ⟨rfl, y5, rfl⟩)
      | (go_at_call 14; refine (Hri.out _).mono ?_; rintro e w' ⟨rfl, y6, rfl⟩)
      | (go_at_call 25; refine (Htot.out _ inferInstance).mono ?_; rintro e w' ⟨rfl, y7, rfl⟩)
      | (go_at_call 24; refine (equal_yes _ _ _ (lastL E n) HLL.out).mono ?_; rintro e w' ⟨rfl, y8, rfl⟩))
    go_ret
    exact ⟨rfl, mkI⟩
set_option maxHeartbeats 32000000 in
set_option maxRecDepth 100000 in
theorem twrong_1 (size now way nn : Int) (l : List Sm) (y : Sm) (v : Value) (w : World) (g : GoodT w) (hv : SmRow w v l) (hb : ∀ x ∈ l, SmB x) (hy : SmB y) (s0 : 0 ≤ size) (s1 : size < 256) (w0 : 0 ≤ way) (nn0 : -9223372036854775808 ≤ nn) (nn1 : nn ≤ 9223372036854775807) (hway : way % 6 = 1) :
    Gives Tryd.prog 6 #[.int .u8 size, .int .i64 now, v, .agg #[.int .u8 y.a, .int .u8 y.sd, .int .u8 y.r, .int .u8 y.p, .int .u32 y.s, .int .u32 y.d, .int .u16 y.sp, .int .u16 y.dp], .int .u8 way, .int .i64 nn] w (.bool true) := by
  have hok := madeL_ok now l hb
  have hEl : (madeL now l).length ≤ 80 := by rw [madeL_length]; omega
  have hmade := fun w' (h : UpI w w') => made_all now l v w' (hv.up h.up) hb
  have hwt : way.tmod 6 = 1 := by rw [Int.tmod_eq_emod_of_nonneg w0]; exact hway
  have hmk := fun w => made_any 2147483648 y w hy (by omega) (by omega)
  have eb0 := madeE_b 2147483648 y hy (by omega) (by omega)
  generalize madeE 2147483648 y = F at *
  obtain ⟨ya, ysd, yr, yp, ys, yd, ysp, ydp⟩ := y
  simp only at hmk ⊢
  unfold Ev.val at hmk
  have eb : EvB ⟨max nn 1099511627777, F.sd, F.r, F.pr, F.s, F.d, F.sp, F.dp⟩ := ⟨by simp only; have := eb0.n0; omega, by simp only; have := eb0.n1; omega, by simp only; have := eb0.sd0; omega, by simp only; have := eb0.sd1; omega, by simp only; have := eb0.r0; omega, by simp only; have := eb0.r1; omega,
    ⟨by simp only; have := eb0.key.r0; omega, by simp only; have := eb0.key.r1; omega, by simp only; have := eb0.key.s0; omega, by simp only; have := eb0.key.s1; omega, by simp only; have := eb0.key.d0; omega, by simp only; have := eb0.key.d1; omega, by simp only; have := eb0.key.sp0; omega, by simp only; have := eb0.key.sp1; omega, by simp only; have := eb0.key.dp0; omega, by simp only; have := eb0.key.dp1; omega⟩⟩
  have er : rightEv (max nn 1099511627777) F.sd F.r F.pr F.s F.d F.sp F.dp = false := by
    have : ¬ max nn 1099511627777 ≤ 1099511627776 := by omega
    simp [rightEv, this]
  have hf0 := eb0.n0; have hf1 := eb0.n1
  generalize madeL now l = E at *
  obtain ⟨n, hn⟩ : ∃ n : Nat, (n : Int) = 1 + size % 30 := ⟨(1 + size % 30).toNat, by omega⟩
  have hn0 : 1 ≤ n := by omega
  have hn1 : n ≤ 30 := by omega
  obtain ⟨m, hm⟩ : ∃ m, E.length = m := ⟨_, rfl⟩
  have hok' := Lib.hid hok
  have hfill := fun w' u (h : EvRow w' u E) => filled_all size E u w' h hok'.out hEl s0 s1 n hn
  rw [hm] at hEl hmade
  have Hmade := Lib.hid hmade
  have Hfill := Lib.hid hfill
  have HM := Lib.hid hm
  have Hn := Lib.hid hn
  have Hmk := Lib.hid hmk
  have Htx := Lib.hid (fun W (h : GoodT W) => (tr_text (max nn 1099511627777) F.sd F.r F.pr F.s F.d F.sp F.dp W h eb.sd0 eb.sd1 eb.r0 eb.r1 eb.key).cast (show _ = Value.tuple #[.string ⟨#[]⟩, .int .i64 2] by unfold evTextS evTextE; rw [er]; rfl))
  have Hri := Lib.hid (fun W => (tright_any (max nn 1099511627777) F.sd F.r F.pr F.s F.d F.sp F.dp W eb.sd0 eb.sd1 eb.r0 eb.r1).cast (show _ = Value.bool false by rw [er]))
  have Hbad := Lib.hid (fun W R G (h : Ring W R G n E) => put_bad W R G n E h ⟨max nn 1099511627777, F.sd, F.r, F.pr, F.s, F.d, F.sp, F.dp⟩ eb er)
  have Hnew1 := Lib.hid (fun W => ring_new_no (min nn 0) W (by omega))
  have Hnew2 := Lib.hid (fun W => ring_new_no (max nn 4097) W (by omega))
  have HLL : Hid ((lastL E n).length ≤ 1000000) := Lib.hid (by rw [lastL_drop, List.length_drop, HM.out]; omega)
  have HB := Lib.hid hy
  obtain ⟨a0, a1, sd0, sd1, r0, r1, p0, p1, _, _, _, _, _, _, _, _⟩ := hy
  simp only at a0 a1 sd0 sd1 r0 r1 p0 p1
  clear hmade hfill hm hn hv hb hok hmk eb er hway
  unfold Gives
  go_enter Tryd.func6, Tryd.ntmps6
  go_wp2_with (first
    | (go_at_call 9; refine (awake_any _ (g.up upI)).mono ?_; rintro e w' ⟨rfl, z, rfl⟩)
    | (go_at_call 20; refine (Hmade.out _ inferInstance).mono ?_; rintro e w' ⟨u, rfl, hown, hnil, x, rfl⟩; have HR := Lib.hid (show EvRow x.w u E from EvRow.of_owns (by rw [HM.out]; exact hown)); clear hown hnil; obtain ⟨pu, cu, hu, _⟩ := HR.out; rw [HM.out] at hu; subst hu)
    | (go_at_call 21; refine (Hfill.out _ _ HR.out).mono ?_; rintro e w' ⟨R, G, rfl, hring, hR, hG, y, rfl⟩
       have Hring := Lib.hid hring
       have hlist : ∀ W, UpI y.w W → Calls Tryd.prog 22 #[.pointer (some ⟨R, 0, none⟩)] W fun e w' => ∃ v, e = .returned v ∧ EvRow w' v (lastL E n) ∧ ∃ x : Ext W, w' = x.w := fun W h => (ring_list W R G n E (Hring.out.up h.up)).mono fun _ _ ⟨v, h1, h2, h3⟩ => ⟨v, h1, EvRow.of_owns h2, h3⟩
       have htot : ∀ W, UpI y.w W → Gives Tryd.prog 25 #[.pointer (some ⟨R, 0, none⟩)] W (.int .i64 (m : Int)) := fun W h => (ring_total W R G n E (Hring.out.up h.up)).cast (by rw [HM.out])
       have Hlist := Lib.hid hlist; have Htot := Lib.hid htot
       clear hring hlist htot hR hG Hfill Hmade)
    | (go_at_call 11; refine (Hmk.out _).mono ?_; rintro e w' ⟨rfl, z1, rfl⟩))
  all_goals
    go_wp2_with (first
      | (go_at_call 22; refine (Hlist.out _ inferInstance).mono ?_; rintro e w' ⟨v1, rfl, hv1, y1, rfl⟩; haveI : EvRowI y1.w v1 (lastL E n) := ⟨hv1⟩; clear hv1)
      | (go_at_call 23; refine (Hbad.out _ R G (Hring.out.up upI)).mono ?_; rintro e w' ⟨rfl, y2, rfl⟩)
      | (go_at_call 12; refine (Htx.out _ (g.up upI)).mono ?_; rintro e w' ⟨rfl, y3, rfl⟩)
      | (go_at_call 27; (with_reducible refine (Hnew1.out _).mono ?_); rintro e w' ⟨rfl, y4, rfl⟩)
      | (go_at_call 27; (with_reducible refine (Hnew2.out _).mono ?_); rintro e w' ⟨rfl, y5, rfl⟩)
      | (go_at_call 14; refine (Hri.out _).mono ?_; rintro e w' ⟨rfl, y6, rfl⟩)
      | (go_at_call 25; refine (Htot.out _ inferInstance).mono ?_; rintro e w' ⟨rfl, y7, rfl⟩)
      | (go_at_call 24; refine (equal_yes _ _ _ (lastL E n) HLL.out).mono ?_; rintro e w' ⟨rfl, y8, rfl⟩))
    go_ret
    exact ⟨rfl, mkI⟩
set_option maxHeartbeats 32000000 in
set_option maxRecDepth 100000 in
theorem twrong_2 (size now way nn : Int) (l : List Sm) (y : Sm) (v : Value) (w : World) (g : GoodT w) (hv : SmRow w v l) (hb : ∀ x ∈ l, SmB x) (hy : SmB y) (s0 : 0 ≤ size) (s1 : size < 256) (w0 : 0 ≤ way) (nn0 : -9223372036854775808 ≤ nn) (nn1 : nn ≤ 9223372036854775807) (hway : way % 6 = 2) :
    Gives Tryd.prog 6 #[.int .u8 size, .int .i64 now, v, .agg #[.int .u8 y.a, .int .u8 y.sd, .int .u8 y.r, .int .u8 y.p, .int .u32 y.s, .int .u32 y.d, .int .u16 y.sp, .int .u16 y.dp], .int .u8 way, .int .i64 nn] w (.bool true) := by
  have hok := madeL_ok now l hb
  have hEl : (madeL now l).length ≤ 80 := by rw [madeL_length]; omega
  have hmade := fun w' (h : UpI w w') => made_all now l v w' (hv.up h.up) hb
  have hwt : way.tmod 6 = 2 := by rw [Int.tmod_eq_emod_of_nonneg w0]; exact hway
  have hmk := fun w => made_any 2147483648 y w hy (by omega) (by omega)
  have eb0 := madeE_b 2147483648 y hy (by omega) (by omega)
  generalize madeE 2147483648 y = F at *
  obtain ⟨ya, ysd, yr, yp, ys, yd, ysp, ydp⟩ := y
  simp only at hmk ⊢
  unfold Ev.val at hmk
  have hq : ysd.tmod 254 = ysd % 254 := Int.tmod_eq_emod_of_nonneg hy.sd0
  have hq0 : 0 ≤ ysd % 254 ∧ ysd % 254 < 254 := by have := hy.sd0; omega
  generalize ysd % 254 = q at *
  obtain ⟨hq0, hq1⟩ := hq0
  have eb : EvB ⟨F.n, 2 + q, F.r, F.pr, F.s, F.d, F.sp, F.dp⟩ := ⟨by simp only; have := eb0.n0; omega, by simp only; have := eb0.n1; omega, by simp only; have := eb0.sd0; omega, by simp only; have := eb0.sd1; omega, by simp only; have := eb0.r0; omega, by simp only; have := eb0.r1; omega,
    ⟨by simp only; have := eb0.key.r0; omega, by simp only; have := eb0.key.r1; omega, by simp only; have := eb0.key.s0; omega, by simp only; have := eb0.key.s1; omega, by simp only; have := eb0.key.d0; omega, by simp only; have := eb0.key.d1; omega, by simp only; have := eb0.key.sp0; omega, by simp only; have := eb0.key.sp1; omega, by simp only; have := eb0.key.dp0; omega, by simp only; have := eb0.key.dp1; omega⟩⟩
  have er : rightEv F.n (2 + q) F.r F.pr F.s F.d F.sp F.dp = false := by
    have : ¬ 2 + q ≤ 1 := by omega
    simp [rightEv, this]
  have hf0 := eb0.n0; have hf1 := eb0.n1
  generalize madeL now l = E at *
  obtain ⟨n, hn⟩ : ∃ n : Nat, (n : Int) = 1 + size % 30 := ⟨(1 + size % 30).toNat, by omega⟩
  have hn0 : 1 ≤ n := by omega
  have hn1 : n ≤ 30 := by omega
  obtain ⟨m, hm⟩ : ∃ m, E.length = m := ⟨_, rfl⟩
  have hok' := Lib.hid hok
  have hfill := fun w' u (h : EvRow w' u E) => filled_all size E u w' h hok'.out hEl s0 s1 n hn
  rw [hm] at hEl hmade
  have Hmade := Lib.hid hmade
  have Hfill := Lib.hid hfill
  have HM := Lib.hid hm
  have Hn := Lib.hid hn
  have Hmk := Lib.hid hmk
  have Htx := Lib.hid (fun W (h : GoodT W) => (tr_text F.n (2 + q) F.r F.pr F.s F.d F.sp F.dp W h eb.sd0 eb.sd1 eb.r0 eb.r1 eb.key).cast (show _ = Value.tuple #[.string ⟨#[]⟩, .int .i64 2] by unfold evTextS evTextE; rw [er]; rfl))
  have Hri := Lib.hid (fun W => (tright_any F.n (2 + q) F.r F.pr F.s F.d F.sp F.dp W eb.sd0 eb.sd1 eb.r0 eb.r1).cast (show _ = Value.bool false by rw [er]))
  have Hbad := Lib.hid (fun W R G (h : Ring W R G n E) => put_bad W R G n E h ⟨F.n, 2 + q, F.r, F.pr, F.s, F.d, F.sp, F.dp⟩ eb er)
  have Hnew1 := Lib.hid (fun W => ring_new_no (min nn 0) W (by omega))
  have Hnew2 := Lib.hid (fun W => ring_new_no (max nn 4097) W (by omega))
  have HLL : Hid ((lastL E n).length ≤ 1000000) := Lib.hid (by rw [lastL_drop, List.length_drop, HM.out]; omega)
  have HB := Lib.hid hy
  obtain ⟨a0, a1, sd0, sd1, r0, r1, p0, p1, _, _, _, _, _, _, _, _⟩ := hy
  simp only at a0 a1 sd0 sd1 r0 r1 p0 p1
  clear hmade hfill hm hn hv hb hok hmk eb er hway
  unfold Gives
  go_enter Tryd.func6, Tryd.ntmps6
  go_wp2_with (first
    | (go_at_call 9; refine (awake_any _ (g.up upI)).mono ?_; rintro e w' ⟨rfl, z, rfl⟩)
    | (go_at_call 20; refine (Hmade.out _ inferInstance).mono ?_; rintro e w' ⟨u, rfl, hown, hnil, x, rfl⟩; have HR := Lib.hid (show EvRow x.w u E from EvRow.of_owns (by rw [HM.out]; exact hown)); clear hown hnil; obtain ⟨pu, cu, hu, _⟩ := HR.out; rw [HM.out] at hu; subst hu)
    | (go_at_call 21; refine (Hfill.out _ _ HR.out).mono ?_; rintro e w' ⟨R, G, rfl, hring, hR, hG, y, rfl⟩
       have Hring := Lib.hid hring
       have hlist : ∀ W, UpI y.w W → Calls Tryd.prog 22 #[.pointer (some ⟨R, 0, none⟩)] W fun e w' => ∃ v, e = .returned v ∧ EvRow w' v (lastL E n) ∧ ∃ x : Ext W, w' = x.w := fun W h => (ring_list W R G n E (Hring.out.up h.up)).mono fun _ _ ⟨v, h1, h2, h3⟩ => ⟨v, h1, EvRow.of_owns h2, h3⟩
       have htot : ∀ W, UpI y.w W → Gives Tryd.prog 25 #[.pointer (some ⟨R, 0, none⟩)] W (.int .i64 (m : Int)) := fun W h => (ring_total W R G n E (Hring.out.up h.up)).cast (by rw [HM.out])
       have Hlist := Lib.hid hlist; have Htot := Lib.hid htot
       clear hring hlist htot hR hG Hfill Hmade)
    | (go_at_call 11; refine (Hmk.out _).mono ?_; rintro e w' ⟨rfl, z1, rfl⟩))
  all_goals
    go_wp2_with (first
      | (go_at_call 22; refine (Hlist.out _ inferInstance).mono ?_; rintro e w' ⟨v1, rfl, hv1, y1, rfl⟩; haveI : EvRowI y1.w v1 (lastL E n) := ⟨hv1⟩; clear hv1)
      | (go_at_call 23; refine (Hbad.out _ R G (Hring.out.up upI)).mono ?_; rintro e w' ⟨rfl, y2, rfl⟩)
      | (go_at_call 12; refine (Htx.out _ (g.up upI)).mono ?_; rintro e w' ⟨rfl, y3, rfl⟩)
      | (go_at_call 27; (with_reducible refine (Hnew1.out _).mono ?_); rintro e w' ⟨rfl, y4, rfl⟩)
      | (go_at_call 27; (with_reducible refine (Hnew2.out _).mono ?_); rintro e w' ⟨rfl, y5, rfl⟩)
      | (go_at_call 14; refine (Hri.out _).mono ?_; rintro e w' ⟨rfl, y6, rfl⟩)
      | (go_at_call 25; refine (Htot.out _ inferInstance).mono ?_; rintro e w' ⟨rfl, y7, rfl⟩)
      | (go_at_call 24; refine (equal_yes _ _ _ (lastL E n) HLL.out).mono ?_; rintro e w' ⟨rfl, y8, rfl⟩))
    go_ret
    exact ⟨rfl, mkI⟩
set_option maxHeartbeats 32000000 in
set_option maxRecDepth 100000 in
theorem twrong_3 (size now way nn : Int) (l : List Sm) (y : Sm) (v : Value) (w : World) (g : GoodT w) (hv : SmRow w v l) (hb : ∀ x ∈ l, SmB x) (hy : SmB y) (s0 : 0 ≤ size) (s1 : size < 256) (w0 : 0 ≤ way) (nn0 : -9223372036854775808 ≤ nn) (nn1 : nn ≤ 9223372036854775807) (hway : way % 6 = 3) :
    Gives Tryd.prog 6 #[.int .u8 size, .int .i64 now, v, .agg #[.int .u8 y.a, .int .u8 y.sd, .int .u8 y.r, .int .u8 y.p, .int .u32 y.s, .int .u32 y.d, .int .u16 y.sp, .int .u16 y.dp], .int .u8 way, .int .i64 nn] w (.bool true) := by
  have hok := madeL_ok now l hb
  have hEl : (madeL now l).length ≤ 80 := by rw [madeL_length]; omega
  have hmade := fun w' (h : UpI w w') => made_all now l v w' (hv.up h.up) hb
  have hwt : way.tmod 6 = 3 := by rw [Int.tmod_eq_emod_of_nonneg w0]; exact hway
  have hmk := fun w => made_any 2147483648 y w hy (by omega) (by omega)
  have eb0 := madeE_b 2147483648 y hy (by omega) (by omega)
  generalize madeE 2147483648 y = F at *
  obtain ⟨ya, ysd, yr, yp, ys, yd, ysp, ydp⟩ := y
  simp only at hmk ⊢
  unfold Ev.val at hmk
  have hq : yp.tmod 3 = yp % 3 := Int.tmod_eq_emod_of_nonneg hy.p0
  obtain ⟨k, hk⟩ : ∃ k : Nat, yp % 3 = (k : Int) := ⟨(yp % 3).toNat, by omega⟩
  have hk3 : k < 3 := by omega
  obtain ⟨c, hc0, hc2⟩ : ∃ c : Int, (c = 0 ∨ c = 30 ∨ c = 255) ∧ ([Value.int .u8 0, .int .u8 30, .int .u8 255] : List Value)[k]? = some (.int .u8 c) := by
    rcases (by omega : k = 0 ∨ k = 1 ∨ k = 2) with rfl | rfl | rfl
    · exact ⟨0, .inl rfl, rfl⟩
    · exact ⟨30, .inr (.inl rfl), rfl⟩
    · exact ⟨255, .inr (.inr rfl), rfl⟩
  rw [hk] at hq
  have kk0 : (0 : Int) ≤ (k : Int) := by omega
  have kk1 : (k : Int) < 3 := by omega
  have hc3 : ∀ h, ([Value.int .u8 0, .int .u8 30, .int .u8 255] : List Value)[k]'h = .int .u8 c := fun h => by rw [List.getElem?_eq_getElem h] at hc2; exact Option.some.inj hc2
  have hcb : 0 ≤ c ∧ c < 256 := by omega
  have hcr : ¬ (1 ≤ c ∧ c < 30) := by omega
  clear hk hc2 hc0
  have eb : EvB ⟨F.n, F.sd, c, F.pr, F.s, F.d, F.sp, F.dp⟩ := ⟨by simp only; have := eb0.n0; omega, by simp only; have := eb0.n1; omega, by simp only; have := eb0.sd0; omega, by simp only; have := eb0.sd1; omega, by simp only; have := eb0.r0; omega, by simp only; have := eb0.r1; omega,
    ⟨by simp only; have := eb0.key.r0; omega, by simp only; have := eb0.key.r1; omega, by simp only; have := eb0.key.s0; omega, by simp only; have := eb0.key.s1; omega, by simp only; have := eb0.key.d0; omega, by simp only; have := eb0.key.d1; omega, by simp only; have := eb0.key.sp0; omega, by simp only; have := eb0.key.sp1; omega, by simp only; have := eb0.key.dp0; omega, by simp only; have := eb0.key.dp1; omega⟩⟩
  have er : rightEv F.n F.sd c F.pr F.s F.d F.sp F.dp = false := by
    have : (decide (1 ≤ c) && decide (c < 30)) = false := by simp; omega
    simp [rightEv, this]
  have hf0 := eb0.n0; have hf1 := eb0.n1
  generalize madeL now l = E at *
  obtain ⟨n, hn⟩ : ∃ n : Nat, (n : Int) = 1 + size % 30 := ⟨(1 + size % 30).toNat, by omega⟩
  have hn0 : 1 ≤ n := by omega
  have hn1 : n ≤ 30 := by omega
  obtain ⟨m, hm⟩ : ∃ m, E.length = m := ⟨_, rfl⟩
  have hok' := Lib.hid hok
  have hfill := fun w' u (h : EvRow w' u E) => filled_all size E u w' h hok'.out hEl s0 s1 n hn
  rw [hm] at hEl hmade
  have Hmade := Lib.hid hmade
  have Hfill := Lib.hid hfill
  have HM := Lib.hid hm
  have Hn := Lib.hid hn
  have Hmk := Lib.hid hmk
  have Htx := Lib.hid (fun W (h : GoodT W) => (tr_text F.n F.sd c F.pr F.s F.d F.sp F.dp W h eb.sd0 eb.sd1 eb.r0 eb.r1 eb.key).cast (show _ = Value.tuple #[.string ⟨#[]⟩, .int .i64 2] by unfold evTextS evTextE; rw [er]; rfl))
  have Hri := Lib.hid (fun W => (tright_any F.n F.sd c F.pr F.s F.d F.sp F.dp W eb.sd0 eb.sd1 eb.r0 eb.r1).cast (show _ = Value.bool false by rw [er]))
  have Hbad := Lib.hid (fun W R G (h : Ring W R G n E) => put_bad W R G n E h ⟨F.n, F.sd, c, F.pr, F.s, F.d, F.sp, F.dp⟩ eb er)
  have Hnew1 := Lib.hid (fun W => ring_new_no (min nn 0) W (by omega))
  have Hnew2 := Lib.hid (fun W => ring_new_no (max nn 4097) W (by omega))
  have HLL : Hid ((lastL E n).length ≤ 1000000) := Lib.hid (by rw [lastL_drop, List.length_drop, HM.out]; omega)
  have HB := Lib.hid hy
  obtain ⟨a0, a1, sd0, sd1, r0, r1, p0, p1, _, _, _, _, _, _, _, _⟩ := hy
  simp only at a0 a1 sd0 sd1 r0 r1 p0 p1
  clear hmade hfill hm hn hv hb hok hmk eb er hway hcb hcr
  unfold Gives
  go_enter Tryd.func6, Tryd.ntmps6
  go_wp2_with (first
    | (go_at_call 9; refine (awake_any _ (g.up upI)).mono ?_; rintro e w' ⟨rfl, z, rfl⟩)
    | (go_at_call 20; refine (Hmade.out _ inferInstance).mono ?_; rintro e w' ⟨u, rfl, hown, hnil, x, rfl⟩; have HR := Lib.hid (show EvRow x.w u E from EvRow.of_owns (by rw [HM.out]; exact hown)); clear hown hnil; obtain ⟨pu, cu, hu, _⟩ := HR.out; rw [HM.out] at hu; subst hu)
    | (go_at_call 21; refine (Hfill.out _ _ HR.out).mono ?_; rintro e w' ⟨R, G, rfl, hring, hR, hG, y, rfl⟩
       have Hring := Lib.hid hring
       have hlist : ∀ W, UpI y.w W → Calls Tryd.prog 22 #[.pointer (some ⟨R, 0, none⟩)] W fun e w' => ∃ v, e = .returned v ∧ EvRow w' v (lastL E n) ∧ ∃ x : Ext W, w' = x.w := fun W h => (ring_list W R G n E (Hring.out.up h.up)).mono fun _ _ ⟨v, h1, h2, h3⟩ => ⟨v, h1, EvRow.of_owns h2, h3⟩
       have htot : ∀ W, UpI y.w W → Gives Tryd.prog 25 #[.pointer (some ⟨R, 0, none⟩)] W (.int .i64 (m : Int)) := fun W h => (ring_total W R G n E (Hring.out.up h.up)).cast (by rw [HM.out])
       have Hlist := Lib.hid hlist; have Htot := Lib.hid htot
       clear hring hlist htot hR hG Hfill Hmade)
    | (go_at_call 11; refine (Hmk.out _).mono ?_; rintro e w' ⟨rfl, z1, rfl⟩))
  all_goals
    go_wp2_with (first
      | (go_at_call 22; refine (Hlist.out _ inferInstance).mono ?_; rintro e w' ⟨v1, rfl, hv1, y1, rfl⟩; haveI : EvRowI y1.w v1 (lastL E n) := ⟨hv1⟩; clear hv1)
      | (go_at_call 23; refine (Hbad.out _ R G (Hring.out.up upI)).mono ?_; rintro e w' ⟨rfl, y2, rfl⟩)
      | (go_at_call 12; refine (Htx.out _ (g.up upI)).mono ?_; rintro e w' ⟨rfl, y3, rfl⟩)
      | (go_at_call 27; (with_reducible refine (Hnew1.out _).mono ?_); rintro e w' ⟨rfl, y4, rfl⟩)
      | (go_at_call 27; (with_reducible refine (Hnew2.out _).mono ?_); rintro e w' ⟨rfl, y5, rfl⟩)
      | (go_at_call 14; refine (Hri.out _).mono ?_; rintro e w' ⟨rfl, y6, rfl⟩)
      | (go_at_call 25; refine (Htot.out _ inferInstance).mono ?_; rintro e w' ⟨rfl, y7, rfl⟩)
      | (go_at_call 24; refine (equal_yes _ _ _ (lastL E n) HLL.out).mono ?_; rintro e w' ⟨rfl, y8, rfl⟩))
    go_ret
    exact ⟨rfl, mkI⟩
set_option maxHeartbeats 32000000 in
set_option maxRecDepth 100000 in
theorem twrong_4 (size now way nn : Int) (l : List Sm) (y : Sm) (v : Value) (w : World) (g : GoodT w) (hv : SmRow w v l) (hb : ∀ x ∈ l, SmB x) (hy : SmB y) (s0 : 0 ≤ size) (s1 : size < 256) (w0 : 0 ≤ way) (nn0 : -9223372036854775808 ≤ nn) (nn1 : nn ≤ 9223372036854775807) (hway : way % 6 = 4) :
    Gives Tryd.prog 6 #[.int .u8 size, .int .i64 now, v, .agg #[.int .u8 y.a, .int .u8 y.sd, .int .u8 y.r, .int .u8 y.p, .int .u32 y.s, .int .u32 y.d, .int .u16 y.sp, .int .u16 y.dp], .int .u8 way, .int .i64 nn] w (.bool true) := by
  have hok := madeL_ok now l hb
  have hEl : (madeL now l).length ≤ 80 := by rw [madeL_length]; omega
  have hmade := fun w' (h : UpI w w') => made_all now l v w' (hv.up h.up) hb
  have hwt : way.tmod 6 = 4 := by rw [Int.tmod_eq_emod_of_nonneg w0]; exact hway
  have hmk := fun w => made_any 2147483648 y w hy (by omega) (by omega)
  have eb0 := madeE_b 2147483648 y hy (by omega) (by omega)
  generalize madeE 2147483648 y = F at *
  obtain ⟨ya, ysd, yr, yp, ys, yd, ysp, ydp⟩ := y
  simp only at hmk ⊢
  unfold Ev.val at hmk
  have hq : yr.tmod 19 = yr % 19 := Int.tmod_eq_emod_of_nonneg hy.r0
  have hq0 : 0 ≤ yr % 19 ∧ yr % 19 < 19 := by have := hy.r0; omega
  generalize yr % 19 = q at *
  obtain ⟨hq0, hq1⟩ := hq0
  obtain ⟨c, hor, hc0, hc1⟩ := or_one ydp hy.dp0 hy.dp1
  have eb : EvB ⟨F.n, F.sd, 1 + q, 0, 0, 0, 0, c⟩ := ⟨by simp only; have := eb0.n0; omega, by simp only; have := eb0.n1; omega, by simp only; have := eb0.sd0; omega, by simp only; have := eb0.sd1; omega, by simp only; have := eb0.r0; omega, by simp only; have := eb0.r1; omega,
    ⟨by simp only; have := eb0.key.r0; omega, by simp only; have := eb0.key.r1; omega, by simp only; have := eb0.key.s0; omega, by simp only; have := eb0.key.s1; omega, by simp only; have := eb0.key.d0; omega, by simp only; have := eb0.key.d1; omega, by simp only; have := eb0.key.sp0; omega, by simp only; have := eb0.key.sp1; omega, by simp only; have := eb0.key.dp0; omega, by simp only; have := eb0.key.dp1; omega⟩⟩
  have er : rightEv F.n F.sd (1 + q) 0 0 0 0 c = false := by
    have h1 : (c == 0) = false := by simp; omega
    have h2 : 1 + q < 20 := by omega
    simp [rightEv, h1, h2]
  have hf0 := eb0.n0; have hf1 := eb0.n1
  generalize madeL now l = E at *
  obtain ⟨n, hn⟩ : ∃ n : Nat, (n : Int) = 1 + size % 30 := ⟨(1 + size % 30).toNat, by omega⟩
  have hn0 : 1 ≤ n := by omega
  have hn1 : n ≤ 30 := by omega
  obtain ⟨m, hm⟩ : ∃ m, E.length = m := ⟨_, rfl⟩
  have hok' := Lib.hid hok
  have hfill := fun w' u (h : EvRow w' u E) => filled_all size E u w' h hok'.out hEl s0 s1 n hn
  rw [hm] at hEl hmade
  have Hmade := Lib.hid hmade
  have Hfill := Lib.hid hfill
  have HM := Lib.hid hm
  have Hn := Lib.hid hn
  have Hmk := Lib.hid hmk
  have Htx := Lib.hid (fun W (h : GoodT W) => (tr_text F.n F.sd (1 + q) 0 0 0 0 c W h eb.sd0 eb.sd1 eb.r0 eb.r1 eb.key).cast (show _ = Value.tuple #[.string ⟨#[]⟩, .int .i64 2] by unfold evTextS evTextE; rw [er]; rfl))
  have Hri := Lib.hid (fun W => (tright_any F.n F.sd (1 + q) 0 0 0 0 c W eb.sd0 eb.sd1 eb.r0 eb.r1).cast (show _ = Value.bool false by rw [er]))
  have Hbad := Lib.hid (fun W R G (h : Ring W R G n E) => put_bad W R G n E h ⟨F.n, F.sd, 1 + q, 0, 0, 0, 0, c⟩ eb er)
  have Hnew1 := Lib.hid (fun W => ring_new_no (min nn 0) W (by omega))
  have Hnew2 := Lib.hid (fun W => ring_new_no (max nn 4097) W (by omega))
  have HLL : Hid ((lastL E n).length ≤ 1000000) := Lib.hid (by rw [lastL_drop, List.length_drop, HM.out]; omega)
  have HB := Lib.hid hy
  obtain ⟨a0, a1, sd0, sd1, r0, r1, p0, p1, _, _, _, _, _, _, _, _⟩ := hy
  simp only at a0 a1 sd0 sd1 r0 r1 p0 p1
  clear hmade hfill hm hn hv hb hok hmk eb er hway
  unfold Gives
  go_enter Tryd.func6, Tryd.ntmps6
  go_wp2_with (first
    | (go_at_call 9; refine (awake_any _ (g.up upI)).mono ?_; rintro e w' ⟨rfl, z, rfl⟩)
    | (go_at_call 20; refine (Hmade.out _ inferInstance).mono ?_; rintro e w' ⟨u, rfl, hown, hnil, x, rfl⟩; have HR := Lib.hid (show EvRow x.w u E from EvRow.of_owns (by rw [HM.out]; exact hown)); clear hown hnil; obtain ⟨pu, cu, hu, _⟩ := HR.out; rw [HM.out] at hu; subst hu)
    | (go_at_call 21; refine (Hfill.out _ _ HR.out).mono ?_; rintro e w' ⟨R, G, rfl, hring, hR, hG, y, rfl⟩
       have Hring := Lib.hid hring
       have hlist : ∀ W, UpI y.w W → Calls Tryd.prog 22 #[.pointer (some ⟨R, 0, none⟩)] W fun e w' => ∃ v, e = .returned v ∧ EvRow w' v (lastL E n) ∧ ∃ x : Ext W, w' = x.w := fun W h => (ring_list W R G n E (Hring.out.up h.up)).mono fun _ _ ⟨v, h1, h2, h3⟩ => ⟨v, h1, EvRow.of_owns h2, h3⟩
       have htot : ∀ W, UpI y.w W → Gives Tryd.prog 25 #[.pointer (some ⟨R, 0, none⟩)] W (.int .i64 (m : Int)) := fun W h => (ring_total W R G n E (Hring.out.up h.up)).cast (by rw [HM.out])
       have Hlist := Lib.hid hlist; have Htot := Lib.hid htot
       clear hring hlist htot hR hG Hfill Hmade)
    | (go_at_call 11; refine (Hmk.out _).mono ?_; rintro e w' ⟨rfl, z1, rfl⟩))
  go_region
  all_goals
    go_wp2_with (first
      | (go_at_call 22; refine (Hlist.out _ inferInstance).mono ?_; rintro e w' ⟨v1, rfl, hv1, y1, rfl⟩; haveI : EvRowI y1.w v1 (lastL E n) := ⟨hv1⟩; clear hv1)
      | (go_at_call 23; refine (Hbad.out _ R G (Hring.out.up upI)).mono ?_; rintro e w' ⟨rfl, y2, rfl⟩)
      | (go_at_call 12; refine (Htx.out _ (g.up upI)).mono ?_; rintro e w' ⟨rfl, y3, rfl⟩)
      | (go_at_call 27; (with_reducible refine (Hnew1.out _).mono ?_); rintro e w' ⟨rfl, y4, rfl⟩)
      | (go_at_call 27; (with_reducible refine (Hnew2.out _).mono ?_); rintro e w' ⟨rfl, y5, rfl⟩)
      | (go_at_call 14; refine (Hri.out _).mono ?_; rintro e w' ⟨rfl, y6, rfl⟩)
      | (go_at_call 25; refine (Htot.out _ inferInstance).mono ?_; rintro e w' ⟨rfl, y7, rfl⟩)
      | (go_at_call 24; refine (equal_yes _ _ _ (lastL E n) HLL.out).mono ?_; rintro e w' ⟨rfl, y8, rfl⟩))
    go_ret
    exact ⟨rfl, mkI⟩
set_option maxHeartbeats 32000000 in
set_option maxRecDepth 100000 in
theorem twrong_5 (size now way nn : Int) (l : List Sm) (y : Sm) (v : Value) (w : World) (g : GoodT w) (hv : SmRow w v l) (hb : ∀ x ∈ l, SmB x) (hy : SmB y) (s0 : 0 ≤ size) (s1 : size < 256) (w0 : 0 ≤ way) (nn0 : -9223372036854775808 ≤ nn) (nn1 : nn ≤ 9223372036854775807) (hway : way % 6 = 5) :
    Gives Tryd.prog 6 #[.int .u8 size, .int .i64 now, v, .agg #[.int .u8 y.a, .int .u8 y.sd, .int .u8 y.r, .int .u8 y.p, .int .u32 y.s, .int .u32 y.d, .int .u16 y.sp, .int .u16 y.dp], .int .u8 way, .int .i64 nn] w (.bool true) := by
  have hok := madeL_ok now l hb
  have hEl : (madeL now l).length ≤ 80 := by rw [madeL_length]; omega
  have hmade := fun w' (h : UpI w w') => made_all now l v w' (hv.up h.up) hb
  have hwt : way.tmod 6 = 5 := by rw [Int.tmod_eq_emod_of_nonneg w0]; exact hway
  have hmk := fun w => made_any 2147483648 y w hy (by omega) (by omega)
  have eb0 := madeE_b 2147483648 y hy (by omega) (by omega)
  generalize madeE 2147483648 y = F at *
  obtain ⟨ya, ysd, yr, yp, ys, yd, ysp, ydp⟩ := y
  simp only at hmk ⊢
  unfold Ev.val at hmk
  have hq : yr.tmod 10 = yr % 10 := Int.tmod_eq_emod_of_nonneg hy.r0
  have hq0 : 0 ≤ yr % 10 ∧ yr % 10 < 10 := by have := hy.r0; omega
  generalize yr % 10 = q at *
  obtain ⟨hq0, hq1⟩ := hq0
  have hp : yp.tmod 200 = yp % 200 := Int.tmod_eq_emod_of_nonneg hy.p0
  have hp0 : 0 ≤ yp % 200 ∧ yp % 200 < 200 := by have := hy.p0; omega
  generalize yp % 200 = q2 at *
  obtain ⟨hp0, hp1⟩ := hp0
  have eb : EvB ⟨F.n, F.sd, 20 + q, 18 + q2, F.s, F.d, F.sp, F.dp⟩ := ⟨by simp only; have := eb0.n0; omega, by simp only; have := eb0.n1; omega, by simp only; have := eb0.sd0; omega, by simp only; have := eb0.sd1; omega, by simp only; have := eb0.r0; omega, by simp only; have := eb0.r1; omega,
    ⟨by simp only; have := eb0.key.r0; omega, by simp only; have := eb0.key.r1; omega, by simp only; have := eb0.key.s0; omega, by simp only; have := eb0.key.s1; omega, by simp only; have := eb0.key.d0; omega, by simp only; have := eb0.key.d1; omega, by simp only; have := eb0.key.sp0; omega, by simp only; have := eb0.key.sp1; omega, by simp only; have := eb0.key.dp0; omega, by simp only; have := eb0.key.dp1; omega⟩⟩
  have er : rightEv F.n F.sd (20 + q) (18 + q2) F.s F.d F.sp F.dp = false := by
    have h1 : (18 + q2 == 1) = false := by simp; omega
    have h2 : (18 + q2 == 6) = false := by simp; omega
    have h3 : (18 + q2 == 17) = false := by simp; omega
    have h4 : ¬ 20 + q < 20 := by omega
    simp [rightEv, h1, h2, h3, h4]
  have hf0 := eb0.n0; have hf1 := eb0.n1
  generalize madeL now l = E at *
  obtain ⟨n, hn⟩ : ∃ n : Nat, (n : Int) = 1 + size % 30 := ⟨(1 + size % 30).toNat, by omega⟩
  have hn0 : 1 ≤ n := by omega
  have hn1 : n ≤ 30 := by omega
  obtain ⟨m, hm⟩ : ∃ m, E.length = m := ⟨_, rfl⟩
  have hok' := Lib.hid hok
  have hfill := fun w' u (h : EvRow w' u E) => filled_all size E u w' h hok'.out hEl s0 s1 n hn
  rw [hm] at hEl hmade
  have Hmade := Lib.hid hmade
  have Hfill := Lib.hid hfill
  have HM := Lib.hid hm
  have Hn := Lib.hid hn
  have Hmk := Lib.hid hmk
  have Htx := Lib.hid (fun W (h : GoodT W) => (tr_text F.n F.sd (20 + q) (18 + q2) F.s F.d F.sp F.dp W h eb.sd0 eb.sd1 eb.r0 eb.r1 eb.key).cast (show _ = Value.tuple #[.string ⟨#[]⟩, .int .i64 2] by unfold evTextS evTextE; rw [er]; rfl))
  have Hri := Lib.hid (fun W => (tright_any F.n F.sd (20 + q) (18 + q2) F.s F.d F.sp F.dp W eb.sd0 eb.sd1 eb.r0 eb.r1).cast (show _ = Value.bool false by rw [er]))
  have Hbad := Lib.hid (fun W R G (h : Ring W R G n E) => put_bad W R G n E h ⟨F.n, F.sd, 20 + q, 18 + q2, F.s, F.d, F.sp, F.dp⟩ eb er)
  have Hnew1 := Lib.hid (fun W => ring_new_no (min nn 0) W (by omega))
  have Hnew2 := Lib.hid (fun W => ring_new_no (max nn 4097) W (by omega))
  have HLL : Hid ((lastL E n).length ≤ 1000000) := Lib.hid (by rw [lastL_drop, List.length_drop, HM.out]; omega)
  have HB := Lib.hid hy
  obtain ⟨a0, a1, sd0, sd1, r0, r1, p0, p1, _, _, _, _, _, _, _, _⟩ := hy
  simp only at a0 a1 sd0 sd1 r0 r1 p0 p1
  clear hmade hfill hm hn hv hb hok hmk eb er hway
  unfold Gives
  go_enter Tryd.func6, Tryd.ntmps6
  go_wp2_with (first
    | (go_at_call 9; refine (awake_any _ (g.up upI)).mono ?_; rintro e w' ⟨rfl, z, rfl⟩)
    | (go_at_call 20; refine (Hmade.out _ inferInstance).mono ?_; rintro e w' ⟨u, rfl, hown, hnil, x, rfl⟩; have HR := Lib.hid (show EvRow x.w u E from EvRow.of_owns (by rw [HM.out]; exact hown)); clear hown hnil; obtain ⟨pu, cu, hu, _⟩ := HR.out; rw [HM.out] at hu; subst hu)
    | (go_at_call 21; refine (Hfill.out _ _ HR.out).mono ?_; rintro e w' ⟨R, G, rfl, hring, hR, hG, y, rfl⟩
       have Hring := Lib.hid hring
       have hlist : ∀ W, UpI y.w W → Calls Tryd.prog 22 #[.pointer (some ⟨R, 0, none⟩)] W fun e w' => ∃ v, e = .returned v ∧ EvRow w' v (lastL E n) ∧ ∃ x : Ext W, w' = x.w := fun W h => (ring_list W R G n E (Hring.out.up h.up)).mono fun _ _ ⟨v, h1, h2, h3⟩ => ⟨v, h1, EvRow.of_owns h2, h3⟩
       have htot : ∀ W, UpI y.w W → Gives Tryd.prog 25 #[.pointer (some ⟨R, 0, none⟩)] W (.int .i64 (m : Int)) := fun W h => (ring_total W R G n E (Hring.out.up h.up)).cast (by rw [HM.out])
       have Hlist := Lib.hid hlist; have Htot := Lib.hid htot
       clear hring hlist htot hR hG Hfill Hmade)
    | (go_at_call 11; refine (Hmk.out _).mono ?_; rintro e w' ⟨rfl, z1, rfl⟩))
  go_region
  all_goals
    go_wp2_with (first
      | (go_at_call 22; refine (Hlist.out _ inferInstance).mono ?_; rintro e w' ⟨v1, rfl, hv1, y1, rfl⟩; haveI : EvRowI y1.w v1 (lastL E n) := ⟨hv1⟩; clear hv1)
      | (go_at_call 23; refine (Hbad.out _ R G (Hring.out.up upI)).mono ?_; rintro e w' ⟨rfl, y2, rfl⟩)
      | (go_at_call 12; refine (Htx.out _ (g.up upI)).mono ?_; rintro e w' ⟨rfl, y3, rfl⟩)
      | (go_at_call 27; (with_reducible refine (Hnew1.out _).mono ?_); rintro e w' ⟨rfl, y4, rfl⟩)
      | (go_at_call 27; (with_reducible refine (Hnew2.out _).mono ?_); rintro e w' ⟨rfl, y5, rfl⟩)
      | (go_at_call 14; refine (Hri.out _).mono ?_; rintro e w' ⟨rfl, y6, rfl⟩)
      | (go_at_call 25; refine (Htot.out _ inferInstance).mono ?_; rintro e w' ⟨rfl, y7, rfl⟩)
      | (go_at_call 24; refine (equal_yes _ _ _ (lastL E n) HLL.out).mono ?_; rintro e w' ⟨rfl, y8, rfl⟩))
    go_ret
    exact ⟨rfl, mkI⟩
theorem twrong_any (size now way nn : Int) (l : List Sm) (y : Sm) (v : Value) (w : World) (g : GoodT w) (hv : SmRow w v l) (hb : ∀ x ∈ l, SmB x) (hy : SmB y) (s0 : 0 ≤ size) (s1 : size < 256) (w0 : 0 ≤ way) (nn0 : -9223372036854775808 ≤ nn) (nn1 : nn ≤ 9223372036854775807) :
    Gives Tryd.prog 6 #[.int .u8 size, .int .i64 now, v, .agg #[.int .u8 y.a, .int .u8 y.sd, .int .u8 y.r, .int .u8 y.p, .int .u32 y.s, .int .u32 y.d, .int .u16 y.sp, .int .u16 y.dp], .int .u8 way, .int .i64 nn] w (.bool true) := by
  rcases (by omega : way % 6 = 0 ∨ way % 6 = 1 ∨ way % 6 = 2 ∨ way % 6 = 3 ∨ way % 6 = 4 ∨ way % 6 = 5) with h | h | h | h | h | h
  · exact twrong_0 size now way nn l y v w g hv hb hy s0 s1 w0 nn0 nn1 h
  · exact twrong_1 size now way nn l y v w g hv hb hy s0 s1 w0 nn0 nn1 h
  · exact twrong_2 size now way nn l y v w g hv hb hy s0 s1 w0 nn0 nn1 h
  · exact twrong_3 size now way nn l y v w g hv hb hy s0 s1 w0 nn0 nn1 h
  · exact twrong_4 size now way nn l y v w g hv hb hy s0 s1 w0 nn0 nn1 h
  · exact twrong_5 size now way nn l y v w g hv hb hy s0 s1 w0 nn0 nn1 h
end Go.Proofs.YtdebpdjkkblcfaaDoor
