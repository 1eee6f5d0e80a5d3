/- AddrCovers: the walk returns true, for any two addresses and any other one. -/
import Derived.Test.YtbcdeeiddpcdeaaDoorAwake
import Derived.Test.YtbcdeeiddpcdeaaDoorCoversPlain
import Derived.Test.YtbcdeeiddpcdeaaDoorInst
import Derived.Deep.DeepCutAuto
import Derived.Outline
namespace Go.Proofs.YtbcdeeiddpcdeaaDoor
open Go.RowKit Go.Ab

theorem prefixCells_at (l : List (Int × Int)) (k : Nat) (p : Int × Int) (h : l[k]? = some p) : (prefixCells l)[k * 2]? = some (.int .u32 p.1) ∧ (prefixCells l)[k * 2 + 1]? = some (.int .u8 p.2) := by
  induction l generalizing k with
  | nil => simp at h
  | cons a t ih =>
    rcases k with _ | k
    · simp at h; subst h; exact ⟨rfl, rfl⟩
    · simp only [List.getElem?_cons_succ] at h
      have := ih k h
      rw [show (k + 1) * 2 = k * 2 + 2 by omega]
      exact this
set_option maxHeartbeats 4000000 in
set_option maxRecDepth 100000 in
theorem covers_no (a b c : Int) (w : World) (g : Good w) (h : b < a) : Gives Tryd.prog 3 #[.int .u32 a, .int .u32 b, .int .u32 c] w (.bool true) := by
  unfold Gives
  go_enter Tryd.func3, Tryd.ntmps3
  go_wp2_with (first
    | (go_at_call 10; refine (awake_any _ (g.up upI)).mono ?_; rintro e w' ⟨rfl, x, rfl⟩)
    | (go_at_call 11; refine (cover_no _ _ _ h).mono ?_; rintro e w' ⟨rfl, x, rfl⟩))
  go_ret
  exact ⟨rfl, mkI⟩
theorem bounds_yes (a n : Int) (w : World) (hi : Int) (h0 : 0 ≤ n) (a0 : 0 ≤ a) (a1 : a < 4294967296) (hr : Hid (rightB a n = true)) (hh : Hid (hi = a + (sz n - 1))) :
    Gives Tryd.prog 12 #[.agg #[.int .u32 a, .int .u8 n]] w (.tuple #[.int .u32 a, .int .u32 hi, .int .i64 0]) :=
  (bounds_any a n w h0 a0 a1).cast (by rw [if_pos hr.out, hh.out])
theorem right_yes (a n : Int) (w : World) (h0 : 0 ≤ n) (a0 : 0 ≤ a) (a1 : a < 4294967296) (hr : Hid (rightB a n = true)) :
    Gives Tryd.prog 13 #[.agg #[.int .u32 a, .int .u8 n]] w (.bool true) := (right_any a n w h0 a0 a1).cast (by rw [hr.out])
theorem has_yes (a n x hi : Int) (w : World) (h0 : 0 ≤ n) (a0 : 0 ≤ a) (a1 : a < 4294967296) (x0 : a ≤ x) (x1 : x ≤ hi) (hi1 : hi < 4294967296) (hr : Hid (rightB a n = true)) (hh : Hid (hi = a + (sz n - 1))) :
    Gives Tryd.prog 14 #[.agg #[.int .u32 a, .int .u8 n], .int .u32 x] w (.bool true) :=
  (has_any a n x w h0 a0 a1 (by omega) (by omega)).cast (by rw [hasB_iff hr.out, ← hh.out]; simp [x0, x1])
theorem has_not (a n x hi : Int) (w : World) (h0 : 0 ≤ n) (a0 : 0 ≤ a) (a1 : a < 4294967296) (x0 : 0 ≤ x) (x1 : x < 4294967296) (hx : x < a ∨ hi < x) (hr : Hid (rightB a n = true)) (hh : Hid (hi = a + (sz n - 1))) :
    Gives Tryd.prog 14 #[.agg #[.int .u32 a, .int .u8 n], .int .u32 x] w (.bool false) :=
  (has_any a n x w h0 a0 a1 x0 x1).cast (by rw [hasB_iff hr.out, ← hh.out]; congr 1; simp; omega)
set_option maxHeartbeats 16000000 in
set_option maxRecDepth 100000 in
theorem covers_yes (a b c : Int) (w : World) (g : Good w) (h : a ≤ b) (a0 : 0 ≤ a) (b1 : b < 4294967296) (c0 : 0 ≤ c) (c1 : c < 4294967296) : Gives Tryd.prog 3 #[.int .u32 a, .int .u32 b, .int .u32 c] w (.bool true) := by
  have h62 := coverL_62 a b a0 h b1
  have st := Lib.hid (steps a b h)
  have hpos : 0 < (coverL a b).length := by rw [coverL_step a b h]; simp
  unfold Gives
  go_enter Tryd.func3, Tryd.ntmps3
  go_wp2_with fail
  refine (awake_any _ (g.up upI)).mono ?_
  rintro e w' ⟨rfl, x, rfl⟩
  go_wp2_with fail
  refine (cover_yes a b _ a0 h b1).mono ?_
  rintro e w' ⟨v, rfl, hown, y, rfl⟩
  obtain ⟨gr, cap, rfl, hge, hlt, hcap, hcells⟩ := owns_cells hown hpos
  haveI : LtSize gr y.w := ⟨hlt⟩
  have Hc := Lib.hid hcells
  have Hcap := Lib.hid hcap
  have uy : Up w y.w := upI
  clear hown hge hcells hcap hlt
  generalize y.w = wo at *
  haveI : UpI w wo := ⟨uy⟩
  generalize hL : coverL a b = L at *
  clear hL
  obtain ⟨N, HN⟩ : ∃ N, Hid (L.length = N) := ⟨_, Lib.hid rfl⟩
  rw [HN.out] at hpos h62 ⊢
  have b0 : ((N : Int) == 0) = false := by simp; omega
  have b1 : decide ((N : Int) > 62) = false := by simp; omega
  have b2 : decide ((62 : Int) < N) = false := by simp; omega
  go_wp2_with fail
  go_loopw [9, 10, 52] (fun nxt inn idx wr => ∃ (k : Nat) (nn : Int) (ib : Bool), k ≤ N ∧ idx = .int .i64 k ∧ nxt = .int .u64 nn ∧ Hid (nn = nx a L k) ∧ inn = .bool ib ∧ Hid (ib = decide (a ≤ c ∧ c < nx a L k)) ∧ ∃ x : Ext wo, wr = x.w) (fun _ _ idx _ => N - (intOf idx).toNat)
  case atStart => exact ⟨0, a, false, by omega, rfl, rfl, Lib.hid rfl, rfl, Lib.hid (by simp only [nx]; exact (decide_eq_false (by omega)).symm), (Up.refl wo).mk⟩
  case round =>
    obtain ⟨k, nn, ib, hk, rfl, rfl, Hnn, rfl, Hib, x, rfl⟩ := hrel
    by_cases hkl : k < N
    · obtain ⟨⟨pa, pn⟩, hp⟩ : ∃ p, L[k]? = some p := ⟨_, List.getElem?_eq_getElem (by rw [HN.out]; exact hkl)⟩
      obtain ⟨s1, s2, s3, s4⟩ := st.out.at_ k _ hp
      dsimp only at s1 s2 s3 s4
      have e0 := Hc.out _ _ (prefixCells_at L k _ hp).1
      have e1 := Hc.out _ _ (prefixCells_at L k _ hp).2
      dsimp only at e0 e1
      obtain ⟨cf, n0, n1⟩ := cn_spec pa b s3
      rw [← s4] at cf n0 n1
      obtain ⟨f1, f2⟩ := fits_parts cf
      obtain ⟨hi, Hhi⟩ : ∃ hi, Hid (hi = pa + (sz pn - 1)) := ⟨_, Lib.hid rfl⟩
      have hsz := sz_pos pn
      have hh := Hhi.out
      have h1 : pa ≤ hi := by omega
      have h2 : hi ≤ b := by omega
      have hr : Hid (rightB pa pn = true) := Lib.hid (by simp [rightB, n1, f1])
      obtain rfl : nn = pa := Hnn.out.trans s1.symm
      have Hp := Lib.hid hp; have S1 := Lib.hid s1; have S4 := Lib.hid s4
      have hcap := Hcap.out
      clear hp s1 s4 cf f1 f2 hh hsz
      go_upto_region 13 with (first
        | (go_at_call 12; refine (bounds_yes nn pn _ hi n0 (by omega) (by omega) hr Hhi).mono ?_; rintro e w' ⟨rfl, xb, rfl⟩))
      have nn0 : 0 ≤ nn := by omega
      have nn1 : nn < 4294967296 := by omega
      have hi1 : hi < 4294967296 := by omega
      have dh : decide (hi < nn) = false := by simp; omega
      go_cut [126] (fun s wx => s = .bool false ∧ ∃ z : Ext xb.w, wx = z.w)
      case first =>
        rcases Int.lt_or_le c nn with hc | hc
        · have dc1 : decide (nn ≤ c) = false := by simp; omega
          rcases Int.lt_or_le 0 nn with hz | hz <;> rcases Int.lt_or_le hi 4294967295 with hy | hy
          all_goals
            go_wp2_with (first
              | (go_at_call 13; refine (right_yes nn pn _ n0 nn0 nn1 hr).mono ?_; rintro e w' ⟨rfl, x, rfl⟩)
              | (go_at_call 14; ((first
                  | with_reducible refine (has_yes nn pn nn hi _ n0 nn0 nn1 (Int.le_refl _) h1 hi1 hr Hhi).mono ?_
                  | with_reducible refine (has_yes nn pn hi hi _ n0 nn0 nn1 h1 (Int.le_refl _) hi1 hr Hhi).mono ?_
                  | with_reducible refine (has_not nn pn c hi _ n0 nn0 nn1 c0 c1 (.inl hc) hr Hhi).mono ?_
                  | with_reducible refine (has_not nn pn (nn - 1) hi _ n0 nn0 nn1 (by omega) (by omega) (.inl (by omega)) hr Hhi).mono ?_
                  | with_reducible refine (has_not nn pn (hi + 1) hi _ n0 nn0 nn1 (by omega) (by omega) (.inr (by omega)) hr Hhi).mono ?_)); rintro e w' ⟨rfl, x, rfl⟩))
            all_goals (go_meet; exact ⟨rfl, mkI⟩)
        · have dc1 : decide (nn ≤ c) = true := by simp; omega
          rcases Int.lt_or_le hi c with hd | hd
          · have dc2 : decide (c ≤ hi) = false := by simp; omega
            rcases Int.lt_or_le 0 nn with hz | hz <;> rcases Int.lt_or_le hi 4294967295 with hy | hy
            all_goals
              go_wp2_with (first
                | (go_at_call 13; refine (right_yes nn pn _ n0 nn0 nn1 hr).mono ?_; rintro e w' ⟨rfl, x, rfl⟩)
                | (go_at_call 14; ((first
                    | with_reducible refine (has_yes nn pn nn hi _ n0 nn0 nn1 (Int.le_refl _) h1 hi1 hr Hhi).mono ?_
                    | with_reducible refine (has_yes nn pn hi hi _ n0 nn0 nn1 h1 (Int.le_refl _) hi1 hr Hhi).mono ?_
                    | with_reducible refine (has_not nn pn c hi _ n0 nn0 nn1 c0 c1 (.inr hd) hr Hhi).mono ?_
                    | with_reducible refine (has_not nn pn (nn - 1) hi _ n0 nn0 nn1 (by omega) (by omega) (.inl (by omega)) hr Hhi).mono ?_
                    | with_reducible refine (has_not nn pn (hi + 1) hi _ n0 nn0 nn1 (by omega) (by omega) (.inr (by omega)) hr Hhi).mono ?_)); rintro e w' ⟨rfl, x, rfl⟩))
              all_goals (go_meet; exact ⟨rfl, mkI⟩)
          · have dc2 : decide (c ≤ hi) = true := by simp; omega
            rcases Int.lt_or_le 0 nn with hz | hz <;> rcases Int.lt_or_le hi 4294967295 with hy | hy
            all_goals
              go_wp2_with (first
                | (go_at_call 13; refine (right_yes nn pn _ n0 nn0 nn1 hr).mono ?_; rintro e w' ⟨rfl, x, rfl⟩)
                | (go_at_call 14; ((first
                    | with_reducible refine (has_yes nn pn nn hi _ n0 nn0 nn1 (Int.le_refl _) h1 hi1 hr Hhi).mono ?_
                    | with_reducible refine (has_yes nn pn hi hi _ n0 nn0 nn1 h1 (Int.le_refl _) hi1 hr Hhi).mono ?_
                    | with_reducible refine (has_yes nn pn c hi _ n0 nn0 nn1 hc hd hi1 hr Hhi).mono ?_
                    | with_reducible refine (has_not nn pn (nn - 1) hi _ n0 nn0 nn1 (by omega) (by omega) (.inl (by omega)) hr Hhi).mono ?_
                    | with_reducible refine (has_not nn pn (hi + 1) hi _ n0 nn0 nn1 (by omega) (by omega) (.inr (by omega)) hr Hhi).mono ?_)); rintro e w' ⟨rfl, x, rfl⟩))
              all_goals (go_meet; exact ⟨rfl, mkI⟩)
      case rest =>
        obtain ⟨rfl, z, rfl⟩ := hcut
        have Hnx : Hid (nx a L (k + 1) = hi + 1) := Lib.hid (by simp only [nx, Hp.out]; have := Hhi.out; omega)
        rcases Nat.eq_zero_or_pos k with hk0 | hk0
        · subst hk0
          rcases Int.lt_or_le c nn with hc | hc
          · have hbv : ib = decide (a ≤ c) := by rw [Hib.out]; congr 1; simp [← S1.out, hc]
            have Hn : Hid (decide (a ≤ c) = decide (a ≤ c ∧ c < nx a L (0 + 1))) := Lib.hid (by rw [Hnx.out, decide_eq_decide]; omega)
            rcases Int.lt_or_le c a with hca | hca
            · have hbf : ib = false := by rw [hbv, decide_eq_false (by omega)]
              subst hbf
              have Hn2 : Hid (false = decide (a ≤ c ∧ c < nx a L (0 + 1))) := Lib.hid (by rw [← Hn.out, decide_eq_false (by omega)])
              clear hbv Hib Hn
              go_wp2_with fail
              (refine wp_region_ext (by kernel_rfl) (by kernel_rfl) ?_; (repeat (go_big_quiet_step (fail))); refine wpQuiet_nil ?_; rintro _ ⟨y, rfl⟩)
              go_wp2_with (go_at_call 14; refine (has_not nn pn c hi _ n0 nn0 nn1 c0 c1 (.inl hc) hr Hhi).mono ?_; rintro e w' ⟨rfl, x, rfl⟩)
              go_roundw
              case rel => exact ⟨0 + 1, hi + 1, _, by omega, by go_num, by go_num, Lib.hid (by rw [Hnx.out]), rfl, Hn2, mkI⟩
              case measure => simp [intOf]; omega
            · have hbf : ib = true := by rw [hbv, decide_eq_true hca]
              subst hbf
              have Hn2 : Hid (true = decide (a ≤ c ∧ c < nx a L (0 + 1))) := Lib.hid (by rw [← Hn.out, decide_eq_true hca])
              clear hbv Hib Hn
              go_wp2_with fail
              (refine wp_region_ext (by kernel_rfl) (by kernel_rfl) ?_; (repeat (go_big_quiet_step (fail))); refine wpQuiet_nil ?_; rintro _ ⟨y, rfl⟩)
              go_wp2_with fail
              go_roundw
              case rel => exact ⟨0 + 1, hi + 1, _, by omega, by go_num, by go_num, Lib.hid (by rw [Hnx.out]), rfl, Hn2, mkI⟩
              case measure => simp [intOf]; omega
          · have hbf : ib = false := by rw [Hib.out, ← S1.out]; exact decide_eq_false (by omega)
            subst hbf
            rcases Int.lt_or_le hi c with hd | hd
            · have Hn2 : Hid (false = decide (a ≤ c ∧ c < nx a L (0 + 1))) := Lib.hid (by rw [Hnx.out]; exact (decide_eq_false (by omega)).symm)
              clear Hib
              go_wp2_with fail
              (refine wp_region_ext (by kernel_rfl) (by kernel_rfl) ?_; (repeat (go_big_quiet_step (fail))); refine wpQuiet_nil ?_; rintro _ ⟨y, rfl⟩)
              go_wp2_with (go_at_call 14; refine (has_not nn pn c hi _ n0 nn0 nn1 c0 c1 (.inr hd) hr Hhi).mono ?_; rintro e w' ⟨rfl, x, rfl⟩)
              go_roundw
              case rel => exact ⟨0 + 1, hi + 1, _, by omega, by go_num, by go_num, Lib.hid (by rw [Hnx.out]), rfl, Hn2, mkI⟩
              case measure => simp [intOf]; omega
            · have Hn2 : Hid (true = decide (a ≤ c ∧ c < nx a L (0 + 1))) := Lib.hid (by rw [Hnx.out]; exact (decide_eq_true (by omega)).symm)
              clear Hib
              go_wp2_with fail
              (refine wp_region_ext (by kernel_rfl) (by kernel_rfl) ?_; (repeat (go_big_quiet_step (fail))); refine wpQuiet_nil ?_; rintro _ ⟨y, rfl⟩)
              go_wp2_with (go_at_call 14; refine (has_yes nn pn c hi _ n0 nn0 nn1 hc hd hi1 hr Hhi).mono ?_; rintro e w' ⟨rfl, x, rfl⟩)
              go_roundw
              case rel => exact ⟨0 + 1, hi + 1, _, by omega, by go_num, by go_num, Lib.hid (by rw [Hnx.out]), rfl, Hn2, mkI⟩
              case measure => simp [intOf]; omega
        · obtain ⟨j, rfl⟩ : ∃ j, k = j + 1 := ⟨k - 1, by omega⟩
          obtain ⟨⟨qa, qn⟩, hq⟩ : ∃ q, L[j]? = some q := ⟨_, List.getElem?_eq_getElem (by rw [HN.out]; omega)⟩
          obtain ⟨v1, v2, v3, v4⟩ := st.out.at_ j _ hq
          dsimp only at v1 v2 v3 v4
          have e2 := Hc.out _ _ (prefixCells_at L j _ hq).1
          have e3 := Hc.out _ _ (prefixCells_at L j _ hq).2
          dsimp only at e2 e3
          have hnq : nn = qa + sz qn := by rw [S1.out]; simp only [nx, hq]
          obtain ⟨cf', m0, m1⟩ := cn_spec qa b v3
          rw [← v4] at cf' m0 m1
          have hqr : rightB qa qn = true := by obtain ⟨g1, _⟩ := fits_parts cf'; simp [rightB, m1, g1]
          have hqa : 0 ≤ qa := by omega
          have hqa1 : qa < 4294967296 := by omega
          have hcast : (((j + 1 : Nat) : Int)) - 1 = (j : Int) := by omega
          have jlt : j < N := by omega
          by_cases hen : qn = pn
          · subst hen
            have h1n : 1 ≤ qn := by
              rcases Int.lt_or_le 0 qn with h | h
              · omega
              · exfalso
                obtain rfl : qn = 0 := by omega
                have : sz 0 = 4294967296 := by decide
                omega
            have hcut2 := fun w => cut_any nn (qn - 1) w (by omega) (by omega) nn0 nn1
            have hu0 : 0 ≤ nn - nn % sz (qn - 1) := by
              have := sz_pos (qn - 1)
              have := Int.mul_ediv_add_emod nn (sz (qn - 1))
              have : 0 ≤ sz (qn - 1) * (nn / sz (qn - 1)) := Int.mul_nonneg (by omega) (Int.ediv_nonneg nn0 (by omega))
              omega
            have hu1 : nn - nn % sz (qn - 1) < 4294967296 := by
              have := sz_pos (qn - 1)
              have := Int.emod_nonneg nn (show sz (qn - 1) ≠ 0 by omega)
              omega
            have hno : insideB qa qn (nn - nn % sz (qn - 1)) (qn - 1) = false := by
              have := not_one (a := qa) (b := b) v3 (by rw [← v4, ← hnq, ← S4.out]) (by rw [← v4, ← hnq]; omega) (by rw [← v4]; omega)
              rw [← v4, ← hnq] at this
              exact this
            have hins : ∀ w, Gives Tryd.prog 16 #[.agg #[.int .u32 qa, .int .u8 qn], .agg #[.int .u32 (nn - nn % sz (qn - 1)), .int .u8 (qn - 1)]] w (.bool false) := fun w => (inside_any qa qn (nn - nn % sz (qn - 1)) (qn - 1) w (by omega) hqa hqa1 (by omega) hu0 hu1).cast (by rw [hno])
            generalize nn - nn % sz (qn - 1) = up at *
            clear v1 v2 v4 hq cf' hnq hqr hno hk0
            rcases Int.lt_or_le c nn with hc | hc
            · have hbv : ib = decide (a ≤ c) := by rw [Hib.out]; congr 1; simp [← S1.out, hc]
              have Hn : Hid (decide (a ≤ c) = decide (a ≤ c ∧ c < nx a L (j + 1 + 1))) := Lib.hid (by rw [Hnx.out, decide_eq_decide]; omega)
              rcases Int.lt_or_le c a with hca | hca
              · have hbf : ib = false := by rw [hbv, decide_eq_false (by omega)]
                subst hbf
                have Hn2 : Hid (false = decide (a ≤ c ∧ c < nx a L (j + 1 + 1))) := Lib.hid (by rw [← Hn.out, decide_eq_false (by omega)])
                clear hbv Hib Hn
                go_wp2_with fail
                (refine wp_region_ext (by kernel_rfl) (by kernel_rfl) ?_; (repeat (go_big_quiet_step (fail))); refine wpQuiet_nil ?_; rintro _ ⟨y, rfl⟩)
                go_wp2_with (go_at_call 15; refine (hcut2 _).mono ?_; rintro e w' ⟨rfl, x, rfl⟩)
                (refine wp_region_ext (by kernel_rfl) (by kernel_rfl) ?_; (repeat (go_big_quiet_step ((go_at_call 16; exact (hins _).ext)))); refine wpQuiet_nil ?_; rintro _ ⟨y2, rfl⟩)
                go_wp2_with (go_at_call 14; refine (has_not nn qn c hi _ n0 nn0 nn1 c0 c1 (.inl hc) hr Hhi).mono ?_; rintro e w' ⟨rfl, x, rfl⟩)
                go_roundw
                case rel => exact ⟨j + 1 + 1, hi + 1, _, by omega, by go_num, by go_num, Lib.hid (by rw [Hnx.out]), rfl, Hn2, mkI⟩
                case measure => simp [intOf]; omega
              · have hbf : ib = true := by rw [hbv, decide_eq_true hca]
                subst hbf
                have Hn2 : Hid (true = decide (a ≤ c ∧ c < nx a L (j + 1 + 1))) := Lib.hid (by rw [← Hn.out, decide_eq_true hca])
                clear hbv Hib Hn
                go_wp2_with fail
                (refine wp_region_ext (by kernel_rfl) (by kernel_rfl) ?_; (repeat (go_big_quiet_step (fail))); refine wpQuiet_nil ?_; rintro _ ⟨y, rfl⟩)
                go_wp2_with (go_at_call 15; refine (hcut2 _).mono ?_; rintro e w' ⟨rfl, x, rfl⟩)
                (refine wp_region_ext (by kernel_rfl) (by kernel_rfl) ?_; (repeat (go_big_quiet_step ((go_at_call 16; exact (hins _).ext)))); refine wpQuiet_nil ?_; rintro _ ⟨y2, rfl⟩)
                go_wp2_with fail
                go_roundw
                case rel => exact ⟨j + 1 + 1, hi + 1, _, by omega, by go_num, by go_num, Lib.hid (by rw [Hnx.out]), rfl, Hn2, mkI⟩
                case measure => simp [intOf]; omega
            · have hbf : ib = false := by rw [Hib.out, ← S1.out]; exact decide_eq_false (by omega)
              subst hbf
              rcases Int.lt_or_le hi c with hd | hd
              · have Hn2 : Hid (false = decide (a ≤ c ∧ c < nx a L (j + 1 + 1))) := Lib.hid (by rw [Hnx.out]; exact (decide_eq_false (by omega)).symm)
                clear Hib
                go_wp2_with fail
                (refine wp_region_ext (by kernel_rfl) (by kernel_rfl) ?_; (repeat (go_big_quiet_step (fail))); refine wpQuiet_nil ?_; rintro _ ⟨y, rfl⟩)
                go_wp2_with (go_at_call 15; refine (hcut2 _).mono ?_; rintro e w' ⟨rfl, x, rfl⟩)
                (refine wp_region_ext (by kernel_rfl) (by kernel_rfl) ?_; (repeat (go_big_quiet_step ((go_at_call 16; exact (hins _).ext)))); refine wpQuiet_nil ?_; rintro _ ⟨y2, rfl⟩)
                go_wp2_with (go_at_call 14; refine (has_not nn qn c hi _ n0 nn0 nn1 c0 c1 (.inr hd) hr Hhi).mono ?_; rintro e w' ⟨rfl, x, rfl⟩)
                go_roundw
                case rel => exact ⟨j + 1 + 1, hi + 1, _, by omega, by go_num, by go_num, Lib.hid (by rw [Hnx.out]), rfl, Hn2, mkI⟩
                case measure => simp [intOf]; omega
              · have Hn2 : Hid (true = decide (a ≤ c ∧ c < nx a L (j + 1 + 1))) := Lib.hid (by rw [Hnx.out]; exact (decide_eq_true (by omega)).symm)
                clear Hib
                go_wp2_with fail
                (refine wp_region_ext (by kernel_rfl) (by kernel_rfl) ?_; (repeat (go_big_quiet_step (fail))); refine wpQuiet_nil ?_; rintro _ ⟨y, rfl⟩)
                go_wp2_with (go_at_call 15; refine (hcut2 _).mono ?_; rintro e w' ⟨rfl, x, rfl⟩)
                (refine wp_region_ext (by kernel_rfl) (by kernel_rfl) ?_; (repeat (go_big_quiet_step ((go_at_call 16; exact (hins _).ext)))); refine wpQuiet_nil ?_; rintro _ ⟨y2, rfl⟩)
                go_wp2_with (go_at_call 14; refine (has_yes nn qn c hi _ n0 nn0 nn1 hc hd hi1 hr Hhi).mono ?_; rintro e w' ⟨rfl, x, rfl⟩)
                go_roundw
                case rel => exact ⟨j + 1 + 1, hi + 1, _, by omega, by go_num, by go_num, Lib.hid (by rw [Hnx.out]), rfl, Hn2, mkI⟩
                case measure => simp [intOf]; omega
          · have hne : (qn == pn) = false := by simpa using hen
            clear v1 v2 v4 hq cf' hnq hqr hen hk0
            rcases Int.lt_or_le c nn with hc | hc
            · have hbv : ib = decide (a ≤ c) := by rw [Hib.out]; congr 1; simp [← S1.out, hc]
              have Hn : Hid (decide (a ≤ c) = decide (a ≤ c ∧ c < nx a L (j + 1 + 1))) := Lib.hid (by rw [Hnx.out, decide_eq_decide]; omega)
              rcases Int.lt_or_le c a with hca | hca
              · have hbf : ib = false := by rw [hbv, decide_eq_false (by omega)]
                subst hbf
                have Hn2 : Hid (false = decide (a ≤ c ∧ c < nx a L (j + 1 + 1))) := Lib.hid (by rw [← Hn.out, decide_eq_false (by omega)])
                clear hbv Hib Hn
                go_wp2_with fail
                (refine wp_region_ext (by kernel_rfl) (by kernel_rfl) ?_; (repeat (go_big_quiet_step (fail))); refine wpQuiet_nil ?_; rintro _ ⟨y, rfl⟩)
                go_wp2_with (go_at_call 14; refine (has_not nn pn c hi _ n0 nn0 nn1 c0 c1 (.inl hc) hr Hhi).mono ?_; rintro e w' ⟨rfl, x, rfl⟩)
                go_roundw
                case rel => exact ⟨j + 1 + 1, hi + 1, _, by omega, by go_num, by go_num, Lib.hid (by rw [Hnx.out]), rfl, Hn2, mkI⟩
                case measure => simp [intOf]; omega
              · have hbf : ib = true := by rw [hbv, decide_eq_true hca]
                subst hbf
                have Hn2 : Hid (true = decide (a ≤ c ∧ c < nx a L (j + 1 + 1))) := Lib.hid (by rw [← Hn.out, decide_eq_true hca])
                clear hbv Hib Hn
                go_wp2_with fail
                (refine wp_region_ext (by kernel_rfl) (by kernel_rfl) ?_; (repeat (go_big_quiet_step (fail))); refine wpQuiet_nil ?_; rintro _ ⟨y, rfl⟩)
                go_wp2_with fail
                go_roundw
                case rel => exact ⟨j + 1 + 1, hi + 1, _, by omega, by go_num, by go_num, Lib.hid (by rw [Hnx.out]), rfl, Hn2, mkI⟩
                case measure => simp [intOf]; omega
            · have hbf : ib = false := by rw [Hib.out, ← S1.out]; exact decide_eq_false (by omega)
              subst hbf
              rcases Int.lt_or_le hi c with hd | hd
              · have Hn2 : Hid (false = decide (a ≤ c ∧ c < nx a L (j + 1 + 1))) := Lib.hid (by rw [Hnx.out]; exact (decide_eq_false (by omega)).symm)
                clear Hib
                go_wp2_with fail
                (refine wp_region_ext (by kernel_rfl) (by kernel_rfl) ?_; (repeat (go_big_quiet_step (fail))); refine wpQuiet_nil ?_; rintro _ ⟨y, rfl⟩)
                go_wp2_with (go_at_call 14; refine (has_not nn pn c hi _ n0 nn0 nn1 c0 c1 (.inr hd) hr Hhi).mono ?_; rintro e w' ⟨rfl, x, rfl⟩)
                go_roundw
                case rel => exact ⟨j + 1 + 1, hi + 1, _, by omega, by go_num, by go_num, Lib.hid (by rw [Hnx.out]), rfl, Hn2, mkI⟩
                case measure => simp [intOf]; omega
              · have Hn2 : Hid (true = decide (a ≤ c ∧ c < nx a L (j + 1 + 1))) := Lib.hid (by rw [Hnx.out]; exact (decide_eq_true (by omega)).symm)
                clear Hib
                go_wp2_with fail
                (refine wp_region_ext (by kernel_rfl) (by kernel_rfl) ?_; (repeat (go_big_quiet_step (fail))); refine wpQuiet_nil ?_; rintro _ ⟨y, rfl⟩)
                go_wp2_with (go_at_call 14; refine (has_yes nn pn c hi _ n0 nn0 nn1 hc hd hi1 hr Hhi).mono ?_; rintro e w' ⟨rfl, x, rfl⟩)
                go_roundw
                case rel => exact ⟨j + 1 + 1, hi + 1, _, by omega, by go_num, by go_num, Lib.hid (by rw [Hnx.out]), rfl, Hn2, mkI⟩
                case measure => simp [intOf]; omega
    · obtain rfl : k = N := by omega
      have Hend : Hid (nn = b + 1) := Lib.hid (by rw [Hnn.out, ← HN.out]; exact st.out.ends)
      have hend := Hend.out
      subst hend
      have Hib2 : Hid (ib = decide (a ≤ c ∧ c < b + 1)) := Lib.hid (by rw [Hib.out, ← Hnn.out])
      rcases Int.lt_or_le c a with hca | hca
      · have hbf : ib = false := by rw [Hib2.out]; exact decide_eq_false (by omega)
        subst hbf
        have d1 : decide (a ≤ c) = false := by simp; omega
        clear Hib Hib2
        go_wp2_with fail
        go_ret
        exact ⟨rfl, mkI⟩
      · have d1 : decide (a ≤ c) = true := by simpa using hca
        rcases Int.lt_or_le b c with hcb | hcb
        · have hbf : ib = false := by rw [Hib2.out]; exact decide_eq_false (by omega)
          subst hbf
          have d2 : decide (c ≤ b) = false := by simp; omega
          clear Hib Hib2
          go_wp2_with fail
          go_ret
          exact ⟨rfl, mkI⟩
        · have hbf : ib = true := by rw [Hib2.out]; exact decide_eq_true (by omega)
          subst hbf
          have d2 : decide (c ≤ b) = true := by simpa using hcb
          clear Hib Hib2
          go_wp2_with fail
          go_ret
          exact ⟨rfl, mkI⟩
end Go.Proofs.YtbcdeeiddpcdeaaDoor
