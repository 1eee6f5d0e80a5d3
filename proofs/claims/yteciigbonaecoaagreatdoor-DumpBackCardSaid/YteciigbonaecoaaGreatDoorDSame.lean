/- The laws' own comparing of dumps. -/
import Derived.Test.YteciigbonaecoaaGreatDoorDAw
namespace Go.Ab
open Go.RowKit Go.Proofs.YteciigbonaecoaaGreatDoor
theorem ln_ne_at {a b : List Ln} {k : Nat} {x y : Ln} (ha : a[k]? = some x) (hb : b[k]? = some y) (h : ¬ x = y) : (a == b) = false := by
  rw [beq_eq_false_iff_ne]
  rintro rfl
  rw [ha] at hb
  exact h (by simpa using hb)
end Go.Ab
namespace Go.Proofs.YteciigbonaecoaaGreatDoor
open Go.RowKit Go.Ab
theorem lnSizeS : (Tryz.prog.info? 44).map (·.size) = some 11 := by kernel_rfl
theorem eq_ln (x y : Ln) (w : World) : (Op.equalIn 10000 44 (.agg x.cells.toArray) (.agg y.cells.toArray)).run Tryz.prog w = .ok (decide (x = y)) w := by
  obtain ⟨p1, p2, p3, p4, p5, p6, p7, p8, p9, p10, p11⟩ := x
  obtain ⟨r1, r2, r3, r4, r5, r6, r7, r8, r9, r10, r11⟩ := y
  refine (eq_line w _ _ _ _ _ _ _ _ _ _ _ _ _ _ _ _ _ _ _ _ _ _).trans (congrArg (Result.ok · w) ?_)
  rw [Bool.eq_iff_iff]
  simp
set_option maxHeartbeats 8000000 in
set_option maxRecDepth 100000 in
theorem dsame_any (a b : List Ln) (va vb : Value) (w : World) (ha : LnRow w va a) (hb : LnRow w vb b) (la : a.length ≤ 1000000) (lb : b.length ≤ 1000000) : Gives Tryz.prog 21 #[va, vb] w (.bool (a == b)) := by
  obtain ⟨p, cap, rfl, hle, hc⟩ := ha
  obtain ⟨q, cap2, rfl, hle2, hd⟩ := hb
  obtain ⟨N, hN⟩ : ∃ N, a.length = N := ⟨_, rfl⟩
  obtain ⟨M, hM⟩ : ∃ M, b.length = M := ⟨_, rfl⟩
  rw [hN] at hle la ⊢
  rw [hM] at hle2 lb ⊢
  have HN := Lib.hid hN
  have HM := Lib.hid hM
  have Hc := Lib.hid hc
  have Hd := Lib.hid hd
  clear hN hM hc hd
  unfold Gives
  by_cases hNM : N = M
  · subst hNM
    go_enter Tryz.func21, Tryz.ntmps21
    go_wp2_with fail
    go_loopw [13] (fun i wr => ∃ k : Nat, k ≤ N ∧ i = .int .i64 (k : Int) ∧ Hid (∀ j, j < k → a[j]? = b[j]?) ∧ ∃ x : Ext w, wr = x.w) (fun i _ => N - (intOf i).toNat)
    case atStart => exact ⟨0, Nat.zero_le _, rfl, Lib.hid (fun j hj => absurd hj (Nat.not_lt_zero j)), (Up.refl w).mk⟩
    case round =>
      obtain ⟨k, hk, rfl, Hk, x0, rfl⟩ := hrel
      by_cases hlt : k < N
      · have hlt' : (k : Int) < (N : Int) := by omega
        have k0 : (0 : Int) ≤ (k : Int) := by omega
        obtain ⟨x, hs⟩ : ∃ x, a[k]? = some x := ⟨_, List.getElem?_eq_getElem (by rw [HN.out]; exact hlt)⟩
        obtain ⟨y, ht⟩ : ∃ y, b[k]? = some y := ⟨_, List.getElem?_eq_getElem (by rw [HM.out]; exact hlt)⟩
        obtain ⟨b1, o1, rfl, hb1, hc1⟩ := Hc.out k x hs
        obtain ⟨b2, o2, rfl, hb2, hc2⟩ := Hd.out k y ht
        haveI : LtSize b1 w := ⟨hb1⟩
        haveI : LtSize b2 w := ⟨hb2⟩
        have Hs := Lib.hid hs
        have Ht := Lib.hid ht
        have hX : x0.w.rangeAt b1 (o1 + k * 11) x.cells := fun j u hj => x0.up.cell_some (hc1 j u hj)
        have hY : x0.w.rangeAt b2 (o2 + k * 11) y.cells := fun j u hj => x0.up.cell_some (hc2 j u hj)
        have hEq0 := fun W => eq_ln x y W
        clear hc1 hc2 hs ht
        by_cases he : x = y
        · have E := Lib.hid (show a[k]? = b[k]? by rw [Hs.out, Ht.out, he])
          have hEq : ∀ W, (Op.equalIn 10000 44 (.agg x.cells.toArray) (.agg y.cells.toArray)).run Tryz.prog W = .ok true W := fun W => by rw [hEq0, decide_eq_true he]
          clear he hEq0
          go_wp2_with fail
          refine wp_region_rel2 (relAt [isV (.slice (some ⟨b1, o1, none⟩) N cap), isV (.int .i64 (k : Int)), isV (.pointer (some ⟨b1, o1 + k * 11, none⟩)), isV (.agg x.cells.toArray), isV (.slice (some ⟨b2, o2, none⟩) N cap2), isV (.int .i64 (k : Int)), isV (.pointer (some ⟨b2, o2 + k * 11, none⟩)), isV (.agg y.cells.toArray), isV (.bool false)]) [16, 17, 18, 19, 20, 21, 22, 23, 24] 26 (by kernel_rfl) (by kernel_rfl) (by kernel_rfl) rfl (relAt_mono ?hmono) ⟨?o0, ?o1, ?o2, ?o3, ?o4, ?o5, ?o6, ?o7, ?o8, trivial⟩ ?hend
          case hmono =>
            intro r hr v W1 W2 h1 hu
            simp only [List.mem_cons, List.not_mem_nil, or_false] at hr
            rcases hr with rfl | rfl | rfl | rfl | rfl | rfl | rfl | rfl | rfl
            all_goals exact h1
          case o0 =>
            intro vs W' F Y E hu hd
            have s0 := E.eout 0 (.slice (some ⟨b1, o1, none⟩) N cap) rfl rfl
            exact rel_val (v := .slice (some ⟨b1, o1, none⟩) N cap) rfl (by simp [go_sem, s0]) (Up.refl _) rfl
          case o1 =>
            intro vs W' F Y E hu hd
            have s0 := E.eout 5 (.int .i64 (k : Int)) rfl rfl
            exact rel_val (v := .int .i64 (k : Int)) rfl (by simp [go_sem, s0]) (Up.refl _) rfl
          case o2 =>
            intro vs W' F Y E hu hd
            have d0 : vs 0 = .slice (some ⟨b1, o1, none⟩) N cap := hd ⟨0, .data⟩ (by simp) rfl
            have t0 := E.ein 0 16 _ rfl (by decide) d0
            have d1 : vs 1 = .int .i64 (k : Int) := hd ⟨1, .data⟩ (by simp) rfl
            have t1 := E.ein 1 17 _ rfl (by decide) d1
            exact rel_val (v := .pointer (some ⟨b1, o1 + k * 11, none⟩)) rfl (by simp [go_sem, t0, t1, k0, hlt']) (Up.refl _) rfl
          case o3 =>
            intro vs W' F Y E hu hd
            have d2 : vs 2 = .pointer (some ⟨b1, o1 + k * 11, none⟩) := hd ⟨2, .data⟩ (by simp) rfl
            have t2 := E.ein 2 18 _ rfl (by decide) d2
            exact rel_load rfl _ _ rfl b1 (o1 + k * 11) (by simp [go_sem, t2]) x.cells _ (fun j u hj => hu.cell_some (hX j u hj)) Tryz.underlying44 rfl lnSizeS rfl
          case o4 =>
            intro vs W' F Y E hu hd
            have s0 := E.eout 1 (.slice (some ⟨b2, o2, none⟩) N cap2) rfl rfl
            exact rel_val (v := .slice (some ⟨b2, o2, none⟩) N cap2) rfl (by simp [go_sem, s0]) (Up.refl _) rfl
          case o5 =>
            intro vs W' F Y E hu hd
            have s0 := E.eout 5 (.int .i64 (k : Int)) rfl rfl
            exact rel_val (v := .int .i64 (k : Int)) rfl (by simp [go_sem, s0]) (Up.refl _) rfl
          case o6 =>
            intro vs W' F Y E hu hd
            have d4 : vs 4 = .slice (some ⟨b2, o2, none⟩) N cap2 := hd ⟨4, .data⟩ (by simp) rfl
            have t4 := E.ein 4 20 _ rfl (by decide) d4
            have d5 : vs 5 = .int .i64 (k : Int) := hd ⟨5, .data⟩ (by simp) rfl
            have t5 := E.ein 5 21 _ rfl (by decide) d5
            exact rel_val (v := .pointer (some ⟨b2, o2 + k * 11, none⟩)) rfl (by simp [go_sem, t4, t5, k0, hlt']) (Up.refl _) rfl
          case o7 =>
            intro vs W' F Y E hu hd
            have d6 : vs 6 = .pointer (some ⟨b2, o2 + k * 11, none⟩) := hd ⟨6, .data⟩ (by simp) rfl
            have t6 := E.ein 6 22 _ rfl (by decide) d6
            exact rel_load rfl _ _ rfl b2 (o2 + k * 11) (by simp [go_sem, t6]) y.cells _ (fun j u hj => hu.cell_some (hY j u hj)) Tryz.underlying44 rfl lnSizeS rfl
          case o8 =>
            intro vs W' F Y E hu hd
            have d3 : vs 3 = .agg x.cells.toArray := hd ⟨3, .data⟩ (by simp) rfl
            have t3 := E.ein 3 19 _ rfl (by decide) d3
            have d7 : vs 7 = .agg y.cells.toArray := hd ⟨7, .data⟩ (by simp) rfl
            have t7 := E.ein 7 23 _ rfl (by decide) d7
            exact rel_val (v := .bool false) rfl (by simp [go_sem, t3, t7, hEq]) (Up.refl _) rfl
          case hend =>
            intro vs W' hu hall
            have d8 : vs 8 = .bool false := hall 8 (by simp)
            obtain ⟨x9, rfl⟩ := hu.mk
            simp only [fillL, Act.put, List.setIfInBounds_toArray, List.set_cons_zero, List.set_cons_succ, d8]
            go_wp2_with fail
            go_roundw
            case rel => exact ⟨k + 1, by omega, by go_num, Lib.hid (fun j hj => by rcases Nat.lt_or_eq_of_le (Nat.le_of_lt_succ hj) with h | h; exact Hk.out j h; rw [h]; exact E.out), mkI⟩
            case measure => simp [intOf]; omega
        · have E := Lib.hid (ln_ne_at Hs.out Ht.out he)
          have hEq : ∀ W, (Op.equalIn 10000 44 (.agg x.cells.toArray) (.agg y.cells.toArray)).run Tryz.prog W = .ok false W := fun W => by rw [hEq0, decide_eq_false he]
          clear he hEq0
          go_wp2_with fail
          refine wp_region_rel2 (relAt [isV (.slice (some ⟨b1, o1, none⟩) N cap), isV (.int .i64 (k : Int)), isV (.pointer (some ⟨b1, o1 + k * 11, none⟩)), isV (.agg x.cells.toArray), isV (.slice (some ⟨b2, o2, none⟩) N cap2), isV (.int .i64 (k : Int)), isV (.pointer (some ⟨b2, o2 + k * 11, none⟩)), isV (.agg y.cells.toArray), isV (.bool true)]) [16, 17, 18, 19, 20, 21, 22, 23, 24] 26 (by kernel_rfl) (by kernel_rfl) (by kernel_rfl) rfl (relAt_mono ?hmono) ⟨?o0, ?o1, ?o2, ?o3, ?o4, ?o5, ?o6, ?o7, ?o8, trivial⟩ ?hend
          case hmono =>
            intro r hr v W1 W2 h1 hu
            simp only [List.mem_cons, List.not_mem_nil, or_false] at hr
            rcases hr with rfl | rfl | rfl | rfl | rfl | rfl | rfl | rfl | rfl
            all_goals exact h1
          case o0 =>
            intro vs W' F Y E hu hd
            have s0 := E.eout 0 (.slice (some ⟨b1, o1, none⟩) N cap) rfl rfl
            exact rel_val (v := .slice (some ⟨b1, o1, none⟩) N cap) rfl (by simp [go_sem, s0]) (Up.refl _) rfl
          case o1 =>
            intro vs W' F Y E hu hd
            have s0 := E.eout 5 (.int .i64 (k : Int)) rfl rfl
            exact rel_val (v := .int .i64 (k : Int)) rfl (by simp [go_sem, s0]) (Up.refl _) rfl
          case o2 =>
            intro vs W' F Y E hu hd
            have d0 : vs 0 = .slice (some ⟨b1, o1, none⟩) N cap := hd ⟨0, .data⟩ (by simp) rfl
            have t0 := E.ein 0 16 _ rfl (by decide) d0
            have d1 : vs 1 = .int .i64 (k : Int) := hd ⟨1, .data⟩ (by simp) rfl
            have t1 := E.ein 1 17 _ rfl (by decide) d1
            exact rel_val (v := .pointer (some ⟨b1, o1 + k * 11, none⟩)) rfl (by simp [go_sem, t0, t1, k0, hlt']) (Up.refl _) rfl
          case o3 =>
            intro vs W' F Y E hu hd
            have d2 : vs 2 = .pointer (some ⟨b1, o1 + k * 11, none⟩) := hd ⟨2, .data⟩ (by simp) rfl
            have t2 := E.ein 2 18 _ rfl (by decide) d2
            exact rel_load rfl _ _ rfl b1 (o1 + k * 11) (by simp [go_sem, t2]) x.cells _ (fun j u hj => hu.cell_some (hX j u hj)) Tryz.underlying44 rfl lnSizeS rfl
          case o4 =>
            intro vs W' F Y E hu hd
            have s0 := E.eout 1 (.slice (some ⟨b2, o2, none⟩) N cap2) rfl rfl
            exact rel_val (v := .slice (some ⟨b2, o2, none⟩) N cap2) rfl (by simp [go_sem, s0]) (Up.refl _) rfl
          case o5 =>
            intro vs W' F Y E hu hd
            have s0 := E.eout 5 (.int .i64 (k : Int)) rfl rfl
            exact rel_val (v := .int .i64 (k : Int)) rfl (by simp [go_sem, s0]) (Up.refl _) rfl
          case o6 =>
            intro vs W' F Y E hu hd
            have d4 : vs 4 = .slice (some ⟨b2, o2, none⟩) N cap2 := hd ⟨4, .data⟩ (by simp) rfl
            have t4 := E.ein 4 20 _ rfl (by decide) d4
            have d5 : vs 5 = .int .i64 (k : Int) := hd ⟨5, .data⟩ (by simp) rfl
            have t5 := E.ein 5 21 _ rfl (by decide) d5
            exact rel_val (v := .pointer (some ⟨b2, o2 + k * 11, none⟩)) rfl (by simp [go_sem, t4, t5, k0, hlt']) (Up.refl _) rfl
          case o7 =>
            intro vs W' F Y E hu hd
            have d6 : vs 6 = .pointer (some ⟨b2, o2 + k * 11, none⟩) := hd ⟨6, .data⟩ (by simp) rfl
            have t6 := E.ein 6 22 _ rfl (by decide) d6
            exact rel_load rfl _ _ rfl b2 (o2 + k * 11) (by simp [go_sem, t6]) y.cells _ (fun j u hj => hu.cell_some (hY j u hj)) Tryz.underlying44 rfl lnSizeS rfl
          case o8 =>
            intro vs W' F Y E hu hd
            have d3 : vs 3 = .agg x.cells.toArray := hd ⟨3, .data⟩ (by simp) rfl
            have t3 := E.ein 3 19 _ rfl (by decide) d3
            have d7 : vs 7 = .agg y.cells.toArray := hd ⟨7, .data⟩ (by simp) rfl
            have t7 := E.ein 7 23 _ rfl (by decide) d7
            exact rel_val (v := .bool true) rfl (by simp [go_sem, t3, t7, hEq]) (Up.refl _) rfl
          case hend =>
            intro vs W' hu hall
            have d8 : vs 8 = .bool true := hall 8 (by simp)
            obtain ⟨x9, rfl⟩ := hu.mk
            simp only [fillL, Act.put, List.setIfInBounds_toArray, List.set_cons_zero, List.set_cons_succ, d8]
            go_wp2_with fail
            go_ret
            exact ⟨ret_bool E.out.symm, mkI⟩
      · have hlt' : (N : Int) ≤ (k : Int) := by omega
        have E := Lib.hid (show (a == b) = true by
          rw [beq_iff_eq]
          apply List.ext_getElem?
          intro j
          by_cases hj : j < N
          · exact Hk.out j (by omega)
          · rw [List.getElem?_eq_none (by rw [HN.out]; omega), List.getElem?_eq_none (by rw [HM.out]; omega)])
        clear hk hlt
        go_wp2_with fail
        go_ret
        exact ⟨ret_bool E.out.symm, mkI⟩
  · have E := Lib.hid (show (a == b) = false by
      rw [beq_eq_false_iff_ne]
      rintro rfl
      exact hNM (HN.out.symm.trans HM.out))
    have hNM' : ((N : Int) == (M : Int)) = false := by rw [beq_eq_false_iff_ne]; omega
    go_enter Tryz.func21, Tryz.ntmps21
    go_wp2_with fail
    go_ret
    exact ⟨ret_bool E.out.symm, mkI⟩
end Go.Proofs.YteciigbonaecoaaGreatDoor
