/- The reference's Ordered and Reads; '==' of its lines; lines turned and compared; a row appended to an empty slice. Streams, of layer 22, and their right flows: the program and the reference. Right streams and phases, and the class of a phase: the program. Right phases and the class of a phase: the program. The class of a phase: the program. -/
import Derived.Test.YteciigbonaecoaaGreatDoorRfA
import Derived.Test.YteciigbonaecoaaGreatDoorDE
import Derived.Test.YteciigbonaecoaaGreatDoorQuiet
import Derived.Test.YteciigbonaecoaaGreatDoorEqCh
import Derived.Test.YteciigbonaecoaaGreatDoorDBuild
import Derived.Test.YteciigbonaecoaaGreatDoorDSame
import Derived.Test.YteciigbonaecoaaGreatDoorRow
import Derived.ArgAppend
import Derived.Test.YteciigbonaecoaaGreatDoorDEx
import Derived.Laws.EntriesVeiled
import Derived.ChangeKeysEq
set_option linter.unusedSimpArgs false
set_option linter.unusedVariables false
namespace Go.Proofs.YteciigbonaecoaaGreatDoor
open Go.RowKit Go.Ab
theorem infoRLine : (Tryz.prog.info? 47).map (fun i => (i.zero, i.size, i.bytes)) = some (some Ln.zero.val, 11, 40) := by kernel_rfl
theorem rcmpK (pr s d sp dp pr' s' d' sp' dp' C : Int) (w : World) (k : KeyB pr s d sp dp) (k' : KeyB pr' s' d' sp' dp') (hC : Hid (keyCmp pr s d sp dp pr' s' d' sp' dp' = C)) :
    Gives Tryz.prog 72 #[.agg #[.int .u8 pr, .int .u32 s, .int .u32 d, .int .u16 sp, .int .u16 dp], .agg #[.int .u8 pr', .int .u32 s', .int .u32 d', .int .u16 sp', .int .u16 dp']] w (.int .i64 C) :=
  (refCompare_any pr s d sp dp pr' s' d' sp' dp' w k k').cast (by rw [hC.out])
set_option maxHeartbeats 32000000 in
set_option maxRecDepth 100000 in
theorem rordered_any (l : List Ln) (v : Value) (w : World) (hv : LnRow w v l) (hb : ∀ x ∈ l, LnB x) (hl : l.length ≤ 1000000000) : Gives Tryz.prog 40 #[v] w (.bool (orderedL l)) := by
  obtain ⟨p, cap, rfl, hle, hc⟩ := hv
  obtain ⟨N, hN⟩ : ∃ N, l.length = N := ⟨_, rfl⟩
  rw [hN] at hle hl ⊢
  have HN := Lib.hid hN
  have Hc := Lib.hid hc
  have Hb := Lib.hid hb
  clear hN hc hb
  unfold Gives
  go_enter Tryz.func40, Tryz.ntmps40
  go_wp2_with fail
  go_loopw [3] (fun i wr => ∃ k : Nat, k ≤ N ∧ i = .int .i64 (k : Int) ∧ Hid (∀ j, j < k → okAt l j = true) ∧ ∃ x : Ext w, wr = x.w) (fun i _ => N - (intOf i).toNat)
  case atStart => exact ⟨0, Nat.zero_le _, rfl, Lib.hid (fun j hj => absurd hj (Nat.not_lt_zero j)), (Up.refl w).mk⟩
  case round =>
    obtain ⟨k, hk, rfl, Hk, x0, rfl⟩ := hrel
    by_cases hlt : k < N
    · have hlt' : (k : Int) < (N : Int) := by omega
      have k0 : (0 : Int) ≤ (k : Int) := by omega
      obtain ⟨x, hx⟩ : ∃ x, l[k]? = some x := ⟨_, List.getElem?_eq_getElem (by rw [HN.out]; exact hlt)⟩
      obtain ⟨b, o, rfl, hbw, hcc⟩ := Hc.out k x hx
      have c0 := hcc 0 _ rfl; have c1 := hcc 1 _ rfl; have c2 := hcc 2 _ rfl; have c3 := hcc 3 _ rfl; have c4 := hcc 4 _ rfl; have c5 := hcc 5 _ rfl; have c6 := hcc 6 _ rfl; have c7 := hcc 7 _ rfl; have c8 := hcc 8 _ rfl; have c9 := hcc 9 _ rfl; have c10 := hcc 10 _ rfl
      rw [Nat.add_zero] at c0
      haveI : LtSize b w := ⟨hbw⟩
      have xb := Hb.out x (List.mem_of_getElem? hx)
      have hR := fun w => rright38_any x w xb
      have Hx := Lib.hid hx
      unfold Ln.val at hR
      clear hcc hx
      cases hr : x.right
      · have E := Lib.hid (ordered_no (k := k) (by rw [HN.out]; exact hlt) (ext_right_false Hx.out hr))
        rw [hr] at hR
        clear hr xb Hx
        go_wp2_with fail
        (refine wp_region_ext (by kernel_rfl) (by kernel_rfl) ?_; (repeat (go_big_quiet_step ((go_at_call 67; exact (hR _).ext)))); refine wpQuiet_nil ?_; rintro _ ⟨y, rfl⟩)
        go_wp2_with fail
        go_ret
        exact ⟨ret_bool E.out.symm, mkI⟩
      · rw [hr] at hR
        rcases Nat.eq_zero_or_pos k with hk0 | hk0
        · have E := Lib.hid (show okAt l k = true by subst hk0; rw [okAt_zero l x Hx.out]; exact hr)
          have hkz : decide (0 < k) = false := decide_eq_false (by omega)
          clear hr xb Hx hk0
          go_wp2_with fail
          (refine wp_region_ext (by kernel_rfl) (by kernel_rfl) ?_; (repeat (go_big_quiet_step ((go_at_call 67; exact (hR _).ext)))); refine wpQuiet_nil ?_; rintro _ ⟨y, rfl⟩)
          go_wp2_with fail
          go_roundw
          case rel => exact ⟨k + 1, by omega, by go_num, Lib.hid (fun j hj => by rcases Nat.lt_or_eq_of_le (Nat.le_of_lt_succ hj) with h | h; exact Hk.out j h; rw [h]; exact E.out), mkI⟩
          case measure => simp [intOf]; omega
        · obtain ⟨m, hm⟩ : ∃ m : Nat, k = m + 1 := ⟨k - 1, by omega⟩
          have hkp : (0 : Int) < (k : Int) := by omega
          have hkm : (k : Int) - 1 = (m : Int) := by omega
          have hm0 : (0 : Int) ≤ (m : Int) := by omega
          have hmN : (m : Int) < (N : Int) := by omega
          obtain ⟨y, hy⟩ : ∃ y, l[m]? = some y := ⟨_, List.getElem?_eq_getElem (by rw [HN.out]; omega)⟩
          obtain ⟨b', o', hp', _, hcy⟩ := Hc.out m y hy
          simp only [Option.some.injEq, Addr.mk.injEq, and_true] at hp'
          obtain ⟨rfl, rfl⟩ := hp'
          have d0 := hcy 0 _ rfl; have d1 := hcy 1 _ rfl; have d2 := hcy 2 _ rfl; have d3 := hcy 3 _ rfl; have d4 := hcy 4 _ rfl
          rw [Nat.add_zero] at d0
          have yb := Hb.out y (List.mem_of_getElem? hy)
          obtain ⟨C, hC⟩ : ∃ C, y.cmp x = C := ⟨_, rfl⟩
          have hcm := fun w => rcmpK y.pr y.s y.d y.sp y.dp x.pr x.s x.d x.sp x.dp C w yb.key xb.key (Lib.hid hC)
          have EQ := Lib.hid (show okAt l k = decide (C < 0) by subst hm; rw [okAt_succ l m x y Hx.out hy, hr, Bool.true_and, hC])
          have hwm : wrap64 (m : Int) = (m : Int) := wrap_len m N (by omega) hl
          clear hcy hy hC xb yb Hx hm hr
          by_cases hC0 : C < 0
          · have E := Lib.hid (show okAt l k = true by rw [EQ.out]; exact decide_eq_true hC0)
            clear EQ
            go_wp2_with fail
            (refine wp_region_ext (by kernel_rfl) (by kernel_rfl) ?_; (repeat (go_big_quiet_step ((first
              | (go_at_call 67; exact (hR _).ext)
              | (go_at_call 72; exact (hcm _).ext))))); refine wpQuiet_nil ?_; rintro _ ⟨y1, rfl⟩)
            go_wp2_with fail
            go_roundw
            case rel => exact ⟨k + 1, by omega, by go_num, Lib.hid (fun j hj => by rcases Nat.lt_or_eq_of_le (Nat.le_of_lt_succ hj) with h | h; exact Hk.out j h; rw [h]; exact E.out), mkI⟩
            case measure => simp [intOf]; omega
          · have hC1 : 0 ≤ C := by omega
            have E := Lib.hid (ordered_no (l := l) (k := k) (by rw [HN.out]; exact hlt) (by rw [EQ.out]; exact decide_eq_false hC0))
            clear EQ hC0
            go_wp2_with fail
            (refine wp_region_ext (by kernel_rfl) (by kernel_rfl) ?_; (repeat (go_big_quiet_step ((first
              | (go_at_call 67; exact (hR _).ext)
              | (go_at_call 72; exact (hcm _).ext))))); refine wpQuiet_nil ?_; rintro _ ⟨y1, rfl⟩)
            go_wp2_with fail
            go_ret
            exact ⟨ret_bool E.out.symm, mkI⟩
    · have hlt' : (N : Int) ≤ (k : Int) := by omega
      have E := Lib.hid (ordered_yes (l := l) (fun j hj => Hk.out j (by rw [HN.out] at hj; omega)))
      clear hk hlt
      go_wp2_with fail
      go_ret
      exact ⟨ret_bool E.out.symm, mkI⟩
set_option maxHeartbeats 32000000 in
set_option maxRecDepth 100000 in
theorem rreads_any (l : List (List UInt8)) (v : Value) (w : World) (hv : StrRow w v l) (hb : ∀ s ∈ l, s.length ≤ 1000000000) (hl : l.length ≤ 1000000) :
    Calls Tryz.prog 39 #[v] w fun e w' => readsE (readsL l) w e w' 47 ∧ ∃ x : Ext w, w' = x.w := by
  obtain ⟨p, cap, rfl, hle, hc⟩ := hv
  obtain ⟨N, hN⟩ : ∃ N, l.length = N := ⟨_, rfl⟩
  rw [hN] at hle hl ⊢
  have HN := Lib.hid hN
  have Hc := Lib.hid hc
  have Hb := Lib.hid hb
  obtain ⟨T, hT⟩ : ∃ T, readsL l = T := ⟨_, rfl⟩
  rw [hT]
  have HT0 := Lib.hid (show readsFrom [] (l.drop 0) = T from hT)
  obtain ⟨i0, hi, hy0, hy1, hy2⟩ := info_parts infoRLine
  have Hi := Lib.hid hi; have Hy0 := Lib.hid hy0; have Hy1 := Lib.hid hy1; have Hy2 := Lib.hid hy2
  clear hN hc hb hT hi hy0 hy1 hy2
  go_enter Tryz.func39, Tryz.ntmps39
  go_wp2_with fail
  go_loopw [5, 6] (fun out i wr => ∃ (k : Nat) (os : List Ln), k ≤ N ∧ i = .int .i64 (k : Int) ∧ Hid (os.length = k) ∧ Hid (readsFrom os (l.drop k) = T) ∧ Hid (∀ x ∈ os, LnB x) ∧ Hid (wr.ownsRow w.heap.size 47 11 out k (os.flatMap Ln.cells)) ∧ ∃ x : Ext w, wr = x.w) (fun _ i _ => N - (intOf i).toNat)
  case atStart => exact ⟨0, [], Nat.zero_le _, rfl, rfl, HT0, Lib.hid (fun x hx => by cases hx), Lib.hid (World.ownsRow_nil _ _ _ _), (Up.refl w).mk⟩
  case round =>
    clear HT0
    obtain ⟨k, os, hk, rfl, Ho, HT, HB, Hown, x0, rfl⟩ := hrel
    by_cases hlt : k < N
    · have hlt' : (k : Int) < (N : Int) := by omega
      have k0 : (0 : Int) ≤ (k : Int) := by omega
      obtain ⟨s, hs⟩ : ∃ s, l[k]? = some s := ⟨_, List.getElem?_eq_getElem (by rw [HN.out]; exact hlt)⟩
      obtain ⟨b, o, rfl, hbw, hcc⟩ := Hc.out k s hs
      have c0 := hcc 0 _ rfl
      rw [Nat.add_zero, Nat.mul_one] at c0
      haveI : LtSize b w := ⟨hbw⟩
      have hrd := fun W => (rread38_any s W (by have := Hb.out s (List.mem_of_getElem? hs); omega)).cast (rreadV_eq s)
      unfold dreadV at hrd
      have Hs := Lib.hid hs
      clear hcc hs
      cases hr : readLn s with
      | none =>
        have E := Lib.hid (show T = (none, k) by rw [← HT.out, reads_no Hs.out (by unfold rstep; rw [hr]), Ho.out])
        simp only [hr, Ln.val, Ln.zero] at hrd
        clear hr
        go_wp2_with (go_at_call 66; refine (hrd _).mono ?_; rintro e w' ⟨rfl, y, rfl⟩)
        (refine wp_region_ext (by kernel_rfl) (by kernel_rfl) ?_; (repeat (go_big_quiet_step (fail))); refine wpQuiet_nil ?_; rintro _ ⟨y1, rfl⟩)
        go_wp2_with fail
        go_ret3
        rw [E.out]
        exact ⟨rfl, mkI⟩
      | some x =>
        have xb := readLn_b hr
        simp only [hr, Ln.val] at hrd
        rcases Nat.eq_zero_or_pos k with hk0 | hk0
        · have hkz : decide (0 < k) = false := decide_eq_false (by omega)
          have hrs : rstep os s = some x := by
            have h0 : os = [] := List.length_eq_zero_iff.1 (by rw [Ho.out]; exact hk0)
            unfold rstep; rw [hr, h0]; rfl
          have E := Lib.hid (show readsFrom (os ++ [x]) (l.drop (k + 1)) = T by rw [← HT.out, reads_go Hs.out hrs])
          have E2 := Lib.hid (lnCells_snoc os x)
          have HB2 := Lib.hid (show ∀ z ∈ os ++ [x], LnB z from fun z hz => by rcases List.mem_append.1 hz with h | h; exact HB.out z h; simp at h; rw [h]; exact xb)
          have Ho2 := Lib.hid (show (os ++ [x]).length = k + 1 by rw [List.length_append, Ho.out]; rfl)
          generalize os.flatMap Ln.cells = cs at *
          clear hr hrs hk0 HT HB Ho xb
          go_wp2_with (go_at_call 66; refine (hrd _).mono ?_; rintro e w' ⟨rfl, y, rfl⟩)
          (refine wp_region_ext (by kernel_rfl) (by kernel_rfl) ?_; (repeat (go_big_quiet_step (fail))); refine wpQuiet_nil ?_; rintro _ ⟨y1, rfl⟩)
          go_wp2_with (at_builtin; refine wpList_append_own _ rfl _ _ 30 rfl w.heap.size 47 i0 Ln.zero.val 11 40 Tryz.underlying30 Hi.out Hy0.out Hy1.out Hy2.out rfl (by decide) _ _ _ rfl (owns_up Hown.out (upI : Up x0.w _)) ⟨_, 0, none⟩ 1 1 x.cells rfl rfl ?c1 ?c2 ?c3 ?c4 ?c5 ?_)
          case c1 =>
            intro j u hj
            have hj11 : j < 11 := (List.getElem?_eq_some_iff.1 hj).1
            rcases (by omega : j = 0 ∨ j = 1 ∨ j = 2 ∨ j = 3 ∨ j = 4 ∨ j = 5 ∨ j = 6 ∨ j = 7 ∨ j = 8 ∨ j = 9 ∨ j = 10) with rfl | rfl | rfl | rfl | rfl | rfl | rfl | rfl | rfl | rfl | rfl
            all_goals (simp [Ln.cells] at hj; subst hj; simp [Addr.add, go_sem])
          case c2 =>
            intro u hu
            simp [Ln.cells] at hu
            rcases hu with rfl | rfl | rfl | rfl | rfl | rfl | rfl | rfl | rfl | rfl | rfl <;> rfl
          case c3 => unfold maxLen; omega
          case c4 => omega
          case c5 => exact (upI : Up w _).size
          intro v' w1 hown' hgrow _
          have hu1 : Up w w1 := Up.grown (upI : Up w _) hgrow (owns_row Hown.out)
          obtain ⟨x1, rfl⟩ := hu1.mk
          have Hown' := Lib.hid hown'
          clear hown' hgrow Hown hrd hu1
          go_wp2_with fail
          go_roundw
          case rel => exact ⟨k + 1, os ++ [x], by omega, by go_num, Ho2, E, HB2, by rw [E2.out]; exact Hown', mkI⟩
          case measure => simp [intOf]; omega
        · obtain ⟨m, hm⟩ : ∃ m : Nat, k = m + 1 := ⟨k - 1, by omega⟩
          have hkp : decide (0 < k) = true := decide_eq_true hk0
          have hkm : (k : Int) - 1 = (m : Int) := by omega
          have hm0 : (0 : Int) ≤ (m : Int) := by omega
          have hmk : (m : Int) < (k : Int) := by omega
          have hwm : wrap64 (m : Int) = (m : Int) := wrap_len m N (by omega) (by omega)
          obtain ⟨y, hy⟩ : ∃ y, os[m]? = some y := ⟨_, List.getElem?_eq_getElem (by rw [Ho.out]; omega)⟩
          have hlast : os.getLast? = some y := by rw [List.getLast?_eq_getElem?, Ho.out, hm]; simpa using hy
          have yb := HB.out y (List.mem_of_getElem? hy)
          obtain ⟨C, hC⟩ : ∃ C, y.cmp x = C := ⟨_, rfl⟩
          have hcm := fun w => rcmpK y.pr y.s y.d y.sp y.dp x.pr x.s x.d x.sp x.dp C w yb.key xb.key (Lib.hid hC)
          obtain ⟨gg, cap2, hgv, hg1, hg2, hg3, hgc⟩ := owns_cells Hown.out hk0
          subst hgv
          have q0 := hgc (m * 11 + 0) _ (flat_at Ln.cells_length os m 0 y _ hy rfl); have q1 := hgc (m * 11 + 1) _ (flat_at Ln.cells_length os m 1 y _ hy rfl); have q2 := hgc (m * 11 + 2) _ (flat_at Ln.cells_length os m 2 y _ hy rfl); have q3 := hgc (m * 11 + 3) _ (flat_at Ln.cells_length os m 3 y _ hy rfl); have q4 := hgc (m * 11 + 4) _ (flat_at Ln.cells_length os m 4 y _ hy rfl)
          rw [Nat.add_zero] at q0
          haveI : LtSize gg x0.w := ⟨hg2⟩
          by_cases hC0 : C < 0
          · have hrs : rstep os s = some x := by unfold rstep; rw [hr, hlast]; simp only [hC]; rw [if_pos hC0]
            have E := Lib.hid (show readsFrom (os ++ [x]) (l.drop (k + 1)) = T by rw [← HT.out, reads_go Hs.out hrs])
            have E2 := Lib.hid (lnCells_snoc os x)
            have HB2 := Lib.hid (show ∀ z ∈ os ++ [x], LnB z from fun z hz => by rcases List.mem_append.1 hz with h | h; exact HB.out z h; simp at h; rw [h]; exact xb)
            have Ho2 := Lib.hid (show (os ++ [x]).length = k + 1 by rw [List.length_append, Ho.out]; rfl)
            clear hgc
            generalize os.flatMap Ln.cells = cs at *
            clear hr hrs hk0 HT HB Ho xb yb hC hlast hy hm hg3
            go_wp2_with (go_at_call 66; refine (hrd _).mono ?_; rintro e w' ⟨rfl, y, rfl⟩)
            (refine wp_region_ext (by kernel_rfl) (by kernel_rfl) ?_; (repeat (go_big_quiet_step ((go_at_call 72; exact (hcm _).ext)))); refine wpQuiet_nil ?_; rintro _ ⟨y1, rfl⟩)
            go_wp2_with (at_builtin; refine wpList_append_own _ rfl _ _ 30 rfl w.heap.size 47 i0 Ln.zero.val 11 40 Tryz.underlying30 Hi.out Hy0.out Hy1.out Hy2.out rfl (by decide) _ _ _ rfl (owns_up Hown.out (upI : Up x0.w _)) ⟨_, 0, none⟩ 1 1 x.cells rfl rfl ?c1 ?c2 ?c3 ?c4 ?c5 ?_)
            case c1 =>
              intro j u hj
              have hj11 : j < 11 := (List.getElem?_eq_some_iff.1 hj).1
              rcases (by omega : j = 0 ∨ j = 1 ∨ j = 2 ∨ j = 3 ∨ j = 4 ∨ j = 5 ∨ j = 6 ∨ j = 7 ∨ j = 8 ∨ j = 9 ∨ j = 10) with rfl | rfl | rfl | rfl | rfl | rfl | rfl | rfl | rfl | rfl | rfl
              all_goals (simp [Ln.cells] at hj; subst hj; simp [Addr.add, go_sem])
            case c2 =>
              intro u hu
              simp [Ln.cells] at hu
              rcases hu with rfl | rfl | rfl | rfl | rfl | rfl | rfl | rfl | rfl | rfl | rfl <;> rfl
            case c3 => unfold maxLen; omega
            case c4 => omega
            case c5 => exact (upI : Up w _).size
            intro v' w1 hown' hgrow _
            have hu1 : Up w w1 := Up.grown (upI : Up w _) hgrow (owns_row Hown.out)
            obtain ⟨x1, rfl⟩ := hu1.mk
            have Hown' := Lib.hid hown'
            clear hown' hgrow Hown hrd hu1 hcm q0 q1 q2 q3 q4
            go_wp2_with fail
            go_roundw
            case rel => exact ⟨k + 1, os ++ [x], by omega, by go_num, Ho2, E, HB2, by rw [E2.out]; exact Hown', mkI⟩
            case measure => simp [intOf]; omega
          · have hC1 : 0 ≤ C := by omega
            have E := Lib.hid (show T = (none, k) by rw [← HT.out, reads_no Hs.out (by unfold rstep; rw [hr, hlast]; simp only [hC]; rw [if_neg hC0]), Ho.out])
            clear hr hk0 HT HB xb yb hC hlast hy hm hg3 hC0 hgc
            go_wp2_with (go_at_call 66; refine (hrd _).mono ?_; rintro e w' ⟨rfl, y, rfl⟩)
            (refine wp_region_ext (by kernel_rfl) (by kernel_rfl) ?_; (repeat (go_big_quiet_step ((go_at_call 72; exact (hcm _).ext)))); refine wpQuiet_nil ?_; rintro _ ⟨y1, rfl⟩)
            go_wp2_with fail
            go_ret3
            rw [E.out]
            exact ⟨rfl, mkI⟩
    · obtain rfl : k = N := by omega
      have E := Lib.hid (show T = (some os, 0) by rw [← HT.out, List.drop_of_length_le (by rw [HN.out]; exact Nat.le_refl _)]; rfl)
      have hown := Hown.out
      rw [← Ho.out] at hown
      have Hown2 := Lib.hid hown
      clear hown
      go_wp2_with fail
      go_ret3
      rw [E.out]
      exact ⟨⟨_, rfl, Hown2.out⟩, mkI⟩
end Go.Proofs.YteciigbonaecoaaGreatDoor
namespace Go.Proofs.YteciigbonaecoaaGreatDoor
open Go.RowKit Go.Ab
set_option maxHeartbeats 8000000 in
set_option maxRecDepth 100000 in
theorem eq_rline (w : World) (pr1 pr2 s1 s2 d1 d2 sp1 sp2 dp1 dp2 sd1 sd2 cl1 cl2 dl1 dl2 sn1 sn2 : Int) (rp1 rp2 ss1 ss2 : Bool) :
    (Op.equalIn 10000 47 (.agg #[.int .u8 pr1, .int .u32 s1, .int .u32 d1, .int .u16 sp1, .int .u16 dp1, .int .u8 sd1, .int .u8 cl1, .bool rp1, .bool ss1, .int .i64 dl1, .int .i64 sn1]) (.agg #[.int .u8 pr2, .int .u32 s2, .int .u32 d2, .int .u16 sp2, .int .u16 dp2, .int .u8 sd2, .int .u8 cl2, .bool rp2, .bool ss2, .int .i64 dl2, .int .i64 sn2])).run Tryz.prog w = .ok (pr1 == pr2 && (s1 == s2 && (d1 == d2 && (sp1 == sp2 && (dp1 == dp2 && (sd1 == sd2 && (cl1 == cl2 && (rp1 == rp2 && (ss1 == ss2 && (dl1 == dl2 && (sn1 == sn2))))))))))) w := by
  cases h0 : (pr1 == pr2) with
  | false => simp [go_sem, h0]
  | true =>
    cases h1 : (s1 == s2) with
    | false => simp [go_sem, h0, h1]
    | true =>
      cases h2 : (d1 == d2) with
      | false => simp [go_sem, h0, h1, h2]
      | true =>
        cases h3 : (sp1 == sp2) with
        | false => simp [go_sem, h0, h1, h2, h3]
        | true =>
          cases h4 : (dp1 == dp2) with
          | false => simp [go_sem, h0, h1, h2, h3, h4]
          | true =>
            cases h5 : (sd1 == sd2) with
            | false => simp [go_sem, h0, h1, h2, h3, h4, h5]
            | true =>
              cases h6 : (cl1 == cl2) with
              | false => simp [go_sem, h0, h1, h2, h3, h4, h5, h6]
              | true =>
                cases h7 : (rp1 == rp2) with
                | false => simp [go_sem, h0, h1, h2, h3, h4, h5, h6, h7]
                | true =>
                  cases h8 : (ss1 == ss2) with
                  | false => simp [go_sem, h0, h1, h2, h3, h4, h5, h6, h7, h8]
                  | true =>
                    cases h9 : (dl1 == dl2) with
                    | false => simp [go_sem, h0, h1, h2, h3, h4, h5, h6, h7, h8, h9]
                    | true =>
                      cases h10 : (sn1 == sn2) <;> simp [go_sem, h0, h1, h2, h3, h4, h5, h6, h7, h8, h9, h10]
theorem eq_rln (x y : Ln) (w : World) : (Op.equalIn 10000 47 (.agg x.cells.toArray) (.agg y.cells.toArray)).run Tryz.prog w = .ok (decide (x = y)) w := by
  obtain ⟨p1, p2, p3, p4, p5, p6, p7, p8, p9, p10, p11⟩ := x
  obtain ⟨r1, r2, r3, r4, r5, r6, r7, r8, r9, r10, r11⟩ := y
  refine (eq_rline w _ _ _ _ _ _ _ _ _ _ _ _ _ _ _ _ _ _ _ _ _ _).trans (congrArg (Result.ok · w) ?_)
  rw [Bool.eq_iff_iff]
  simp
end Go.Proofs.YteciigbonaecoaaGreatDoor
namespace Go.Ab
open Go.RowKit Go.Proofs.YteciigbonaecoaaGreatDoor
theorem flat_snoc (l : List Ln) (k : Nat) (y : Ln) (h : l[k]? = some y) : (l.take (k + 1)).flatMap Ln.cells = (l.take k).flatMap Ln.cells ++ y.cells := by
  rw [take_snoc3 l k y h, List.flatMap_append]; simp
theorem take_len {α : Type} (l : List α) (k : Nat) (h : k ≤ l.length) : (l.take k).length = k := by rw [List.length_take]; omega
end Go.Ab
namespace Go.Proofs.YteciigbonaecoaaGreatDoor
open Go.RowKit Go.Ab
theorem slice_rline (y : Ln) (w : World) : (Instr.buildSlice 30 1 #[(0, .agg y.cells.toArray)]).run Tryz.prog w = .ok (.slice (some ⟨w.heap.size, 0, none⟩) 1 1) (w.alloc (.cells (lnBlk [y]) 47)) := by kernel_rfl
theorem lnBlk_one (y : Ln) : lnBlk [y] = y.cells.toArray := by unfold lnBlk; simp
theorem load_rowG3 {P : Program} {ops : Array Oper} {rest : List Oper} {o : Oper} {a : Act} {w : World} {Q : Exit → Act → World → Prop} (ty : TypeId) (x : Operand) (ho : o.op = .load ty x) (g : Nat) (hx : a.eval x = .pointer (some ⟨g, 0, none⟩)) (hw : Region.wanted o (yielded ops a.tmps) = true) (t : TypeId) (cs : Array Value) (fr : Nat × Nat) (d : TypeDesc) (hg : w.heap[g]? = some (.cells cs t fr))
    (hu : P.underlying ty = some d) (hd : (match d with | .struct _ | .array _ _ => true | _ => false) = true) (hi : (P.info? ty).map (·.size) = some cs.size)
    (h : wpList P ops Q rest (a.put o.dst (.agg cs)) w) : wpList P ops Q (o :: rest) a w :=
  wpList_step fun K hK => by rw [if_pos hw]; exact wp_load_row ty x ho g hx t cs fr d hg hu hd hi (hK _ _ h)
set_option maxHeartbeats 16000000 in
set_option maxRecDepth 100000 in
theorem turned_any (l : List Ln) (v : Value) (w : World) (hv : LnRow w v l) (hl : l.length ≤ 1000000) :
    Calls Tryz.prog 38 #[v] w fun e w' => ∃ u, e = .returned u ∧ w'.ownsRow w.heap.size 47 11 u l.length (l.flatMap Ln.cells) ∧ ∃ x : Ext w, w' = x.w := by
  obtain ⟨p, cap, rfl, hle, hc⟩ := hv
  obtain ⟨N, hN⟩ : ∃ N, l.length = N := ⟨_, rfl⟩
  rw [hN] at hle hl ⊢
  have HN := Lib.hid hN
  have Hc := Lib.hid hc
  obtain ⟨i0, hi, hy0, hy1, hy2⟩ := info_parts infoRLine
  have Hi := Lib.hid hi; have Hy0 := Lib.hid hy0; have Hy1 := Lib.hid hy1; have Hy2 := Lib.hid hy2
  clear hN hc hi hy0 hy1 hy2
  go_enter Tryz.func38, Tryz.ntmps38
  go_wp2_with fail
  go_loopw [3, 8] (fun out i wr => ∃ k : Nat, k ≤ N ∧ i = .int .i64 (k : Int) ∧ Hid (wr.ownsRow w.heap.size 47 11 out k ((l.take k).flatMap Ln.cells)) ∧ Up w wr) (fun _ i _ => N - (intOf i).toNat)
  case atStart => exact ⟨0, Nat.zero_le _, rfl, Lib.hid (World.ownsRow_nil _ _ _ _), Up.refl _⟩
  case round =>
    obtain ⟨k, hk, rfl, Hown, hu⟩ := hrel
    haveI : UpI w wr := ⟨hu⟩
    by_cases hlt : k < N
    · have hlt' : (k : Int) < (N : Int) := by omega
      have k0 : (0 : Int) ≤ (k : Int) := by omega
      obtain ⟨y, hs⟩ : ∃ y, l[k]? = some y := ⟨_, List.getElem?_eq_getElem (by rw [HN.out]; exact hlt)⟩
      obtain ⟨b1, o1, rfl, hb1, hc1⟩ := Hc.out k y hs
      have hY : wr.rangeAt b1 (o1 + k * 11) y.cells := fun j u hj => hu.cell_some (hc1 j u hj)
      have HF := Lib.hid (flat_snoc l k y hs)
      clear hc1 hs
      generalize (l.take k).flatMap Ln.cells = cs at *
      go_upto_region 5 with (first
        | (refine wpList_load_mid rfl 44 _ rfl b1 (o1 + k * 11) rfl y.cells _ hY Tryz.underlying44 rfl lnSize ?_)
        | (refine wpList_store_row rfl 44 _ _ rfl _ y.cells.toArray rfl rfl 44 _ (alloc_new rfl) lnSize rfl (ln_all y) ?_))
      obtain ⟨D, hD⟩ : ∃ D, wr.heap.size = D := ⟨_, rfl⟩
      rw [hD]
      refine wp_letter (fun Z => UpI wr Z ∧ Z.heap[D]? = some (.cells y.cells.toArray 44 (0, 0))) ⟨⟨UpI.row hD _⟩, setRow_heap _ _ _ _ _ _ (alloc_new hD)⟩ ?_
      rintro Z ⟨uZ, hrD⟩
      haveI := uZ
      haveI : UpI w Z := ⟨hu.trans uZ.up⟩
      clear hY hD
      go_wp2_with (first
        | (refine wpList_load_row rfl 44 _ rfl D rfl 44 y.cells.toArray (0, 0) _ hrD Tryz.underlying44 rfl lnSize ?_)
        | (refine wpList_sliceRun rfl 30 1 _ rfl #[(0, .agg y.cells.toArray)] (by kernel_rfl) _ _ (slice_rline y _) ?_)
        | (at_builtin; refine wpList_append_own _ rfl _ _ 30 rfl w.heap.size 47 i0 Ln.zero.val 11 40 Tryz.underlying30 Hi.out Hy0.out Hy1.out Hy2.out rfl (by decide) _ _ _ rfl (owns_up (owns_up Hown.out uZ.up) (upI : Up Z _)) ⟨_, 0, none⟩ 1 1 y.cells rfl rfl ?c1 ?c2 ?c3 ?c4 ?c5 ?_))
      case c1 => intro j u hj; rw [lnBlk_one]; exact ln_at Z y _ j u hj
      case c2 => exact fun u h => y.one u h
      case c3 => unfold maxLen; omega
      case c4 => omega
      case c5 => exact (upI : Up w _).size
      intro v' w1 hown' hgrow _
      have hu1 : Up w w1 := Up.grown (upI : Up w _) hgrow (owns_row Hown.out)
      have Hown' := Lib.hid hown'
      clear hown' hgrow Hown hrD
      go_wp2_with fail
      go_roundw
      case rel => exact ⟨k + 1, by omega, by go_num, by rw [HF.out]; exact Hown', hu1⟩
      case measure => simp [intOf]; omega
    · obtain rfl : k = N := by omega
      have hown := Hown.out
      rw [List.take_of_length_le (by rw [HN.out]; exact Nat.le_refl _)] at hown
      have Hown2 := Lib.hid hown
      clear hown
      go_wp2_with fail
      go_ret
      exact ⟨_, rfl, Hown2.out, hu.mk⟩
theorem turned_row (l : List Ln) (v : Value) (w : World) (hv : LnRow w v l) (hl : l.length ≤ 1000000) :
    Calls Tryz.prog 38 #[v] w fun e w' => ∃ q c, e = .returned (.slice q l.length c) ∧ LnRow w' (.slice q l.length c) l ∧ ∃ x : Ext w, w' = x.w :=
  (turned_any l v w hv hl).mono fun e w' ⟨u, h1, h2, h3⟩ => by
    have h4 := RowOf.of_owns Ln.cells_length h2
    have h5 := h4
    obtain ⟨q, c, rfl, _⟩ := h5
    exact ⟨q, c, h1, h4, h3⟩
attribute [local go_sem high] eq_rln
set_option maxHeartbeats 16000000 in
set_option maxRecDepth 100000 in
theorem equals_any (a b : List Ln) (va vb : Value) (w : World) (ha : LnRow w va a) (hb : LnRow w vb b) (la : a.length ≤ 1000000) (lb : b.length ≤ 1000000) : Gives Tryz.prog 16 #[va, vb] w (.bool (a == b)) := by
  have hT := fun W (h : UpI w W) => turned_row a va W (ha.up h.up) la
  clear ha
  obtain ⟨q, cap2, rfl, hle2, hd⟩ := hb
  obtain ⟨N, hN⟩ : ∃ N, a.length = N := ⟨_, rfl⟩
  obtain ⟨M, hM⟩ : ∃ M, b.length = M := ⟨_, rfl⟩
  rw [hN] at hT la
  rw [hM] at hle2 lb ⊢
  have HN := Lib.hid hN
  have HM := Lib.hid hM
  have Hd := Lib.hid hd
  clear hN hM hd
  unfold Gives
  by_cases hNM : N = M
  · subst hNM
    go_enter Tryz.func16, Tryz.ntmps16
    go_upto_region 5 with (go_at_call 38; refine (hT _ inferInstance).mono ?_; rintro e w' ⟨p, cap, rfl, hrow, z1, rfl⟩)
    obtain ⟨p', cap', hpe, hle, hc⟩ := hrow
    rw [HN.out] at hpe hle
    simp only [Value.slice.injEq, true_and] at hpe
    obtain ⟨rfl, rfl⟩ := hpe
    have Hc := Lib.hid hc
    clear hc hT
    generalize hz1 : z1.w = W at *
    haveI uW : UpI w W := ⟨hz1 ▸ z1.up⟩
    clear hz1
    go_loopw [16] (fun i wr => ∃ k : Nat, k ≤ N ∧ i = .int .i64 (k : Int) ∧ Hid (∀ j, j < k → a[j]? = b[j]?) ∧ ∃ x : Ext W, wr = x.w) (fun i _ => N - (intOf i).toNat)
    case atStart => exact ⟨0, Nat.zero_le _, rfl, Lib.hid (fun j hj => absurd hj (Nat.not_lt_zero j)), (Up.refl W).mk⟩
    case round =>
      obtain ⟨k, hk, rfl, Hk, x0, rfl⟩ := hrel
      by_cases hlt : k < N
      · have hlt' : (k : Int) < (N : Int) := by omega
        have k0 : (0 : Int) ≤ (k : Int) := by omega
        obtain ⟨x, hs⟩ : ∃ x, a[k]? = some x := ⟨_, List.getElem?_eq_getElem (by rw [HN.out]; exact hlt)⟩
        obtain ⟨y, ht⟩ : ∃ y, b[k]? = some y := ⟨_, List.getElem?_eq_getElem (by rw [HM.out]; exact hlt)⟩
        obtain ⟨b1, o1, rfl, hb1, hc1⟩ := Hc.out k x hs
        obtain ⟨b2, o2, rfl, hb2, hc2⟩ := Hd.out k y ht
        have hX : x0.w.rangeAt b1 (o1 + k * 11) x.cells := fun j u hj => x0.up.cell_some (hc1 j u hj)
        have hY : x0.w.rangeAt b2 (o2 + k * 11) y.cells := fun j u hj => (uW.up.trans x0.up).cell_some (hc2 j u hj)
        have Hs := Lib.hid hs
        have Ht := Lib.hid ht
        clear hc1 hc2 hs ht
        obtain ⟨d, hd⟩ : ∃ d, decide (x = y) = d := ⟨_, rfl⟩
        go_upto_region 7 with fail
        refine wp_region_ext (by kernel_rfl) (by kernel_rfl) ?_
        repeat (first
          | (refine wpQuiet_load_mid (by kernel_rfl) 47 _ rfl b1 (o1 + k * 11) rfl x.cells _ (range_ext hX) Tryz.underlying47 rfl rlnSize ?_; simp only [Act.put, List.setIfInBounds_toArray, List.set_cons_succ, List.set_cons_zero])
          | (refine wpQuiet_load_mid (by kernel_rfl) 47 _ rfl b2 (o2 + k * 11) rfl y.cells _ (range_ext hY) Tryz.underlying47 rfl rlnSize ?_; simp only [Act.put, List.setIfInBounds_toArray, List.set_cons_succ, List.set_cons_zero])
          | go_big_quiet_step (fail))
        refine wpQuiet_nil ?_
        rintro _ ⟨z2, rfl⟩
        cases d
        · have E := Lib.hid (ln_ne_at Hs.out Ht.out (of_decide_eq_false hd))
          go_wp2_with fail
          go_ret
          exact ⟨ret_bool E.out.symm, mkI⟩
        · have E := Lib.hid (show a[k]? = b[k]? by rw [Hs.out, Ht.out, of_decide_eq_true hd])
          go_wp2_with fail
          go_roundw
          case rel => exact ⟨k + 1, by omega, by go_num, Lib.hid (fun j hj => by rcases Nat.lt_or_eq_of_le (Nat.le_of_lt_succ hj) with h | h; exact Hk.out j h; rw [h]; exact E.out), mkI⟩
          case measure => simp [intOf]; omega
      · obtain rfl : k = N := by omega
        have E := Lib.hid (show (a == b) = true by
          rw [beq_iff_eq]
          apply List.ext_getElem?
          intro j
          by_cases hj : j < k
          · exact Hk.out j hj
          · rw [List.getElem?_eq_none (by rw [HN.out]; omega), List.getElem?_eq_none (by rw [HM.out]; omega)])
        go_wp2_with fail
        go_ret
        exact ⟨ret_bool E.out.symm, mkI⟩
  · have E := Lib.hid (show (a == b) = false by
      rw [beq_eq_false_iff_ne]
      intro h
      exact hNM (by rw [← HN.out, ← HM.out, h]))
    have hne : ¬ (N : Int) = (M : Int) := by omega
    go_enter Tryz.func16, Tryz.ntmps16
    go_wp2_with (go_at_call 38; refine (hT _ inferInstance).mono ?_; rintro e w' ⟨p, cap, rfl, hrow, z1, rfl⟩)
    go_ret
    exact ⟨ret_bool E.out.symm, mkI⟩
end Go.Proofs.YteciigbonaecoaaGreatDoor
namespace Go.Ab
open Go.RowKit Go.Proofs.YteciigbonaecoaaGreatDoor
theorem add_offC (b o j : Nat) : Addr.add ⟨b, o, none⟩ j = ⟨b, o + j, none⟩ := by cases j <;> simp [Addr.add]
/-- The cells of a row, one behind the other. -/
theorem row_at {α : Type} {cells : α → List Value} {k : Nat} (hk : ∀ e, (cells e).length = k) (hk0 : 0 < k) {w : World} {p : Addr} {n cap : Nat} {l : List α} (h : RowOf cells k w (.slice (some p) n cap) l) (j : Nat) (u : Value) (hu : (l.flatMap cells)[j]? = some u) : w.cell? (p.add j) = some u := by
  obtain ⟨p', c', hv, _, hc⟩ := h
  simp only [Value.slice.injEq] at hv
  obtain ⟨rfl, _, _⟩ := hv
  have hj : j < l.length * k := by rw [← flat_length (cells := cells) hk]; exact (List.getElem?_eq_some_iff.1 hu).1
  have hd : j / k < l.length := Nat.div_lt_of_lt_mul (by rw [Nat.mul_comm]; exact hj)
  obtain ⟨z, hz⟩ : ∃ z, l[j / k]? = some z := ⟨_, List.getElem?_eq_getElem hd⟩
  obtain ⟨v, hv⟩ : ∃ v, (cells z)[j % k]? = some v := ⟨_, List.getElem?_eq_getElem (by rw [hk]; exact Nat.mod_lt _ hk0)⟩
  have h1 := flat_at hk l (j / k) (j % k) z v hz hv
  rw [Nat.div_add_mod' j k, hu] at h1
  obtain rfl := Option.some.inj h1
  obtain ⟨b, o, hp, _, hcz⟩ := hc (j / k) z hz
  obtain rfl := Option.some.inj hp
  have := hcz (j % k) _ hv
  rw [Nat.add_assoc, Nat.div_add_mod' j k] at this
  rw [add_offC]
  exact this
theorem row_nil {α : Type} {cells : α → List Value} {k : Nat} {w : World} {n cap : Nat} {l : List α} (h : RowOf cells k w (.slice none n cap) l) : l = [] := by
  obtain ⟨p', c', hv, _, hc⟩ := h
  simp only [Value.slice.injEq] at hv
  cases l with
  | nil => rfl
  | cons x t => obtain ⟨b, o, hp, _⟩ := hc 0 x rfl; rw [← hv.1] at hp; cases hp
section
variable {P : Program} {α : Type} {cells : α → List Value}
theorem run_append_fresh (w : World) (t ty e : TypeId) (i : TypeInfo) (z : Value) (size bytes : Nat) (ht : P.underlying t = some (.slice e)) (hi : P.info? e = some i) (hz : i.zero = some z)
    (hsize : i.size = size) (hby : i.bytes = bytes) (hzs : z.cells.size = size) (hsz : 0 < size) (hk : ∀ e, (cells e).length = size) (g : Nat) (va : Value) (l : List α) (hv : RowOf cells size w va l) (hn : ∀ n c, va = .slice none n c → c = 0)
    (h63 : l.length ≤ maxLen) (hbytes : l.length * bytes ≤ 140737488355328) :
    ∃ q c w', (Builtin.append_ #[t, t] ty #[.slice (some ⟨g, 0, none⟩) 0 0, va]).run P w = .ok (.slice q l.length c) w' ∧ Up w w' ∧ RowOf cells size w' (.slice q l.length c) l := by
  have hv2 := hv
  obtain ⟨p, cap, rfl, hle, hc⟩ := hv2
  rcases Nat.eq_zero_or_pos l.length with h0 | h0
  · obtain rfl := List.length_eq_zero_iff.1 h0
    refine ⟨some ⟨g, 0, none⟩, 0, w, ?_, Up.refl w, RowOf.nil' w _ _⟩
    cases p <;> simp [Builtin.append_, run_underlying ht, sizeOf, typeInfo, hi, Builtin.lenOf, Builtin.firstCells, loadCells, loadCellsFrom, storeCells]
  · cases p with
    | none =>
      have := row_nil hv
      rw [this] at h0; cases h0
    | some a =>
      obtain ⟨v', w', hr, hown, hg⟩ := run_append_arg_grows (P := P) w t ty e i z size bytes ht hi hz hsize hby hzs hsz ⟨g, 0, none⟩ 0 0 [] (by simp) (fun j u h => by simp at h) a l.length cap (l.flatMap cells) (flat_length hk l) (fun j u hu => row_at hk hsz hv j u hu) (by omega) (by omega) (by rw [Nat.zero_add]; exact hbytes)
      rw [Nat.zero_add, List.nil_append] at hown
      have hrow := RowOf.of_owns hk hown
      have hrow2 := hrow
      obtain ⟨q, c, rfl, _⟩ := hrow2
      exact ⟨q, c, w', hr, (Up.refl w).grown hg (fun k h => by cases h), hrow⟩
theorem wpList_append_fresh {ops : Array Oper} {rest : List Oper} {o : Oper} {a : Act} {w : World} {Q : Exit → Act → World → Prop} (hgd : o.guard = none) (s x : Operand) (t : TypeId)
    (ho : o.op = .call { callee := .builtin .append, args := #[s, x], argTypes := #[t, t] })
    (e : TypeId) (i : TypeInfo) (z : Value) (size bytes : Nat) (ht : P.underlying t = some (.slice e)) (hi : P.info? e = some i) (hz : i.zero = some z)
    (hsize : i.size = size) (hby : i.bytes = bytes) (hzs : z.cells.size = size) (hsz : 0 < size) (hk : ∀ e, (cells e).length = size) (g : Nat) (hs : a.eval s = .slice (some ⟨g, 0, none⟩) 0 0)
    (va : Value) (l : List α) (hx : a.eval x = va) (hv : RowOf cells size w va l) (hn : ∀ n c, va = .slice none n c → c = 0)
    (h63 : l.length ≤ maxLen) (hbytes : l.length * bytes ≤ 140737488355328)
    (h : ∀ q c w', Up w w' → RowOf cells size w' (.slice q l.length c) l → wpList P ops Q rest (a.put o.dst (.slice q l.length c)) w') : wpList P ops Q (o :: rest) a w :=
  wpList_plain hgd fun _ hK => by
    obtain ⟨q, c, w', hr, hu, hrow⟩ := run_append_fresh (P := P) w t o.type e i z size bytes ht hi hz hsize hby hzs hsz hk g va l hv hn h63 hbytes
    unfold Oper.wp execOp
    simp only [ho, resolve, invoke, builtin, Sem.run_bind, Sem.run_pure, Result.andThen_ok, List.map_toArray, List.map_cons, List.map_nil, hs, hx, hr]
    exact hK _ _ (h q c w' hu hrow)
end
end Go.Ab
namespace Go.Ab
open Go.RowKit Go.Proofs.YteciigbonaecoaaGreatDoor
/-- The type that answers a type, and whether there is one. -/
def ansB (t : Int) : Bool := decide (t = 8) || (decide (t = 13) || decide (t = 17))
def ansV (t : Int) : Int := if t = 8 then 0 else if t = 13 then 14 else if t = 17 then 18 else 0
def sOpenB (kd ty : Int) : Bool := decide (kd = 2) || (decide (kd = 3) && ansB ty)
def sRightB (kd st ty : Int) : Bool := (decide (st = 1) || decide (st = 2)) && ((decide (kd = 2) && decide (ty = 0)) || (decide (kd = 3) && ansB ty))
end Go.Ab
namespace Go.Proofs.YteciigbonaecoaaGreatDoor
open Go.RowKit Go.Ab
structure GoodF (w : World) : Prop where
  goodD : GoodD w
  ans : ∃ bm, w.cell? ⟨10, 0, none⟩ = some (.map (some bm)) ∧ ∀ (t : Int) (W : World), 0 ≤ t → t < 256 → Up w W → (Instr.lookup 283 (.map (some bm)) (.int .u8 t) true).run Tryz.prog W = .ok (.tuple #[.int .u8 (ansV t), .bool (ansB t)]) W
  cls : ∀ (i : Nat) (n : Int), ([0, 0, 0, 1, 2, 2, 2, 3, 4] : List Int)[i]? = some n → w.cell? ⟨1, i, none⟩ = some (.int .u8 n)
theorem GoodF.up {w W : World} (g : GoodF w) (h : Up w W) : GoodF W := ⟨g.goodD.up h, by
  obtain ⟨bm, h1, h2⟩ := g.ans
  exact ⟨bm, h.cell_some h1, fun t W' a b u => h2 t W' a b (h.trans u)⟩, fun i n hn => h.cell_some (g.cls i n hn)⟩
set_option maxHeartbeats 4000000 in
set_option maxRecDepth 100000 in
theorem answer_any (t : Int) (w : World) (g : GoodF w) (h0 : 0 ≤ t) (h1 : t < 256) : Gives Tryz.prog 175 #[.int .u8 t] w (.tuple #[.int .u8 (ansV t), .bool (ansB t)]) := by
  obtain ⟨bm, hc, hl⟩ := g.ans
  have hlk := fun W (u : UpI w W) => hl t W h0 h1 u.up
  clear hl
  generalize ansV t = V at *
  generalize ansB t = B at *
  unfold Gives
  go_enter Tryz.func175, Tryz.ntmps175
  go_wp2_with fail
  go_ret2
  exact ⟨rfl, mkI⟩
theorem refAnswer_any (t : Int) (w : World) (h0 : 0 ≤ t) (h1 : t < 256) : Gives Tryz.prog 138 #[.int .u8 t] w (.int .i64 (if t = 8 then 0 else if t = 13 then 14 else if t = 17 then 18 else -1)) := by
  unfold Gives
  go_enter Tryz.func138, Tryz.ntmps138
  by_cases e8 : t = 8
  · subst e8
    go_wp2_with fail
    go_ret
    exact ⟨rfl, mkI⟩
  by_cases e13 : t = 13
  · subst e13
    go_wp2_with fail
    go_ret
    exact ⟨rfl, mkI⟩
  by_cases e17 : t = 17
  · subst e17
    go_wp2_with fail
    go_ret
    exact ⟨rfl, mkI⟩
  go_wp2_with fail
  go_ret
  exact ⟨rfl, mkI⟩
set_option maxHeartbeats 4000000 in
set_option maxRecDepth 100000 in
theorem srefRight_any (kd st ty : Int) (w : World) (k0 : 0 ≤ kd) (k1 : kd < 256) (s0 : 0 ≤ st) (s1 : st < 256) (t0 : 0 ≤ ty) (t1 : ty < 256) : Gives Tryz.prog 109 #[.agg #[.int .u8 kd, .int .u8 st, .int .u8 ty]] w (.bool (sRightB kd st ty)) := by
  have hA := fun W => refAnswer_any ty W t0 t1
  obtain ⟨AN, hAN, hAB⟩ : ∃ n, (if ty = 8 then (0 : Int) else if ty = 13 then 14 else if ty = 17 then 18 else -1) = n ∧ (if ansB ty then 0 ≤ n else n < 0) := by
    refine ⟨_, rfl, ?_⟩
    unfold ansB
    by_cases e8 : ty = 8
    · simp [e8]
    · by_cases e13 : ty = 13
      · simp [e13]
      · by_cases e17 : ty = 17
        · simp [e17]
        · simp [e8, e13, e17]
  rw [hAN] at hA
  clear hAN
  unfold Gives
  go_enter Tryz.func109, Tryz.ntmps109
  by_cases hs : st = 1 ∨ st = 2
  · have hs' : (decide (st = 1) || decide (st = 2)) = true := by rcases hs with h | h <;> simp [h]
    unfold sRightB
    rw [hs', Bool.true_and]
    by_cases k2 : kd = 2
    · subst k2
      by_cases t00 : ty = 0
      · subst t00
        rcases hs with h | h <;> subst h <;> (go_wp2_with fail; go_ret; exact ⟨rfl, mkI⟩)
      · have tb : (ty == 0) = false := by simpa using t00
        rcases hs with h | h <;> subst h <;> (go_wp2_with fail; go_ret; exact ⟨ret_bool (by simp [t00]), mkI⟩)
    · have kb2 : (kd == 2) = false := by simpa using k2
      by_cases k3 : kd = 3
      · subst k3
        cases hB : ansB ty
        · rw [hB] at hAB
          have hAB' : AN < 0 := by simpa using hAB
          rcases hs with h | h <;> subst h <;> (go_wp2_with (go_at_call 138; (with_reducible refine (hA _).mono ?_); rintro e w' ⟨rfl, z1, rfl⟩); go_ret; exact ⟨ret_bool (by simp; omega), mkI⟩)
        · rw [hB] at hAB
          have hAB' : 0 ≤ AN := by simpa using hAB
          rcases hs with h | h <;> subst h <;> (go_wp2_with (go_at_call 138; (with_reducible refine (hA _).mono ?_); rintro e w' ⟨rfl, z1, rfl⟩); go_ret; exact ⟨ret_bool (by simp [hAB']), mkI⟩)
      · have kb3 : (kd == 3) = false := by simpa using k3
        rcases hs with h | h <;> subst h <;> (go_wp2_with fail; go_ret; exact ⟨ret_bool (by simp [k2, k3]), mkI⟩)
  · have h1 : ¬ st = 1 := fun h => hs (.inl h)
    have h2 : ¬ st = 2 := fun h => hs (.inr h)
    have b1 : (st != 1) = true := by simpa using h1
    have b2 : (st != 2) = true := by simpa using h2
    go_wp2_with fail
    go_ret
    exact ⟨ret_bool (by simp [sRightB, h1, h2]), mkI⟩
def fnV (n : Nat) : Value := .func (.func n) #[] #[]
def kindV (kd : Int) : Array Value := if kd = 2 then #[fnV 172, fnV 173] else if kd = 3 then #[fnV 174, fnV 176] else #[.nilFunc, .nilFunc]
set_option maxHeartbeats 4000000 in
set_option maxRecDepth 100000 in
theorem kinds_any (kd : Int) (w : World) : Gives Tryz.prog 157 #[.int .u8 kd] w (.tuple #[.agg (kindV kd), .bool (decide (kd = 2) || decide (kd = 3))]) := by
  unfold Gives
  go_enter Tryz.func157, Tryz.ntmps157
  by_cases k2 : kd = 2
  · subst k2
    go_wp2_with fail
    exact bodyPost_ret (v := .tuple #[.agg (kindV 2), .bool true]) (by simp [results, Tryz.results157, go_sem, kindV, fnV]) rfl ⟨rfl, mkI⟩
  · have b2 : (kd == 2) = false := by simpa using k2
    by_cases k3 : kd = 3
    · subst k3
      go_wp2_with fail
      exact bodyPost_ret (v := .tuple #[.agg (kindV 3), .bool true]) (by simp [results, Tryz.results157, go_sem, kindV, fnV]) rfl ⟨rfl, mkI⟩
    · have b3 : (kd == 3) = false := by simpa using k3
      go_wp2_with fail
      exact bodyPost_ret (v := .tuple #[.agg (kindV kd), .bool false]) (by simp [results, Tryz.results157, go_sem, kindV, k2, k3]) rfl ⟨by simp [k2, k3], mkI⟩
/-- The facts of a packet with a kind and a type. -/
def factsA (kd ty : Int) : Array Value := #[.int .u8 0, .int .u32 0, .int .u32 0, .int .u16 0, .int .u16 0, .int .u8 kd, .int .u8 0, .int .u8 ty, .int .u8 0, .int .u32 0, .int .u32 0, .int .i64 0, .int .i64 0, .int .u8 0, .int .u32 0, .int .u32 0, .int .u16 0, .int .u16 0, .int .u8 0]
def streamA (kd st ty : Int) : Array Value := #[.int .u8 kd, .int .u8 st, .int .u8 ty]
def sOpenA (kd ty : Int) : Array Value := if sOpenB kd ty then streamA kd 1 (if kd = 3 then ty else 0) else streamA 0 0 0
set_option maxHeartbeats 4000000 in
set_option maxRecDepth 100000 in
theorem opens1_any (cs : Array Value) (w : World) : Gives Tryz.prog 172 #[.agg cs] w (.bool true) := by
  unfold Gives
  go_enter Tryz.func172, Tryz.ntmps172
  go_wp2_with fail
  go_ret
  exact ⟨rfl, mkI⟩
set_option maxHeartbeats 4000000 in
set_option maxRecDepth 100000 in
theorem opens3_any (kd ty : Int) (w : World) (g : GoodF w) (t0 : 0 ≤ ty) (t1 : ty < 256) : Gives Tryz.prog 174 #[.agg (factsA kd ty)] w (.bool (ansB ty)) := by
  have hA := fun W (h : UpI w W) => answer_any ty W (g.up h.up) t0 t1
  generalize ansV ty = V at *
  generalize ansB ty = B at *
  unfold factsA
  unfold Gives
  go_enter Tryz.func174, Tryz.ntmps174
  go_wp2_with (go_at_call 175; (with_reducible refine (hA _ inferInstance).mono ?_); rintro e w' ⟨rfl, z1, rfl⟩)
  go_ret
  exact ⟨rfl, mkI⟩
theorem wpList_load_rowF {P : Program} {ops : Array Oper} {rest : List Oper} {o : Oper} {a : Act} {w : World} {Q : Exit → Act → World → Prop} (ty : TypeId) (x : Operand) (ho : o.op = .load ty x) (g : Nat) (hx : a.eval x = .pointer (some ⟨g, 0, none⟩)) (hw : Region.wanted o (yielded ops a.tmps) = true) (t : TypeId) (cs : Array Value) (fr : Nat × Nat) (d : TypeDesc) (hg : w.heap[g]? = some (.cells cs t fr))
    (hu : P.underlying ty = some d) (hd : (match d with | .struct _ | .array _ _ => true | _ => false) = true) (hi : (P.info? ty).map (·.size) = some cs.size)
    (h : wpList P ops Q rest (a.put o.dst (.agg cs)) w) : wpList P ops Q (o :: rest) a w :=
  wpList_step fun K hK => by rw [if_pos hw]; exact wp_load_row ty x ho g hx t cs fr d hg hu hd hi (hK _ _ h)
theorem factsSize : (Tryz.prog.info? 233).map (·.size) = some 19 := by kernel_rfl
theorem free_atF {w : World} {b : Nat} {cs : Array Value} {t : TypeId} (h : w.heap[b]? = some (.cells cs t (0, 0))) (i : Nat) : w.frozen? ⟨b, i, none⟩ = false := by
  simp [World.frozen?, h]
theorem row_cellF {w : World} {b : Nat} {cs : Array Value} {t : TypeId} {fr : Nat × Nat} (h : w.heap[b]? = some (.cells cs t fr)) (j : Nat) (u : Value) (hu : cs[j]? = some u) : w.cell? ⟨b, j, none⟩ = some u := by rw [cell_of_row w b j _ _ _ h, hu]
set_option maxHeartbeats 16000000 in
set_option maxRecDepth 100000 in
theorem sopen_any (kd ty : Int) (w : World) (g : GoodF w) (t0 : 0 ≤ ty) (t1 : ty < 256) : Gives Tryz.prog 137 #[.agg (factsA kd ty)] w (.tuple #[.agg (sOpenA kd ty), .bool (sOpenB kd ty)]) := by
  have hK := fun W => kinds_any kd W
  have hO1 := fun W => opens1_any (factsA kd ty) W
  have hO3 := fun W (h : UpI w W) => opens3_any kd ty W (g.up h.up) t0 t1
  have hf5 : (factsA kd ty)[5]? = some (.int .u8 kd) := rfl
  have hf7 : (factsA kd ty)[7]? = some (.int .u8 ty) := rfl
  have hfs : (Tryz.prog.info? 233).map (·.size) = some (factsA kd ty).size := factsSize
  unfold sOpenA sOpenB
  generalize factsA kd ty = fa at *
  unfold Gives
  go_enter Tryz.func137, Tryz.ntmps137
  go_upto_region 1 with fail
  obtain ⟨A, hA⟩ : ∃ A, w.heap.size = A := ⟨_, rfl⟩
  rw [hA]
  refine wp_letter (fun W => UpI w W ∧ W.heap[A]? = some (.cells fa 233 (0, 0)) ∧ W.heap[A + 1]? = some (.cells (streamA 0 0 0) 195 (0, 0)) ∧ W.heap.size = A + 2)
    ⟨inferInstance, (Below.heap_alloc _ _ _ (by rw [World.size_alloc, hA]; exact Nat.lt_succ_self _)).trans (alloc_new hA), alloc_new (by rw [World.size_alloc, hA]), by rw [World.size_alloc, World.size_alloc, hA]⟩ ?_
  haveI : GeSize w (A + 1) := ⟨by rw [hA]; exact Nat.le_succ A⟩
  clear hA
  rintro W ⟨uW, hRA, hRB, hS⟩
  haveI := uW
  have f0 := free_atF hRB 0
  have f1 := free_atF hRB 1
  have f2 := free_atF hRB 2
  have c5 := row_cellF hRA 5 _ hf5
  have c7 := row_cellF hRA 7 _ hf7
  have d0 : W.cell? ⟨A + 1, 0, none⟩ = some (.int .u8 0) := row_cellF hRB 0 _ rfl
  have d1 : W.cell? ⟨A + 1, 1, none⟩ = some (.int .u8 0) := row_cellF hRB 1 _ rfl
  have d2 : W.cell? ⟨A + 1, 2, none⟩ = some (.int .u8 0) := row_cellF hRB 2 _ rfl
  haveI : LtSize A W := ⟨by omega⟩
  haveI : LtSize (A + 1) W := ⟨by omega⟩
  have hKt : kindV 2 = #[fnV 172, fnV 173] ∧ kindV 3 = #[fnV 174, fnV 176] := ⟨rfl, rfl⟩
  by_cases k2 : kd = 2
  · subst k2
    rw [hKt.1] at hK
    unfold fnV at hK
    go_wp2_with (first
      | (refine wpList_load_rowF 233 _ rfl A rfl (by first | kernel_rfl | rfl) 233 fa (0, 0) _ (((upI : Up W _).block A (LtSize.lt (b := A))).trans hRA) Tryz.underlying233 rfl hfs ?_)
      | (go_at_call 157; (with_reducible refine (hK _).mono ?_); rintro e w' ⟨rfl, z1, rfl⟩)
      | (go_at_call 172; (with_reducible refine (hO1 _).mono ?_); rintro e w' ⟨rfl, z2, rfl⟩)
      | (go_at_call 174; (with_reducible refine (hO3 _ inferInstance).mono ?_); rintro e w' ⟨rfl, z3, rfl⟩))
    exact bodyPost_ret (v := .tuple #[.agg (streamA 2 1 0), .bool true]) (by simp [results, Tryz.results137, go_sem, streamA, d0, d1, d2]) rfl ⟨rfl, mkI⟩
  have b2 : (kd == 2) = false := by simpa using k2
  by_cases k3 : kd = 3
  · subst k3
    rw [hKt.2] at hK
    unfold fnV at hK
    cases hB : ansB ty
    · rw [hB] at hO3
      go_wp2_with (first
        | (refine wpList_load_rowF 233 _ rfl A rfl (by first | kernel_rfl | rfl) 233 fa (0, 0) _ (((upI : Up W _).block A (LtSize.lt (b := A))).trans hRA) Tryz.underlying233 rfl hfs ?_)
        | (go_at_call 157; (with_reducible refine (hK _).mono ?_); rintro e w' ⟨rfl, z1, rfl⟩)
        | (go_at_call 172; (with_reducible refine (hO1 _).mono ?_); rintro e w' ⟨rfl, z2, rfl⟩)
        | (go_at_call 174; (with_reducible refine (hO3 _ inferInstance).mono ?_); rintro e w' ⟨rfl, z3, rfl⟩))
      exact bodyPost_ret (v := .tuple #[.agg (streamA 0 0 0), .bool false]) (by simp [results, Tryz.results137, go_sem, streamA, d0, d1, d2]) rfl ⟨by simp [streamA], mkI⟩
    · rw [hB] at hO3
      go_wp2_with (first
        | (refine wpList_load_rowF 233 _ rfl A rfl (by first | kernel_rfl | rfl) 233 fa (0, 0) _ (((upI : Up W _).block A (LtSize.lt (b := A))).trans hRA) Tryz.underlying233 rfl hfs ?_)
        | (go_at_call 157; (with_reducible refine (hK _).mono ?_); rintro e w' ⟨rfl, z1, rfl⟩)
        | (go_at_call 172; (with_reducible refine (hO1 _).mono ?_); rintro e w' ⟨rfl, z2, rfl⟩)
        | (go_at_call 174; (with_reducible refine (hO3 _ inferInstance).mono ?_); rintro e w' ⟨rfl, z3, rfl⟩))
      exact bodyPost_ret (v := .tuple #[.agg (streamA 3 1 ty), .bool true]) (by simp [results, Tryz.results137, go_sem, streamA, d0, d1, d2]) rfl ⟨by simp [streamA], mkI⟩
  · have b3 : (kd == 3) = false := by simpa using k3
    have hKe : kindV kd = #[.nilFunc, .nilFunc] := by unfold kindV; rw [if_neg k2, if_neg k3]
    rw [hKe] at hK
    simp only [decide_eq_false k2, decide_eq_false k3, Bool.or_false] at hK
    go_wp2_with (first
      | (refine wpList_load_rowF 233 _ rfl A rfl (by first | kernel_rfl | rfl) 233 fa (0, 0) _ (((upI : Up W _).block A (LtSize.lt (b := A))).trans hRA) Tryz.underlying233 rfl hfs ?_)
      | (go_at_call 157; (with_reducible refine (hK _).mono ?_); rintro e w' ⟨rfl, z1, rfl⟩)
      | (go_at_call 172; (with_reducible refine (hO1 _).mono ?_); rintro e w' ⟨rfl, z2, rfl⟩)
      | (go_at_call 174; (with_reducible refine (hO3 _ inferInstance).mono ?_); rintro e w' ⟨rfl, z3, rfl⟩))
    all_goals exact bodyPost_ret (v := .tuple #[.agg (streamA 0 0 0), .bool false]) (by simp [results, Tryz.results137, go_sem, streamA, d0, d1, d2]) rfl ⟨by simp [k2, k3, streamA], mkI⟩
end Go.Proofs.YteciigbonaecoaaGreatDoor
namespace Go.Ab
open Go.RowKit Go.Proofs.YteciigbonaecoaaGreatDoor
structure TSd where
  sn : Bool
  ac : Bool
  nx : Int
  ak : Int
  sz : Int
def TSd.isZero (s : TSd) : Bool := !s.sn && (!s.ac && (s.nx == 0 && (s.ak == 0 && s.sz == 0)))
/-- A phase: its kind, state, type, whether it is replied, assured; its two sides. -/
structure Ph where
  kd : Int
  st : Int
  ty : Int
  rp : Bool
  ss : Bool
  a : TSd
  b : TSd
structure PhB (p : Ph) : Prop where
  k0 : 0 ≤ p.kd
  k1 : p.kd < 256
  s0 : 0 ≤ p.st
  s1 : p.st < 256
  t0 : 0 ≤ p.ty
  t1 : p.ty < 256
def trackA (a b : TSd) : Array Value := #[.bool a.sn, .bool a.ac, .int .u32 a.nx, .int .u32 a.ak, .int .i64 a.sz, .bool b.sn, .bool b.ac, .int .u32 b.nx, .int .u32 b.ak, .int .i64 b.sz]
def rtrackA (a b : TSd) : Array Value := #[.bool a.sn, .bool a.ac, .int .i64 a.nx, .int .i64 a.ak, .int .i64 a.sz, .bool b.sn, .bool b.ac, .int .i64 b.nx, .int .i64 b.ak, .int .i64 b.sz]
def Ph.arr (p : Ph) : Array Value := #[.int .u8 p.kd, .int .u8 p.st, .int .u8 p.ty, .bool p.rp, .bool p.ss, .bool p.a.sn, .bool p.a.ac, .int .u32 p.a.nx, .int .u32 p.a.ak, .int .i64 p.a.sz, .bool p.b.sn, .bool p.b.ac, .int .u32 p.b.nx, .int .u32 p.b.ak, .int .i64 p.b.sz]
def Ph.rarr (p : Ph) : Array Value := #[.int .u8 p.kd, .int .u8 p.st, .int .u8 p.ty, .bool p.rp, .bool p.ss, .bool p.a.sn, .bool p.a.ac, .int .i64 p.a.nx, .int .i64 p.a.ak, .int .i64 p.a.sz, .bool p.b.sn, .bool p.b.ac, .int .i64 p.b.nx, .int .i64 p.b.ak, .int .i64 p.b.sz]
def Ph.tz (p : Ph) : Bool := p.a.isZero && p.b.isZero
def Ph.right (p : Ph) : Bool :=
  if p.ss && !p.rp then false
  else if p.kd = 1 then
    (if p.ty = 0 then (if p.st = 1 then !p.rp else if p.st = 2 then p.rp && !p.ss else if 3 ≤ p.st ∧ p.st ≤ 7 then p.ss else decide (p.st = 8)) else false)
  else sRightB p.kd p.st p.ty && (p.tz && ((p.rp == decide (p.st = 2)) && (p.ss == decide (p.st = 2))))
def Ph.cls (p : Ph) : Int := if p.kd = 1 then (([0, 0, 0, 1, 2, 2, 2, 3, 4] : List Int)[p.st.toNat]?).getD 0 else if p.kd = 2 then 4 + p.st else 6 + p.st
end Go.Ab
namespace Go.Proofs.YteciigbonaecoaaGreatDoor
open Go.RowKit Go.Ab
theorem eq_stream (w : World) (a b c a' b' c' : Int) : (Op.equalIn 10000 195 (.agg #[.int .u8 a, .int .u8 b, .int .u8 c]) (.agg #[.int .u8 a', .int .u8 b', .int .u8 c'])).run Tryz.prog w = .ok (a == a' && (b == b' && c == c')) w := by
  cases h1 : (a == a') <;> cases h2 : (b == b') <;> cases h3 : (c == c') <;> simp [go_sem, h1, h2, h3] <;> simp_all
theorem build_facts (kd ty : Int) (w : World) : (Instr.build 233 #[(1, .int .u8 kd), (3, .int .u8 ty)]).run Tryz.prog w = .ok (.agg (factsA kd ty)) w := by kernel_rfl
attribute [local go_sem high] eq_stream
set_option maxHeartbeats 16000000 in
set_option maxRecDepth 100000 in
theorem sright_any (kd st ty : Int) (w : World) (g : GoodF w) (t0 : 0 ≤ ty) (t1 : ty < 256) : Gives Tryz.prog 106 #[.agg #[.int .u8 kd, .int .u8 st, .int .u8 ty]] w (.bool (sRightB kd st ty)) := by
  have hO := fun W (h : UpI w W) => sopen_any kd ty W (g.up h.up) t0 t1
  unfold sOpenA factsA at hO
  unfold Gives
  go_enter Tryz.func106, Tryz.ntmps106
  by_cases k2 : kd = 2
  · subst k2
    have hOB : sOpenB 2 ty = true := by simp [sOpenB]
    rw [hOB, if_pos rfl, if_neg (by decide)] at hO
    unfold streamA at hO
    clear hOB
    by_cases t00 : ty = 0
    · subst t00
      by_cases s1 : st = 1
      · subst s1
        go_wp2_with (first
          | (refine wpList_buildRun rfl 233 _ rfl #[(1, .int .u8 2), (3, .int .u8 0)] (by kernel_rfl) _ _ (build_facts 2 0 _) ?_; unfold factsA)
          | (go_at_call 137; (with_reducible refine (hO _ inferInstance).mono ?_); rintro e w' ⟨rfl, z1, rfl⟩))
        all_goals go_ret
        all_goals exact ⟨ret_bool (by simp [sRightB]), mkI⟩
      · have b1 : (st == 1) = false := by simpa using s1
        by_cases s2 : st = 2
        · subst s2
          go_wp2_with (first
            | (refine wpList_buildRun rfl 233 _ rfl #[(1, .int .u8 2), (3, .int .u8 0)] (by kernel_rfl) _ _ (build_facts 2 0 _) ?_; unfold factsA)
            | (go_at_call 137; (with_reducible refine (hO _ inferInstance).mono ?_); rintro e w' ⟨rfl, z1, rfl⟩))
          all_goals go_ret
          all_goals exact ⟨ret_bool (by simp [sRightB]), mkI⟩
        · have b2 : (st == 2) = false := by simpa using s2
          go_wp2_with (first
            | (refine wpList_buildRun rfl 233 _ rfl #[(1, .int .u8 2), (3, .int .u8 0)] (by kernel_rfl) _ _ (build_facts 2 0 _) ?_; unfold factsA)
            | (go_at_call 137; (with_reducible refine (hO _ inferInstance).mono ?_); rintro e w' ⟨rfl, z1, rfl⟩))
          all_goals go_ret
          all_goals exact ⟨ret_bool (by simp [sRightB, s1, s2]), mkI⟩
    · have tb : (ty == 0) = false := by simpa using t00
      go_wp2_with (first
        | (refine wpList_buildRun rfl 233 _ rfl #[(1, .int .u8 2), (3, .int .u8 ty)] (by kernel_rfl) _ _ (build_facts 2 ty _) ?_; unfold factsA)
        | (go_at_call 137; (with_reducible refine (hO _ inferInstance).mono ?_); rintro e w' ⟨rfl, z1, rfl⟩))
      all_goals go_ret
      all_goals exact ⟨ret_bool (by simp [sRightB, t00]), mkI⟩
  · have kb2 : (kd == 2) = false := by simpa using k2
    by_cases k3 : kd = 3
    · subst k3
      cases hB : ansB ty
      · have hOB : sOpenB 3 ty = false := by simp [sOpenB, hB]
        rw [hOB, if_neg (by decide)] at hO
        unfold streamA at hO
        clear hOB
        go_wp2_with (first
          | (refine wpList_buildRun rfl 233 _ rfl #[(1, .int .u8 3), (3, .int .u8 ty)] (by kernel_rfl) _ _ (build_facts 3 ty _) ?_; unfold factsA)
          | (go_at_call 137; (with_reducible refine (hO _ inferInstance).mono ?_); rintro e w' ⟨rfl, z1, rfl⟩))
        all_goals go_ret
        all_goals exact ⟨ret_bool (by simp [sRightB, hB]), mkI⟩
      · have hOB : sOpenB 3 ty = true := by simp [sOpenB, hB]
        rw [hOB, if_pos rfl, if_pos rfl] at hO
        unfold streamA at hO
        clear hOB
        by_cases s1 : st = 1
        · subst s1
          go_wp2_with (first
            | (refine wpList_buildRun rfl 233 _ rfl #[(1, .int .u8 3), (3, .int .u8 ty)] (by kernel_rfl) _ _ (build_facts 3 ty _) ?_; unfold factsA)
            | (go_at_call 137; (with_reducible refine (hO _ inferInstance).mono ?_); rintro e w' ⟨rfl, z1, rfl⟩))
          all_goals go_ret
          all_goals exact ⟨ret_bool (by simp [sRightB, hB]), mkI⟩
        · have b1 : (st == 1) = false := by simpa using s1
          by_cases s2 : st = 2
          · subst s2
            go_wp2_with (first
              | (refine wpList_buildRun rfl 233 _ rfl #[(1, .int .u8 3), (3, .int .u8 ty)] (by kernel_rfl) _ _ (build_facts 3 ty _) ?_; unfold factsA)
              | (go_at_call 137; (with_reducible refine (hO _ inferInstance).mono ?_); rintro e w' ⟨rfl, z1, rfl⟩))
            all_goals go_ret
            all_goals exact ⟨ret_bool (by simp [sRightB, hB]), mkI⟩
          · have b2 : (st == 2) = false := by simpa using s2
            go_wp2_with (first
              | (refine wpList_buildRun rfl 233 _ rfl #[(1, .int .u8 3), (3, .int .u8 ty)] (by kernel_rfl) _ _ (build_facts 3 ty _) ?_; unfold factsA)
              | (go_at_call 137; (with_reducible refine (hO _ inferInstance).mono ?_); rintro e w' ⟨rfl, z1, rfl⟩))
            all_goals go_ret
            all_goals exact ⟨ret_bool (by simp [sRightB, hB, s1, s2]), mkI⟩
    · have hOB : sOpenB kd ty = false := by simp [sOpenB, k2, k3]
      rw [hOB, if_neg (by decide)] at hO
      unfold streamA at hO
      clear hOB
      go_wp2_with (first
        | (refine wpList_buildRun rfl 233 _ rfl #[(1, .int .u8 kd), (3, .int .u8 ty)] (by kernel_rfl) _ _ (build_facts kd ty _) ?_; unfold factsA)
        | (go_at_call 137; (with_reducible refine (hO _ inferInstance).mono ?_); rintro e w' ⟨rfl, z1, rfl⟩))
      all_goals go_ret
      all_goals exact ⟨ret_bool (by simp [sRightB, k2, k3]), mkI⟩
end Go.Proofs.YteciigbonaecoaaGreatDoor
namespace Go.Proofs.YteciigbonaecoaaGreatDoor
open Go.RowKit Go.Ab
theorem load_midF {P : Program} {ops : Array Oper} {rest : List Oper} {o : Oper} {a : Act} {w : World} {Q : Exit → Act → World → Prop} (ty : TypeId) (x : Operand) (ho : o.op = .load ty x)
    (b f : Nat) (hx : a.eval x = .pointer (some ⟨b, f, none⟩)) (hw : Region.wanted o (yielded ops a.tmps) = true) (cs : List Value) (d : TypeDesc) (hc : w.rangeAt b f cs)
    (hu : P.underlying ty = some d) (hd : d.isRow = true) (hi : (P.info? ty).map (·.size) = some cs.length) (h : wpList P ops Q rest (a.put o.dst (.agg cs.toArray)) w) : wpList P ops Q (o :: rest) a w :=
  wpList_step fun K hK => by rw [if_pos hw]; exact wp_load_mid ty x ho b f hx cs d hc hu hd hi (hK _ _ h)
theorem buildRunF {P : Program} {ops : Array Oper} {rest : List Oper} {o : Oper} {a : Act} {w : World} {Q : Exit → Act → World → Prop} (t : TypeId) (parts : Array (Nat × Operand)) (ho : o.op = .build t parts) (hw : Region.wanted o (yielded ops a.tmps) = true) (ps : Array (Nat × Value)) (hp : (parts.map fun (i, x) => (i, a.eval x)) = ps) (v : Value) (w' : World)
    (hr : (Instr.build t ps).run P w = .ok v w') (h : wpList P ops Q rest (a.put o.dst v) w') : wpList P ops Q (o :: rest) a w :=
  wpList_step fun K hK => by rw [if_pos hw]; exact wp_buildRun t parts ho ps hp v w' hr (hK _ _ h)
def trackZ : Array Value := trackA ⟨false, false, 0, 0, 0⟩ ⟨false, false, 0, 0, 0⟩
theorem build_track (w : World) : (Instr.build 38 #[]).run Tryz.prog w = .ok (.agg trackZ) w := by kernel_rfl
set_option maxHeartbeats 8000000 in
set_option maxRecDepth 100000 in
theorem eq_side (s a : Bool) (n k z : Int) (w : World) : (Op.equalIn 9999 36 (.agg #[.bool s, .bool a, .int .u32 n, .int .u32 k, .int .i64 z]) (.agg #[.bool false, .bool false, .int .u32 0, .int .u32 0, .int .i64 0])).run Tryz.prog w = .ok (!s && (!a && (n == 0 && (k == 0 && z == 0)))) w := by
  cases s
  case true => simp [go_sem]
  cases a
  case true => simp [go_sem]
  cases h1 : (n == 0)
  · simp [go_sem, h1]
  cases h2 : (k == 0)
  · simp [go_sem, h1, h2]
  cases h3 : (z == 0) <;> simp [go_sem, h1, h2, h3]
theorem eq_track (a b : TSd) (w : World) : (Op.equalIn 10000 38 (.agg (trackA a b)) (.agg trackZ)).run Tryz.prog w = .ok (a.isZero && b.isZero) w := by
  obtain ⟨s1, a1, n1, k1, z1⟩ := a
  obtain ⟨s2, a2, n2, k2, z2⟩ := b
  have h1 := fun W => eq_side s1 a1 n1 k1 z1 W
  have h2 := fun W => eq_side s2 a2 n2 k2 z2 W
  unfold trackZ trackA TSd.isZero
  refine (run_equalIn_array (P := Tryz.prog) (w := w) 9999 (t := 38) (e := 36) (n := 2) (i := (Tryz.prog.info? 36).getD default) _ _ Tryz.underlying38 (by kernel_rfl)).trans ?_
  rw [show Tryz.prog.cellsOf 36 = 5 by kernel_rfl, show List.range 2 = [0, 1] from rfl]
  dsimp only
  generalize (!s1 && (!a1 && (n1 == 0 && (k1 == 0 && z1 == 0)))) = B1 at *
  generalize (!s2 && (!a2 && (n2 == 0 && (k2 == 0 && z2 == 0)))) = B2 at *
  cases B1 <;> cases B2 <;> simp [Op.eqItems, go_sem, h1, h2]
theorem phaseSize : (Tryz.prog.info? 40).map (·.size) = some 15 := by kernel_rfl
theorem trackSize : (Tryz.prog.info? 38).map (·.size) = some 10 := by kernel_rfl
set_option maxHeartbeats 4000000 in
set_option maxRecDepth 100000 in
theorem completed_any (st : Int) (w : World) : Gives Tryz.prog 108 #[.int .u8 st] w (.bool (decide (3 ≤ st) && decide (st ≤ 7))) := by
  unfold Gives
  go_enter Tryz.func108, Tryz.ntmps108
  by_cases h : 3 ≤ st
  · go_wp2_with fail
    go_ret
    exact ⟨ret_bool (by rw [decide_eq_true h]; simp), mkI⟩
  · have h' : st < 3 := by omega
    go_wp2_with fail
    go_ret
    exact ⟨ret_bool (by rw [decide_eq_false (by omega : ¬ 3 ≤ st)]; rfl), mkI⟩
set_option maxHeartbeats 4000000 in
set_option maxRecDepth 100000 in
theorem pflow_any (p : Ph) (w : World) : Gives Tryz.prog 107 #[.agg p.arr] w (.agg #[.int .u8 p.kd, .int .u8 p.st, .int .u8 p.ty]) := by
  unfold Ph.arr
  unfold Gives
  go_enter Tryz.func107, Tryz.ntmps107
  go_wp2_with fail
  first
    | (go_ret; exact ⟨rfl, mkI⟩)
    | exact bodyPost_ret (v := .agg #[.int .u8 p.kd, .int .u8 p.st, .int .u8 p.ty]) (by simp [results, Tryz.results107, go_sem]) rfl ⟨rfl, mkI⟩
theorem track_at {W : World} {b f : Nat} {p : Ph} (h : W.rangeAt b f p.arr.toList) : W.rangeAt b (f + 5) (trackA p.a p.b).toList := fun j u hj => by
  have : p.arr.toList[5 + j]? = some u := by
    rw [show p.arr.toList = (p.arr.toList.take 5) ++ (trackA p.a p.b).toList from rfl, List.getElem?_append_right (by simp [Ph.arr])]
    simpa [Ph.arr] using hj
  rw [Nat.add_assoc]
  exact h _ u this
set_option maxHeartbeats 32000000 in
set_option maxRecDepth 100000 in
theorem aright_any (p : Ph) (b : PhB p) (w : World) (g : GoodF w) : Gives Tryz.prog 78 #[.agg p.arr] w (.bool p.right) := by
  obtain ⟨R, hRt⟩ : ∃ R, p.right = R := ⟨_, rfl⟩
  rw [hRt]
  unfold Ph.right at hRt
  have hF := fun W => pflow_any p W
  have hC := fun W => completed_any p.st W
  have hS := fun W (h : UpI w W) => sright_any p.kd p.st p.ty W (g.up h.up) b.t0 b.t1
  have hps : (Tryz.prog.info? 40).map (·.size) = some p.arr.size := phaseSize
  have hts0 : (Tryz.prog.info? 38).map (·.size) = some (trackA p.a p.b).toList.length := trackSize
  have hEq0 := fun W => eq_track p.a p.b W
  have hta := fun (W : World) (b f : Nat) (h : W.rangeAt b f p.arr.toList) => track_at h
  have a0 : p.arr[0]? = some (.int .u8 p.kd) := rfl
  have a1 : p.arr[1]? = some (.int .u8 p.st) := rfl
  have a2 : p.arr[2]? = some (.int .u8 p.ty) := rfl
  have a3 : p.arr[3]? = some (.bool p.rp) := rfl
  have a4 : p.arr[4]? = some (.bool p.ss) := rfl
  obtain ⟨b1, b2, b3, b4, b5, b6⟩ := b
  unfold Ph.tz at hRt
  generalize (p.a.isZero && p.b.isZero) = TZ at *
  generalize sRightB p.kd p.st p.ty = SB at *
  generalize p.kd = kd at *
  generalize p.st = st at *
  generalize p.ty = ty at *
  generalize p.rp = rp at *
  generalize p.ss = ss at *
  obtain ⟨ta, hta1⟩ : ∃ ta, trackA p.a p.b = ta := ⟨_, rfl⟩
  obtain ⟨tz, htz1⟩ : ∃ tz, trackZ = tz := ⟨_, rfl⟩
  rw [hta1] at hts0 hEq0
  rw [htz1] at hEq0
  simp only [hta1] at hta
  have hts := hts0
  have build_track := fun W => build_track W
  rw [htz1] at build_track
  generalize p.arr = pa at *
  clear hta1 htz1 hts0
  unfold Gives
  go_enter Tryz.func78, Tryz.ntmps78
  go_upto_region 1 with fail
  obtain ⟨A, hA⟩ : ∃ A, w.heap.size = A := ⟨_, rfl⟩
  rw [hA]
  refine wp_letter (fun W => UpI w W ∧ W.heap[A]? = some (.cells pa 40 (0, 0))) ⟨inferInstance, alloc_new hA⟩ ?_
  clear hA
  rintro W ⟨uW, hR⟩
  haveI := uW
  have c0 := row_cellF hR 0 _ a0
  have c1 := row_cellF hR 1 _ a1
  have c2 := row_cellF hR 2 _ a2
  have c3 := row_cellF hR 3 _ a3
  have c4 := row_cellF hR 4 _ a4
  haveI : LtSize A W := ⟨cell_lt c0⟩
  have hTr : ∀ V, UpI W V → V.rangeAt A 5 ta.toList := fun V h => by
    have := hta V A 0 (fun j u hj => by rw [Nat.zero_add]; exact h.up.cell_some' (row_cellF hR j u (by simpa using hj)))
    rwa [Nat.zero_add] at this
  clear hta a0 a1 a2 a3 a4
  have hEq : ∀ V, (Op.equalIn 10000 38 (.agg ta) (.agg tz)).run Tryz.prog V = .ok TZ V := hEq0
  clear hEq0
  cases ss
  case false =>
    rw [Bool.false_and, if_neg (by decide)] at hRt
    by_cases k1 : kd = 1
    · subst k1
      rw [if_pos rfl] at hRt
      by_cases t00 : ty = 0
      · subst t00
        rw [if_pos rfl] at hRt
        by_cases s1 : st = 1
        · subst s1
          rw [if_pos rfl] at hRt
          subst hRt
          go_wp2_with (first
            | (refine wpList_load_row rfl 40 _ rfl A rfl 40 pa (0, 0) _ (((upI : Up W _).block A (LtSize.lt (b := A))).trans hR) Tryz.underlying40 rfl hps ?_)
            | (refine load_midF 38 _ rfl A 5 rfl (by first | kernel_rfl | rfl) ta.toList _ (hTr _ inferInstance) Tryz.underlying38 rfl hts ?_)
            | (refine buildRunF 38 _ rfl (by first | kernel_rfl | rfl) #[] (by kernel_rfl) _ _ (build_track _) ?_)
            | (go_at_call 107; (with_reducible refine (hF _).mono ?_); rintro e w' ⟨rfl, z1, rfl⟩)
            | (go_at_call 106; (with_reducible refine (hS _ inferInstance).mono ?_); rintro e w' ⟨rfl, z2, rfl⟩)
            | (go_at_call 108; (with_reducible refine (hC _).mono ?_); rintro e w' ⟨rfl, z3, rfl⟩))
          all_goals go_ret
          all_goals exact ⟨ret_bool (by rfl), mkI⟩
        have e1 : (st == 1) = false := by simpa using s1
        rw [if_neg s1] at hRt
        by_cases s2 : st = 2
        · subst s2
          rw [if_pos rfl] at hRt
          cases rp
          case false =>
            subst hRt
            go_wp2_with (first
              | (refine wpList_load_row rfl 40 _ rfl A rfl 40 pa (0, 0) _ (((upI : Up W _).block A (LtSize.lt (b := A))).trans hR) Tryz.underlying40 rfl hps ?_)
              | (refine load_midF 38 _ rfl A 5 rfl (by first | kernel_rfl | rfl) ta.toList _ (hTr _ inferInstance) Tryz.underlying38 rfl hts ?_)
              | (refine buildRunF 38 _ rfl (by first | kernel_rfl | rfl) #[] (by kernel_rfl) _ _ (build_track _) ?_)
              | (go_at_call 107; (with_reducible refine (hF _).mono ?_); rintro e w' ⟨rfl, z1, rfl⟩)
              | (go_at_call 106; (with_reducible refine (hS _ inferInstance).mono ?_); rintro e w' ⟨rfl, z2, rfl⟩)
              | (go_at_call 108; (with_reducible refine (hC _).mono ?_); rintro e w' ⟨rfl, z3, rfl⟩))
            all_goals go_ret
            all_goals exact ⟨ret_bool (by rfl), mkI⟩
          case true =>
            subst hRt
            go_wp2_with (first
              | (refine wpList_load_row rfl 40 _ rfl A rfl 40 pa (0, 0) _ (((upI : Up W _).block A (LtSize.lt (b := A))).trans hR) Tryz.underlying40 rfl hps ?_)
              | (refine load_midF 38 _ rfl A 5 rfl (by first | kernel_rfl | rfl) ta.toList _ (hTr _ inferInstance) Tryz.underlying38 rfl hts ?_)
              | (refine buildRunF 38 _ rfl (by first | kernel_rfl | rfl) #[] (by kernel_rfl) _ _ (build_track _) ?_)
              | (go_at_call 107; (with_reducible refine (hF _).mono ?_); rintro e w' ⟨rfl, z1, rfl⟩)
              | (go_at_call 106; (with_reducible refine (hS _ inferInstance).mono ?_); rintro e w' ⟨rfl, z2, rfl⟩)
              | (go_at_call 108; (with_reducible refine (hC _).mono ?_); rintro e w' ⟨rfl, z3, rfl⟩))
            all_goals go_ret
            all_goals exact ⟨ret_bool (by rfl), mkI⟩
        have e2 : (st == 2) = false := by simpa using s2
        rw [if_neg s2] at hRt
        by_cases s3 : 3 ≤ st ∧ st ≤ 7
        · rw [if_pos s3] at hRt
          have e3 : (decide (3 ≤ st) && decide (st ≤ 7)) = true := by rw [decide_eq_true s3.1, decide_eq_true s3.2]; rfl
          rw [e3] at hC
          subst hRt
          go_wp2_with (first
            | (refine wpList_load_row rfl 40 _ rfl A rfl 40 pa (0, 0) _ (((upI : Up W _).block A (LtSize.lt (b := A))).trans hR) Tryz.underlying40 rfl hps ?_)
            | (refine load_midF 38 _ rfl A 5 rfl (by first | kernel_rfl | rfl) ta.toList _ (hTr _ inferInstance) Tryz.underlying38 rfl hts ?_)
            | (refine buildRunF 38 _ rfl (by first | kernel_rfl | rfl) #[] (by kernel_rfl) _ _ (build_track _) ?_)
            | (go_at_call 107; (with_reducible refine (hF _).mono ?_); rintro e w' ⟨rfl, z1, rfl⟩)
            | (go_at_call 106; (with_reducible refine (hS _ inferInstance).mono ?_); rintro e w' ⟨rfl, z2, rfl⟩)
            | (go_at_call 108; (with_reducible refine (hC _).mono ?_); rintro e w' ⟨rfl, z3, rfl⟩))
          all_goals go_ret
          all_goals exact ⟨ret_bool (by rfl), mkI⟩
        · rw [if_neg s3] at hRt
          have e3 : (decide (3 ≤ st) && decide (st ≤ 7)) = false := by simpa using s3
          rw [e3] at hC
          subst hRt
          go_wp2_with (first
            | (refine wpList_load_row rfl 40 _ rfl A rfl 40 pa (0, 0) _ (((upI : Up W _).block A (LtSize.lt (b := A))).trans hR) Tryz.underlying40 rfl hps ?_)
            | (refine load_midF 38 _ rfl A 5 rfl (by first | kernel_rfl | rfl) ta.toList _ (hTr _ inferInstance) Tryz.underlying38 rfl hts ?_)
            | (refine buildRunF 38 _ rfl (by first | kernel_rfl | rfl) #[] (by kernel_rfl) _ _ (build_track _) ?_)
            | (go_at_call 107; (with_reducible refine (hF _).mono ?_); rintro e w' ⟨rfl, z1, rfl⟩)
            | (go_at_call 106; (with_reducible refine (hS _ inferInstance).mono ?_); rintro e w' ⟨rfl, z2, rfl⟩)
            | (go_at_call 108; (with_reducible refine (hC _).mono ?_); rintro e w' ⟨rfl, z3, rfl⟩))
          all_goals go_ret
          all_goals exact ⟨ret_bool (by first | rfl | simp), mkI⟩
      · rw [if_neg t00] at hRt
        have tb : (ty == 0) = false := by simpa using t00
        subst hRt
        go_wp2_with (first
          | (refine wpList_load_row rfl 40 _ rfl A rfl 40 pa (0, 0) _ (((upI : Up W _).block A (LtSize.lt (b := A))).trans hR) Tryz.underlying40 rfl hps ?_)
          | (refine load_midF 38 _ rfl A 5 rfl (by first | kernel_rfl | rfl) ta.toList _ (hTr _ inferInstance) Tryz.underlying38 rfl hts ?_)
          | (refine buildRunF 38 _ rfl (by first | kernel_rfl | rfl) #[] (by kernel_rfl) _ _ (build_track _) ?_)
          | (go_at_call 107; (with_reducible refine (hF _).mono ?_); rintro e w' ⟨rfl, z1, rfl⟩)
          | (go_at_call 106; (with_reducible refine (hS _ inferInstance).mono ?_); rintro e w' ⟨rfl, z2, rfl⟩)
          | (go_at_call 108; (with_reducible refine (hC _).mono ?_); rintro e w' ⟨rfl, z3, rfl⟩))
        all_goals go_ret
        all_goals exact ⟨ret_bool (by rfl), mkI⟩
    · rw [if_neg k1] at hRt
      have kb : (kd != 1) = true := by simpa using k1
      cases SB
      case false =>
        subst hRt
        go_wp2_with (first
          | (refine wpList_load_row rfl 40 _ rfl A rfl 40 pa (0, 0) _ (((upI : Up W _).block A (LtSize.lt (b := A))).trans hR) Tryz.underlying40 rfl hps ?_)
          | (refine load_midF 38 _ rfl A 5 rfl (by first | kernel_rfl | rfl) ta.toList _ (hTr _ inferInstance) Tryz.underlying38 rfl hts ?_)
          | (refine buildRunF 38 _ rfl (by first | kernel_rfl | rfl) #[] (by kernel_rfl) _ _ (build_track _) ?_)
          | (go_at_call 107; (with_reducible refine (hF _).mono ?_); rintro e w' ⟨rfl, z1, rfl⟩)
          | (go_at_call 106; (with_reducible refine (hS _ inferInstance).mono ?_); rintro e w' ⟨rfl, z2, rfl⟩)
          | (go_at_call 108; (with_reducible refine (hC _).mono ?_); rintro e w' ⟨rfl, z3, rfl⟩))
        all_goals go_ret
        all_goals exact ⟨ret_bool (by rfl), mkI⟩
      case true =>
        cases TZ
        case false =>
          subst hRt
          go_wp2_with (first
            | (refine wpList_load_row rfl 40 _ rfl A rfl 40 pa (0, 0) _ (((upI : Up W _).block A (LtSize.lt (b := A))).trans hR) Tryz.underlying40 rfl hps ?_)
            | (refine load_midF 38 _ rfl A 5 rfl (by first | kernel_rfl | rfl) ta.toList _ (hTr _ inferInstance) Tryz.underlying38 rfl hts ?_)
            | (refine buildRunF 38 _ rfl (by first | kernel_rfl | rfl) #[] (by kernel_rfl) _ _ (build_track _) ?_)
            | (go_at_call 107; (with_reducible refine (hF _).mono ?_); rintro e w' ⟨rfl, z1, rfl⟩)
            | (go_at_call 106; (with_reducible refine (hS _ inferInstance).mono ?_); rintro e w' ⟨rfl, z2, rfl⟩)
            | (go_at_call 108; (with_reducible refine (hC _).mono ?_); rintro e w' ⟨rfl, z3, rfl⟩))
          all_goals go_ret
          all_goals exact ⟨ret_bool (by rfl), mkI⟩
        case true =>
          by_cases s2 : st = 2
          · subst s2
            cases rp
            case false =>
              subst hRt
              go_wp2_with (first
                | (refine wpList_load_row rfl 40 _ rfl A rfl 40 pa (0, 0) _ (((upI : Up W _).block A (LtSize.lt (b := A))).trans hR) Tryz.underlying40 rfl hps ?_)
                | (refine load_midF 38 _ rfl A 5 rfl (by first | kernel_rfl | rfl) ta.toList _ (hTr _ inferInstance) Tryz.underlying38 rfl hts ?_)
                | (refine buildRunF 38 _ rfl (by first | kernel_rfl | rfl) #[] (by kernel_rfl) _ _ (build_track _) ?_)
                | (go_at_call 107; (with_reducible refine (hF _).mono ?_); rintro e w' ⟨rfl, z1, rfl⟩)
                | (go_at_call 106; (with_reducible refine (hS _ inferInstance).mono ?_); rintro e w' ⟨rfl, z2, rfl⟩)
                | (go_at_call 108; (with_reducible refine (hC _).mono ?_); rintro e w' ⟨rfl, z3, rfl⟩))
              all_goals go_ret
              all_goals exact ⟨ret_bool (by rfl), mkI⟩
            case true =>
              subst hRt
              go_wp2_with (first
                | (refine wpList_load_row rfl 40 _ rfl A rfl 40 pa (0, 0) _ (((upI : Up W _).block A (LtSize.lt (b := A))).trans hR) Tryz.underlying40 rfl hps ?_)
                | (refine load_midF 38 _ rfl A 5 rfl (by first | kernel_rfl | rfl) ta.toList _ (hTr _ inferInstance) Tryz.underlying38 rfl hts ?_)
                | (refine buildRunF 38 _ rfl (by first | kernel_rfl | rfl) #[] (by kernel_rfl) _ _ (build_track _) ?_)
                | (go_at_call 107; (with_reducible refine (hF _).mono ?_); rintro e w' ⟨rfl, z1, rfl⟩)
                | (go_at_call 106; (with_reducible refine (hS _ inferInstance).mono ?_); rintro e w' ⟨rfl, z2, rfl⟩)
                | (go_at_call 108; (with_reducible refine (hC _).mono ?_); rintro e w' ⟨rfl, z3, rfl⟩))
              all_goals go_ret
              all_goals exact ⟨ret_bool (by rfl), mkI⟩
          · have e2 : (st == 2) = false := by simpa using s2
            rw [decide_eq_false s2] at hRt
            cases rp
            case false =>
              subst hRt
              go_wp2_with (first
                | (refine wpList_load_row rfl 40 _ rfl A rfl 40 pa (0, 0) _ (((upI : Up W _).block A (LtSize.lt (b := A))).trans hR) Tryz.underlying40 rfl hps ?_)
                | (refine load_midF 38 _ rfl A 5 rfl (by first | kernel_rfl | rfl) ta.toList _ (hTr _ inferInstance) Tryz.underlying38 rfl hts ?_)
                | (refine buildRunF 38 _ rfl (by first | kernel_rfl | rfl) #[] (by kernel_rfl) _ _ (build_track _) ?_)
                | (go_at_call 107; (with_reducible refine (hF _).mono ?_); rintro e w' ⟨rfl, z1, rfl⟩)
                | (go_at_call 106; (with_reducible refine (hS _ inferInstance).mono ?_); rintro e w' ⟨rfl, z2, rfl⟩)
                | (go_at_call 108; (with_reducible refine (hC _).mono ?_); rintro e w' ⟨rfl, z3, rfl⟩))
              all_goals go_ret
              all_goals exact ⟨ret_bool (by rfl), mkI⟩
            case true =>
              subst hRt
              go_wp2_with (first
                | (refine wpList_load_row rfl 40 _ rfl A rfl 40 pa (0, 0) _ (((upI : Up W _).block A (LtSize.lt (b := A))).trans hR) Tryz.underlying40 rfl hps ?_)
                | (refine load_midF 38 _ rfl A 5 rfl (by first | kernel_rfl | rfl) ta.toList _ (hTr _ inferInstance) Tryz.underlying38 rfl hts ?_)
                | (refine buildRunF 38 _ rfl (by first | kernel_rfl | rfl) #[] (by kernel_rfl) _ _ (build_track _) ?_)
                | (go_at_call 107; (with_reducible refine (hF _).mono ?_); rintro e w' ⟨rfl, z1, rfl⟩)
                | (go_at_call 106; (with_reducible refine (hS _ inferInstance).mono ?_); rintro e w' ⟨rfl, z2, rfl⟩)
                | (go_at_call 108; (with_reducible refine (hC _).mono ?_); rintro e w' ⟨rfl, z3, rfl⟩))
              all_goals go_ret
              all_goals exact ⟨ret_bool (by rfl), mkI⟩
  case true =>
    cases rp
    case false =>
      rw [if_pos (by decide)] at hRt
      subst hRt
      go_wp2_with (first
        | (refine wpList_load_row rfl 40 _ rfl A rfl 40 pa (0, 0) _ (((upI : Up W _).block A (LtSize.lt (b := A))).trans hR) Tryz.underlying40 rfl hps ?_)
        | (refine load_midF 38 _ rfl A 5 rfl (by first | kernel_rfl | rfl) ta.toList _ (hTr _ inferInstance) Tryz.underlying38 rfl hts ?_)
        | (refine buildRunF 38 _ rfl (by first | kernel_rfl | rfl) #[] (by kernel_rfl) _ _ (build_track _) ?_)
        | (go_at_call 107; (with_reducible refine (hF _).mono ?_); rintro e w' ⟨rfl, z1, rfl⟩)
        | (go_at_call 106; (with_reducible refine (hS _ inferInstance).mono ?_); rintro e w' ⟨rfl, z2, rfl⟩)
        | (go_at_call 108; (with_reducible refine (hC _).mono ?_); rintro e w' ⟨rfl, z3, rfl⟩))
      all_goals go_ret
      all_goals exact ⟨ret_bool (by rfl), mkI⟩
    case true =>
      rw [if_neg (by decide)] at hRt
      by_cases k1 : kd = 1
      · subst k1
        rw [if_pos rfl] at hRt
        by_cases t00 : ty = 0
        · subst t00
          rw [if_pos rfl] at hRt
          by_cases s1 : st = 1
          · subst s1
            rw [if_pos rfl] at hRt
            subst hRt
            go_wp2_with (first
              | (refine wpList_load_row rfl 40 _ rfl A rfl 40 pa (0, 0) _ (((upI : Up W _).block A (LtSize.lt (b := A))).trans hR) Tryz.underlying40 rfl hps ?_)
              | (refine load_midF 38 _ rfl A 5 rfl (by first | kernel_rfl | rfl) ta.toList _ (hTr _ inferInstance) Tryz.underlying38 rfl hts ?_)
              | (refine buildRunF 38 _ rfl (by first | kernel_rfl | rfl) #[] (by kernel_rfl) _ _ (build_track _) ?_)
              | (go_at_call 107; (with_reducible refine (hF _).mono ?_); rintro e w' ⟨rfl, z1, rfl⟩)
              | (go_at_call 106; (with_reducible refine (hS _ inferInstance).mono ?_); rintro e w' ⟨rfl, z2, rfl⟩)
              | (go_at_call 108; (with_reducible refine (hC _).mono ?_); rintro e w' ⟨rfl, z3, rfl⟩))
            all_goals go_ret
            all_goals exact ⟨ret_bool (by rfl), mkI⟩
          have e1 : (st == 1) = false := by simpa using s1
          rw [if_neg s1] at hRt
          by_cases s2 : st = 2
          · subst s2
            rw [if_pos rfl] at hRt
            subst hRt
            go_wp2_with (first
              | (refine wpList_load_row rfl 40 _ rfl A rfl 40 pa (0, 0) _ (((upI : Up W _).block A (LtSize.lt (b := A))).trans hR) Tryz.underlying40 rfl hps ?_)
              | (refine load_midF 38 _ rfl A 5 rfl (by first | kernel_rfl | rfl) ta.toList _ (hTr _ inferInstance) Tryz.underlying38 rfl hts ?_)
              | (refine buildRunF 38 _ rfl (by first | kernel_rfl | rfl) #[] (by kernel_rfl) _ _ (build_track _) ?_)
              | (go_at_call 107; (with_reducible refine (hF _).mono ?_); rintro e w' ⟨rfl, z1, rfl⟩)
              | (go_at_call 106; (with_reducible refine (hS _ inferInstance).mono ?_); rintro e w' ⟨rfl, z2, rfl⟩)
              | (go_at_call 108; (with_reducible refine (hC _).mono ?_); rintro e w' ⟨rfl, z3, rfl⟩))
            all_goals go_ret
            all_goals exact ⟨ret_bool (by rfl), mkI⟩
          have e2 : (st == 2) = false := by simpa using s2
          rw [if_neg s2] at hRt
          by_cases s3 : 3 ≤ st ∧ st ≤ 7
          · rw [if_pos s3] at hRt
            have e3 : (decide (3 ≤ st) && decide (st ≤ 7)) = true := by rw [decide_eq_true s3.1, decide_eq_true s3.2]; rfl
            rw [e3] at hC
            subst hRt
            go_wp2_with (first
              | (refine wpList_load_row rfl 40 _ rfl A rfl 40 pa (0, 0) _ (((upI : Up W _).block A (LtSize.lt (b := A))).trans hR) Tryz.underlying40 rfl hps ?_)
              | (refine load_midF 38 _ rfl A 5 rfl (by first | kernel_rfl | rfl) ta.toList _ (hTr _ inferInstance) Tryz.underlying38 rfl hts ?_)
              | (refine buildRunF 38 _ rfl (by first | kernel_rfl | rfl) #[] (by kernel_rfl) _ _ (build_track _) ?_)
              | (go_at_call 107; (with_reducible refine (hF _).mono ?_); rintro e w' ⟨rfl, z1, rfl⟩)
              | (go_at_call 106; (with_reducible refine (hS _ inferInstance).mono ?_); rintro e w' ⟨rfl, z2, rfl⟩)
              | (go_at_call 108; (with_reducible refine (hC _).mono ?_); rintro e w' ⟨rfl, z3, rfl⟩))
            all_goals go_ret
            all_goals exact ⟨ret_bool (by rfl), mkI⟩
          · rw [if_neg s3] at hRt
            have e3 : (decide (3 ≤ st) && decide (st ≤ 7)) = false := by simpa using s3
            rw [e3] at hC
            subst hRt
            go_wp2_with (first
              | (refine wpList_load_row rfl 40 _ rfl A rfl 40 pa (0, 0) _ (((upI : Up W _).block A (LtSize.lt (b := A))).trans hR) Tryz.underlying40 rfl hps ?_)
              | (refine load_midF 38 _ rfl A 5 rfl (by first | kernel_rfl | rfl) ta.toList _ (hTr _ inferInstance) Tryz.underlying38 rfl hts ?_)
              | (refine buildRunF 38 _ rfl (by first | kernel_rfl | rfl) #[] (by kernel_rfl) _ _ (build_track _) ?_)
              | (go_at_call 107; (with_reducible refine (hF _).mono ?_); rintro e w' ⟨rfl, z1, rfl⟩)
              | (go_at_call 106; (with_reducible refine (hS _ inferInstance).mono ?_); rintro e w' ⟨rfl, z2, rfl⟩)
              | (go_at_call 108; (with_reducible refine (hC _).mono ?_); rintro e w' ⟨rfl, z3, rfl⟩))
            all_goals go_ret
            all_goals exact ⟨ret_bool (by first | rfl | simp), mkI⟩
        · rw [if_neg t00] at hRt
          have tb : (ty == 0) = false := by simpa using t00
          subst hRt
          go_wp2_with (first
            | (refine wpList_load_row rfl 40 _ rfl A rfl 40 pa (0, 0) _ (((upI : Up W _).block A (LtSize.lt (b := A))).trans hR) Tryz.underlying40 rfl hps ?_)
            | (refine load_midF 38 _ rfl A 5 rfl (by first | kernel_rfl | rfl) ta.toList _ (hTr _ inferInstance) Tryz.underlying38 rfl hts ?_)
            | (refine buildRunF 38 _ rfl (by first | kernel_rfl | rfl) #[] (by kernel_rfl) _ _ (build_track _) ?_)
            | (go_at_call 107; (with_reducible refine (hF _).mono ?_); rintro e w' ⟨rfl, z1, rfl⟩)
            | (go_at_call 106; (with_reducible refine (hS _ inferInstance).mono ?_); rintro e w' ⟨rfl, z2, rfl⟩)
            | (go_at_call 108; (with_reducible refine (hC _).mono ?_); rintro e w' ⟨rfl, z3, rfl⟩))
          all_goals go_ret
          all_goals exact ⟨ret_bool (by rfl), mkI⟩
      · rw [if_neg k1] at hRt
        have kb : (kd != 1) = true := by simpa using k1
        cases SB
        case false =>
          subst hRt
          go_wp2_with (first
            | (refine wpList_load_row rfl 40 _ rfl A rfl 40 pa (0, 0) _ (((upI : Up W _).block A (LtSize.lt (b := A))).trans hR) Tryz.underlying40 rfl hps ?_)
            | (refine load_midF 38 _ rfl A 5 rfl (by first | kernel_rfl | rfl) ta.toList _ (hTr _ inferInstance) Tryz.underlying38 rfl hts ?_)
            | (refine buildRunF 38 _ rfl (by first | kernel_rfl | rfl) #[] (by kernel_rfl) _ _ (build_track _) ?_)
            | (go_at_call 107; (with_reducible refine (hF _).mono ?_); rintro e w' ⟨rfl, z1, rfl⟩)
            | (go_at_call 106; (with_reducible refine (hS _ inferInstance).mono ?_); rintro e w' ⟨rfl, z2, rfl⟩)
            | (go_at_call 108; (with_reducible refine (hC _).mono ?_); rintro e w' ⟨rfl, z3, rfl⟩))
          all_goals go_ret
          all_goals exact ⟨ret_bool (by rfl), mkI⟩
        case true =>
          cases TZ
          case false =>
            subst hRt
            go_wp2_with (first
              | (refine wpList_load_row rfl 40 _ rfl A rfl 40 pa (0, 0) _ (((upI : Up W _).block A (LtSize.lt (b := A))).trans hR) Tryz.underlying40 rfl hps ?_)
              | (refine load_midF 38 _ rfl A 5 rfl (by first | kernel_rfl | rfl) ta.toList _ (hTr _ inferInstance) Tryz.underlying38 rfl hts ?_)
              | (refine buildRunF 38 _ rfl (by first | kernel_rfl | rfl) #[] (by kernel_rfl) _ _ (build_track _) ?_)
              | (go_at_call 107; (with_reducible refine (hF _).mono ?_); rintro e w' ⟨rfl, z1, rfl⟩)
              | (go_at_call 106; (with_reducible refine (hS _ inferInstance).mono ?_); rintro e w' ⟨rfl, z2, rfl⟩)
              | (go_at_call 108; (with_reducible refine (hC _).mono ?_); rintro e w' ⟨rfl, z3, rfl⟩))
            all_goals go_ret
            all_goals exact ⟨ret_bool (by rfl), mkI⟩
          case true =>
            by_cases s2 : st = 2
            · subst s2
              subst hRt
              go_wp2_with (first
                | (refine wpList_load_row rfl 40 _ rfl A rfl 40 pa (0, 0) _ (((upI : Up W _).block A (LtSize.lt (b := A))).trans hR) Tryz.underlying40 rfl hps ?_)
                | (refine load_midF 38 _ rfl A 5 rfl (by first | kernel_rfl | rfl) ta.toList _ (hTr _ inferInstance) Tryz.underlying38 rfl hts ?_)
                | (refine buildRunF 38 _ rfl (by first | kernel_rfl | rfl) #[] (by kernel_rfl) _ _ (build_track _) ?_)
                | (go_at_call 107; (with_reducible refine (hF _).mono ?_); rintro e w' ⟨rfl, z1, rfl⟩)
                | (go_at_call 106; (with_reducible refine (hS _ inferInstance).mono ?_); rintro e w' ⟨rfl, z2, rfl⟩)
                | (go_at_call 108; (with_reducible refine (hC _).mono ?_); rintro e w' ⟨rfl, z3, rfl⟩))
              all_goals go_ret
              all_goals exact ⟨ret_bool (by rfl), mkI⟩
            · have e2 : (st == 2) = false := by simpa using s2
              rw [decide_eq_false s2] at hRt
              subst hRt
              go_wp2_with (first
                | (refine wpList_load_row rfl 40 _ rfl A rfl 40 pa (0, 0) _ (((upI : Up W _).block A (LtSize.lt (b := A))).trans hR) Tryz.underlying40 rfl hps ?_)
                | (refine load_midF 38 _ rfl A 5 rfl (by first | kernel_rfl | rfl) ta.toList _ (hTr _ inferInstance) Tryz.underlying38 rfl hts ?_)
                | (refine buildRunF 38 _ rfl (by first | kernel_rfl | rfl) #[] (by kernel_rfl) _ _ (build_track _) ?_)
                | (go_at_call 107; (with_reducible refine (hF _).mono ?_); rintro e w' ⟨rfl, z1, rfl⟩)
                | (go_at_call 106; (with_reducible refine (hS _ inferInstance).mono ?_); rintro e w' ⟨rfl, z2, rfl⟩)
                | (go_at_call 108; (with_reducible refine (hC _).mono ?_); rintro e w' ⟨rfl, z3, rfl⟩))
              all_goals go_ret
              all_goals exact ⟨ret_bool (by rfl), mkI⟩
end Go.Proofs.YteciigbonaecoaaGreatDoor
namespace Go.Ab
open Go.RowKit Go.Proofs.YteciigbonaecoaaGreatDoor
theorem ph_st8 {p : Ph} (h : p.right = true) (k : p.kd = 1) : 1 ≤ p.st ∧ p.st ≤ 8 := by
  unfold Ph.right at h
  cases hs : (p.ss && !p.rp) with
  | true => rw [hs, if_pos rfl] at h; cases h
  | false =>
    rw [hs, if_neg (by decide), if_pos k] at h
    split at h
    · split at h
      · omega
      · split at h
        · omega
        · split at h
          · omega
          · simp at h; omega
    · cases h
theorem ph_st2 {p : Ph} (h : p.right = true) (k : ¬ p.kd = 1) : (p.st = 1 ∨ p.st = 2) ∧ (p.kd = 2 ∨ p.kd = 3) := by
  unfold Ph.right at h
  cases hs : (p.ss && !p.rp) with
  | true => rw [hs, if_pos rfl] at h; cases h
  | false =>
    rw [hs, if_neg (by decide), if_neg k] at h
    have h1 := (Bool.and_eq_true_iff.1 h).1
    unfold sRightB at h1
    obtain ⟨h2, h3⟩ := Bool.and_eq_true_iff.1 h1
    refine ⟨by simpa using h2, ?_⟩
    rcases Bool.or_eq_true_iff.1 h3 with h4 | h4
    · exact .inl (of_decide_eq_true (Bool.and_eq_true_iff.1 h4).1)
    · exact .inr (of_decide_eq_true (Bool.and_eq_true_iff.1 h4).1)
end Go.Ab
namespace Go.Proofs.YteciigbonaecoaaGreatDoor
open Go.RowKit Go.Ab
set_option maxHeartbeats 16000000 in
set_option maxRecDepth 100000 in
theorem aclass_any (p : Ph) (b : PhB p) (w : World) (g : GoodF w) : Gives Tryz.prog 45 #[.agg p.arr] w (.tuple #[.int .u8 (if p.right then p.cls else 0), .bool p.right]) := by
  have hR := fun W (h : UpI w W) => aright_any p b W (g.up h.up)
  have hps : (Tryz.prog.info? 40).map (·.size) = some p.arr.size := phaseSize
  have a0 : p.arr[0]? = some (.int .u8 p.kd) := rfl
  have a1 : p.arr[1]? = some (.int .u8 p.st) := rfl
  have h8 := fun (h : p.right = true) (k : p.kd = 1) => ph_st8 h k
  have h2 := fun (h : p.right = true) (k : ¬ p.kd = 1) => ph_st2 h k
  obtain ⟨b1, b2, b3, b4, b5, b6⟩ := b
  unfold Ph.cls
  generalize p.right = R at *
  generalize p.kd = kd at *
  generalize p.st = st at *
  generalize p.arr = pa at *
  obtain ⟨CV, hCV⟩ : ∃ CV, (if R then (if kd = 1 then (([0, 0, 0, 1, 2, 2, 2, 3, 4] : List Int)[st.toNat]?).getD 0 else if kd = 2 then 4 + st else 6 + st) else 0) = CV := ⟨_, rfl⟩
  rw [hCV]
  unfold Gives
  go_enter Tryz.func45, Tryz.ntmps45
  go_upto_region 1 with fail
  obtain ⟨A, hA⟩ : ∃ A, w.heap.size = A := ⟨_, rfl⟩
  rw [hA]
  refine wp_letter (fun W => UpI w W ∧ W.heap[A]? = some (.cells pa 40 (0, 0))) ⟨inferInstance, alloc_new hA⟩ ?_
  clear hA
  rintro W ⟨uW, hRw⟩
  haveI := uW
  have c0 := row_cellF hRw 0 _ a0
  have c1 := row_cellF hRw 1 _ a1
  haveI : LtSize A W := ⟨cell_lt c0⟩
  have gW := g.up uW.up
  cases R
  case false =>
    have HCV := Lib.hid (show CV = 0 by rw [← hCV]; rfl)
    clear hCV
    go_wp2_with (first
      | (refine wpList_load_row rfl 40 _ rfl A rfl 40 pa (0, 0) _ (((upI : Up W _).block A (LtSize.lt (b := A))).trans hRw) Tryz.underlying40 rfl hps ?_)
      | (go_at_call 78; (with_reducible refine (hR _ inferInstance).mono ?_); rintro e w' ⟨rfl, z1, rfl⟩))
    go_ret2
    exact ⟨by rw [HCV.out]; rfl, mkI⟩
  case true =>
    by_cases k1 : kd = 1
    · subst k1
      obtain ⟨l1, l2⟩ := h8 rfl rfl
      have hst : (0 : Int) ≤ st ∧ st < 9 := by omega
      obtain ⟨l3, l4⟩ := hst
      obtain ⟨n, hn⟩ : ∃ n : Nat, st = (n : Int) := ⟨st.toNat, by omega⟩
      subst hn
      obtain ⟨V, hV⟩ : ∃ V, ([0, 0, 0, 1, 2, 2, 2, 3, 4] : List Int)[n]? = some V := ⟨_, List.getElem?_eq_getElem (by simp; omega)⟩
      have HCV := Lib.hid (show CV = V by rw [← hCV, if_pos rfl, if_pos rfl, Int.toNat_natCast, hV]; rfl)
      clear hCV
      have gc := gW.cls n V hV
      have hgl : 1 < W.heap.size := cell_lt gc
      haveI : LtSize 1 W := ⟨hgl⟩
      clear h8 h2 hV
      go_wp2_with (first
        | (refine wpList_load_row rfl 40 _ rfl A rfl 40 pa (0, 0) _ (((upI : Up W _).block A (LtSize.lt (b := A))).trans hRw) Tryz.underlying40 rfl hps ?_)
        | (go_at_call 78; (with_reducible refine (hR _ inferInstance).mono ?_); rintro e w' ⟨rfl, z1, rfl⟩))
      go_ret2
      exact ⟨by rw [HCV.out]; rfl, mkI⟩
    · have kb : (kd == 1) = false := by simpa using k1
      obtain ⟨ho, hk⟩ := h2 rfl k1
      clear h8 h2
      have e4 : (4 : Int) + st < 256 := by rcases ho with h | h <;> omega
      have e6 : (6 : Int) + st < 256 := by rcases ho with h | h <;> omega
      have w4 : IntKind.u8.wrap (4 + st) = 4 + st := by rcases ho with h | h <;> subst h <;> rfl
      have w6 : IntKind.u8.wrap (6 + st) = 6 + st := by rcases ho with h | h <;> subst h <;> rfl
      by_cases k2 : kd = 2
      · subst k2
        have HCV := Lib.hid (show CV = 4 + st by rw [← hCV, if_pos rfl, if_neg k1, if_pos rfl])
        clear hCV
        go_wp2_with (first
          | (refine wpList_load_row rfl 40 _ rfl A rfl 40 pa (0, 0) _ (((upI : Up W _).block A (LtSize.lt (b := A))).trans hRw) Tryz.underlying40 rfl hps ?_)
          | (go_at_call 78; (with_reducible refine (hR _ inferInstance).mono ?_); rintro e w' ⟨rfl, z1, rfl⟩))
        go_ret2
        exact ⟨by rw [HCV.out]; rfl, mkI⟩
      · have kb2 : (kd == 2) = false := by simpa using k2
        have HCV := Lib.hid (show CV = 6 + st by rw [← hCV, if_pos rfl, if_neg k1, if_neg k2])
        clear hCV
        go_wp2_with (first
          | (refine wpList_load_row rfl 40 _ rfl A rfl 40 pa (0, 0) _ (((upI : Up W _).block A (LtSize.lt (b := A))).trans hRw) Tryz.underlying40 rfl hps ?_)
          | (go_at_call 78; (with_reducible refine (hR _ inferInstance).mono ?_); rintro e w' ⟨rfl, z1, rfl⟩))
        go_ret2
        exact ⟨by rw [HCV.out]; rfl, mkI⟩
end Go.Proofs.YteciigbonaecoaaGreatDoor
