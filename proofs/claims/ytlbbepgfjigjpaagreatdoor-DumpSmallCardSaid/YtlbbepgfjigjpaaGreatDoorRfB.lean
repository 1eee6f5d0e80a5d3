/- The reference's Ordered and Reads, walked. '==' of two lines of the reference as one Bool. Lines turned into lines of the reference, and compared with them. The reference's Diff and Apply, on lists: they say what the program says (plain laws). The reference's find and key. The reference's Diff and Apply: what their walks share. The reference's text of a line. append of a row to an empty slice literal: the same row, in new blocks alone. Slices of strings with marks behind them, lent and kept. Arguments opened: slices of lines, of changes and of strings, nil or not. -/
import Derived.Test.YtlbbepgfjigjpaaGreatDoorRfA
import Derived.Test.YtlbbepgfjigjpaaGreatDoorDE
import Derived.Test.YtlbbepgfjigjpaaGreatDoorLF
import Derived.Test.YtlbbepgfjigjpaaGreatDoorEqCh
import Derived.Test.YtlbbepgfjigjpaaGreatDoorDBuild
import Derived.Test.YtlbbepgfjigjpaaGreatDoorDChP
import Derived.Test.YtlbbepgfjigjpaaGreatDoorDList
import Derived.Test.YtlbbepgfjigjpaaGreatDoorRow
import Derived.ArgAppend
import Derived.Test.YtlbbepgfjigjpaaGreatDoorDEx
import Derived.Laws.AppendOwnNone
import Derived.Laws.MakeOwn
import Derived.ChangeMaps5
import Derived.SliceStrings
import Derived.OpenShut
import Derived.WideShapes
namespace Go.Proofs.YtlbbepgfjigjpaaGreatDoor
open Go.RowKit Go.Ab
theorem infoRLine : (Tryz.prog.info? 60).map (fun i => (i.zero, i.size, i.bytes)) = some (some Ln.zero.val, 11, 40) := by kernel_rfl
theorem rcmpK (pr s d sp dp pr' s' d' sp' dp' C : Int) (w : World) (k : KeyB pr s d sp dp) (k' : KeyB pr' s' d' sp' dp') (hC : Hid (keyCmp pr s d sp dp pr' s' d' sp' dp' = C)) :
    Gives Tryz.prog 58 #[.agg #[.int .u8 pr, .int .u32 s, .int .u32 d, .int .u16 sp, .int .u16 dp], .agg #[.int .u8 pr', .int .u32 s', .int .u32 d', .int .u16 sp', .int .u16 dp']] w (.int .i64 C) :=
  (refCompare_any pr s d sp dp pr' s' d' sp' dp' w k k').cast (by rw [hC.out])
set_option maxHeartbeats 32000000 in
set_option maxRecDepth 100000 in
theorem rordered_any (l : List Ln) (v : Value) (w : World) (hv : LnRow w v l) (hb : ∀ x ∈ l, LnB x) (hl : l.length ≤ 1000000000) : Gives Tryz.prog 28 #[v] w (.bool (orderedL l)) := by
  obtain ⟨p, cap, rfl, hle, hc⟩ := hv
  obtain ⟨N, hN⟩ : ∃ N, l.length = N := ⟨_, rfl⟩
  rw [hN] at hle hl ⊢
  have HN := Lib.hid hN
  have Hc := Lib.hid hc
  have Hb := Lib.hid hb
  clear hN hc hb
  unfold Gives
  go_enter Tryz.func28, Tryz.ntmps28
  go_wp2_with fail
  go_loopw [3] (fun i wr => ∃ k : Nat, k ≤ N ∧ i = .int .i64 (k : Int) ∧ Hid (∀ j, j < k → okAt l j = true) ∧ ∃ x : Ext w, wr = x.w) (fun i _ => N - (intOf i).toNat)
  case atStart => exact ⟨0, Nat.zero_le _, rfl, Lib.hid (fun j hj => absurd hj (Nat.not_lt_zero j)), (Up.refl w).mk⟩
  case round =>
    obtain ⟨k, hk, rfl, Hk, x0, rfl⟩ := hrel
    by_cases hlt : k < N
    · have hlt' : (k : Int) < (N : Int) := by omega
      have k0 : (0 : Int) ≤ (k : Int) := by omega
      obtain ⟨x, hx⟩ : ∃ x, l[k]? = some x := ⟨_, List.getElem?_eq_getElem (by rw [HN.out]; exact hlt)⟩
      obtain ⟨b, o, rfl, hbw, hcc⟩ := Hc.out k x hx
      have c0 := hcc 0 _ rfl; have c1 := hcc 1 _ rfl; have c2 := hcc 2 _ rfl; have c3 := hcc 3 _ rfl; have c4 := hcc 4 _ rfl; have c5 := hcc 5 _ rfl; have c6 := hcc 6 _ rfl; have c7 := hcc 7 _ rfl; have c8 := hcc 8 _ rfl; have c9 := hcc 9 _ rfl; have c10 := hcc 10 _ rfl
      rw [Nat.add_zero] at c0
      haveI : LtSize b w := ⟨hbw⟩
      have xb := Hb.out x (List.mem_of_getElem? hx)
      have hR := fun w => rright38_any x w xb
      have Hx := Lib.hid hx
      unfold Ln.val at hR
      clear hcc hx
      cases hr : x.right
      · have E := Lib.hid (ordered_no (k := k) (by rw [HN.out]; exact hlt) (ext_right_false Hx.out hr))
        rw [hr] at hR
        clear hr xb Hx
        go_wp2_with fail
        (refine wp_region_ext (by kernel_rfl) (by kernel_rfl) ?_; (repeat (go_big_quiet_step ((go_at_call 19; exact (hR _).ext)))); refine wpQuiet_nil ?_; rintro _ ⟨y, rfl⟩)
        go_wp2_with fail
        go_ret
        exact ⟨ret_bool E.out.symm, mkI⟩
      · rw [hr] at hR
        rcases Nat.eq_zero_or_pos k with hk0 | hk0
        · have E := Lib.hid (show okAt l k = true by subst hk0; rw [okAt_zero l x Hx.out]; exact hr)
          have hkz : decide (0 < k) = false := decide_eq_false (by omega)
          clear hr xb Hx hk0
          go_wp2_with fail
          (refine wp_region_ext (by kernel_rfl) (by kernel_rfl) ?_; (repeat (go_big_quiet_step ((go_at_call 19; exact (hR _).ext)))); refine wpQuiet_nil ?_; rintro _ ⟨y, rfl⟩)
          go_wp2_with fail
          go_roundw
          case rel => exact ⟨k + 1, by omega, by go_num, Lib.hid (fun j hj => by rcases Nat.lt_or_eq_of_le (Nat.le_of_lt_succ hj) with h | h; exact Hk.out j h; rw [h]; exact E.out), mkI⟩
          case measure => simp [intOf]; omega
        · obtain ⟨m, hm⟩ : ∃ m : Nat, k = m + 1 := ⟨k - 1, by omega⟩
          have hkp : (0 : Int) < (k : Int) := by omega
          have hkm : (k : Int) - 1 = (m : Int) := by omega
          have hm0 : (0 : Int) ≤ (m : Int) := by omega
          have hmN : (m : Int) < (N : Int) := by omega
          obtain ⟨y, hy⟩ : ∃ y, l[m]? = some y := ⟨_, List.getElem?_eq_getElem (by rw [HN.out]; omega)⟩
          obtain ⟨b', o', hp', _, hcy⟩ := Hc.out m y hy
          simp only [Option.some.injEq, Addr.mk.injEq, and_true] at hp'
          obtain ⟨rfl, rfl⟩ := hp'
          have d0 := hcy 0 _ rfl; have d1 := hcy 1 _ rfl; have d2 := hcy 2 _ rfl; have d3 := hcy 3 _ rfl; have d4 := hcy 4 _ rfl
          rw [Nat.add_zero] at d0
          have yb := Hb.out y (List.mem_of_getElem? hy)
          obtain ⟨C, hC⟩ : ∃ C, y.cmp x = C := ⟨_, rfl⟩
          have hcm := fun w => rcmpK y.pr y.s y.d y.sp y.dp x.pr x.s x.d x.sp x.dp C w yb.key xb.key (Lib.hid hC)
          have EQ := Lib.hid (show okAt l k = decide (C < 0) by subst hm; rw [okAt_succ l m x y Hx.out hy, hr, Bool.true_and, hC])
          have hwm : wrap64 (m : Int) = (m : Int) := wrap_len m N (by omega) hl
          clear hcy hy hC xb yb Hx hm hr
          by_cases hC0 : C < 0
          · have E := Lib.hid (show okAt l k = true by rw [EQ.out]; exact decide_eq_true hC0)
            clear EQ
            go_wp2_with fail
            (refine wp_region_ext (by kernel_rfl) (by kernel_rfl) ?_; (repeat (go_big_quiet_step ((first
              | (go_at_call 19; exact (hR _).ext)
              | (go_at_call 58; exact (hcm _).ext))))); refine wpQuiet_nil ?_; rintro _ ⟨y1, rfl⟩)
            go_wp2_with fail
            go_roundw
            case rel => exact ⟨k + 1, by omega, by go_num, Lib.hid (fun j hj => by rcases Nat.lt_or_eq_of_le (Nat.le_of_lt_succ hj) with h | h; exact Hk.out j h; rw [h]; exact E.out), mkI⟩
            case measure => simp [intOf]; omega
          · have hC1 : 0 ≤ C := by omega
            have E := Lib.hid (ordered_no (l := l) (k := k) (by rw [HN.out]; exact hlt) (by rw [EQ.out]; exact decide_eq_false hC0))
            clear EQ hC0
            go_wp2_with fail
            (refine wp_region_ext (by kernel_rfl) (by kernel_rfl) ?_; (repeat (go_big_quiet_step ((first
              | (go_at_call 19; exact (hR _).ext)
              | (go_at_call 58; exact (hcm _).ext))))); refine wpQuiet_nil ?_; rintro _ ⟨y1, rfl⟩)
            go_wp2_with fail
            go_ret
            exact ⟨ret_bool E.out.symm, mkI⟩
    · have hlt' : (N : Int) ≤ (k : Int) := by omega
      have E := Lib.hid (ordered_yes (l := l) (fun j hj => Hk.out j (by rw [HN.out] at hj; omega)))
      clear hk hlt
      go_wp2_with fail
      go_ret
      exact ⟨ret_bool E.out.symm, mkI⟩
set_option maxHeartbeats 32000000 in
set_option maxRecDepth 100000 in
theorem rreads_any (l : List (List UInt8)) (v : Value) (w : World) (hv : StrRow w v l) (hb : ∀ s ∈ l, s.length ≤ 1000000000) (hl : l.length ≤ 1000000) :
    Calls Tryz.prog 27 #[v] w fun e w' => readsE (readsL l) w e w' 60 ∧ ∃ x : Ext w, w' = x.w := by
  obtain ⟨p, cap, rfl, hle, hc⟩ := hv
  obtain ⟨N, hN⟩ : ∃ N, l.length = N := ⟨_, rfl⟩
  rw [hN] at hle hl ⊢
  have HN := Lib.hid hN
  have Hc := Lib.hid hc
  have Hb := Lib.hid hb
  obtain ⟨T, hT⟩ : ∃ T, readsL l = T := ⟨_, rfl⟩
  rw [hT]
  have HT0 := Lib.hid (show readsFrom [] (l.drop 0) = T from hT)
  obtain ⟨i0, hi, hy0, hy1, hy2⟩ := info_parts infoRLine
  have Hi := Lib.hid hi; have Hy0 := Lib.hid hy0; have Hy1 := Lib.hid hy1; have Hy2 := Lib.hid hy2
  clear hN hc hb hT hi hy0 hy1 hy2
  go_enter Tryz.func27, Tryz.ntmps27
  go_wp2_with fail
  go_loopw [5, 6] (fun out i wr => ∃ (k : Nat) (os : List Ln), k ≤ N ∧ i = .int .i64 (k : Int) ∧ Hid (os.length = k) ∧ Hid (readsFrom os (l.drop k) = T) ∧ Hid (∀ x ∈ os, LnB x) ∧ Hid (wr.ownsRow w.heap.size 60 11 out k (os.flatMap Ln.cells)) ∧ ∃ x : Ext w, wr = x.w) (fun _ i _ => N - (intOf i).toNat)
  case atStart => exact ⟨0, [], Nat.zero_le _, rfl, rfl, HT0, Lib.hid (fun x hx => by cases hx), Lib.hid (World.ownsRow_nil _ _ _ _), (Up.refl w).mk⟩
  case round =>
    clear HT0
    obtain ⟨k, os, hk, rfl, Ho, HT, HB, Hown, x0, rfl⟩ := hrel
    by_cases hlt : k < N
    · have hlt' : (k : Int) < (N : Int) := by omega
      have k0 : (0 : Int) ≤ (k : Int) := by omega
      obtain ⟨s, hs⟩ : ∃ s, l[k]? = some s := ⟨_, List.getElem?_eq_getElem (by rw [HN.out]; exact hlt)⟩
      obtain ⟨b, o, rfl, hbw, hcc⟩ := Hc.out k s hs
      have c0 := hcc 0 _ rfl
      rw [Nat.add_zero, Nat.mul_one] at c0
      haveI : LtSize b w := ⟨hbw⟩
      have hrd := fun W => (rread38_any s W (by have := Hb.out s (List.mem_of_getElem? hs); omega)).cast (rreadV_eq s)
      unfold dreadV at hrd
      have Hs := Lib.hid hs
      clear hcc hs
      cases hr : readLn s with
      | none =>
        have E := Lib.hid (show T = (none, k) by rw [← HT.out, reads_no Hs.out (by unfold rstep; rw [hr]), Ho.out])
        simp only [hr, Ln.val, Ln.zero] at hrd
        clear hr
        go_wp2_with (go_at_call 17; refine (hrd _).mono ?_; rintro e w' ⟨rfl, y, rfl⟩)
        (refine wp_region_ext (by kernel_rfl) (by kernel_rfl) ?_; (repeat (go_big_quiet_step (fail))); refine wpQuiet_nil ?_; rintro _ ⟨y1, rfl⟩)
        go_wp2_with fail
        go_ret3
        rw [E.out]
        exact ⟨rfl, mkI⟩
      | some x =>
        have xb := readLn_b hr
        simp only [hr, Ln.val] at hrd
        rcases Nat.eq_zero_or_pos k with hk0 | hk0
        · have hkz : decide (0 < k) = false := decide_eq_false (by omega)
          have hrs : rstep os s = some x := by
            have h0 : os = [] := List.length_eq_zero_iff.1 (by rw [Ho.out]; exact hk0)
            unfold rstep; rw [hr, h0]; rfl
          have E := Lib.hid (show readsFrom (os ++ [x]) (l.drop (k + 1)) = T by rw [← HT.out, reads_go Hs.out hrs])
          have E2 := Lib.hid (lnCells_snoc os x)
          have HB2 := Lib.hid (show ∀ z ∈ os ++ [x], LnB z from fun z hz => by rcases List.mem_append.1 hz with h | h; exact HB.out z h; simp at h; rw [h]; exact xb)
          have Ho2 := Lib.hid (show (os ++ [x]).length = k + 1 by rw [List.length_append, Ho.out]; rfl)
          generalize os.flatMap Ln.cells = cs at *
          clear hr hrs hk0 HT HB Ho xb
          go_wp2_with (go_at_call 17; refine (hrd _).mono ?_; rintro e w' ⟨rfl, y, rfl⟩)
          (refine wp_region_ext (by kernel_rfl) (by kernel_rfl) ?_; (repeat (go_big_quiet_step (fail))); refine wpQuiet_nil ?_; rintro _ ⟨y1, rfl⟩)
          go_wp2_with (at_builtin; refine wpList_append_own _ rfl _ _ 75 rfl w.heap.size 60 i0 Ln.zero.val 11 40 Tryz.underlying75 Hi.out Hy0.out Hy1.out Hy2.out rfl (by decide) _ _ _ rfl (owns_up Hown.out (upI : Up x0.w _)) ⟨_, 0, none⟩ 1 1 x.cells rfl rfl ?c1 ?c2 ?c3 ?c4 ?c5 ?_)
          case c1 =>
            intro j u hj
            have hj11 : j < 11 := (List.getElem?_eq_some_iff.1 hj).1
            rcases (by omega : j = 0 ∨ j = 1 ∨ j = 2 ∨ j = 3 ∨ j = 4 ∨ j = 5 ∨ j = 6 ∨ j = 7 ∨ j = 8 ∨ j = 9 ∨ j = 10) with rfl | rfl | rfl | rfl | rfl | rfl | rfl | rfl | rfl | rfl | rfl
            all_goals (simp [Ln.cells] at hj; subst hj; simp [Addr.add, go_sem])
          case c2 =>
            intro u hu
            simp [Ln.cells] at hu
            rcases hu with rfl | rfl | rfl | rfl | rfl | rfl | rfl | rfl | rfl | rfl | rfl <;> rfl
          case c3 => unfold maxLen; omega
          case c4 => omega
          case c5 => exact (upI : Up w _).size
          intro v' w1 hown' hgrow _
          have hu1 : Up w w1 := Up.grown (upI : Up w _) hgrow (owns_row Hown.out)
          obtain ⟨x1, rfl⟩ := hu1.mk
          have Hown' := Lib.hid hown'
          clear hown' hgrow Hown hrd hu1
          go_wp2_with fail
          go_roundw
          case rel => exact ⟨k + 1, os ++ [x], by omega, by go_num, Ho2, E, HB2, by rw [E2.out]; exact Hown', mkI⟩
          case measure => simp [intOf]; omega
        · obtain ⟨m, hm⟩ : ∃ m : Nat, k = m + 1 := ⟨k - 1, by omega⟩
          have hkp : decide (0 < k) = true := decide_eq_true hk0
          have hkm : (k : Int) - 1 = (m : Int) := by omega
          have hm0 : (0 : Int) ≤ (m : Int) := by omega
          have hmk : (m : Int) < (k : Int) := by omega
          have hwm : wrap64 (m : Int) = (m : Int) := wrap_len m N (by omega) (by omega)
          obtain ⟨y, hy⟩ : ∃ y, os[m]? = some y := ⟨_, List.getElem?_eq_getElem (by rw [Ho.out]; omega)⟩
          have hlast : os.getLast? = some y := by rw [List.getLast?_eq_getElem?, Ho.out, hm]; simpa using hy
          have yb := HB.out y (List.mem_of_getElem? hy)
          obtain ⟨C, hC⟩ : ∃ C, y.cmp x = C := ⟨_, rfl⟩
          have hcm := fun w => rcmpK y.pr y.s y.d y.sp y.dp x.pr x.s x.d x.sp x.dp C w yb.key xb.key (Lib.hid hC)
          obtain ⟨gg, cap2, hgv, hg1, hg2, hg3, hgc⟩ := owns_cells Hown.out hk0
          subst hgv
          have q0 := hgc (m * 11 + 0) _ (flat_at Ln.cells_length os m 0 y _ hy rfl); have q1 := hgc (m * 11 + 1) _ (flat_at Ln.cells_length os m 1 y _ hy rfl); have q2 := hgc (m * 11 + 2) _ (flat_at Ln.cells_length os m 2 y _ hy rfl); have q3 := hgc (m * 11 + 3) _ (flat_at Ln.cells_length os m 3 y _ hy rfl); have q4 := hgc (m * 11 + 4) _ (flat_at Ln.cells_length os m 4 y _ hy rfl)
          rw [Nat.add_zero] at q0
          haveI : LtSize gg x0.w := ⟨hg2⟩
          by_cases hC0 : C < 0
          · have hrs : rstep os s = some x := by unfold rstep; rw [hr, hlast]; simp only [hC]; rw [if_pos hC0]
            have E := Lib.hid (show readsFrom (os ++ [x]) (l.drop (k + 1)) = T by rw [← HT.out, reads_go Hs.out hrs])
            have E2 := Lib.hid (lnCells_snoc os x)
            have HB2 := Lib.hid (show ∀ z ∈ os ++ [x], LnB z from fun z hz => by rcases List.mem_append.1 hz with h | h; exact HB.out z h; simp at h; rw [h]; exact xb)
            have Ho2 := Lib.hid (show (os ++ [x]).length = k + 1 by rw [List.length_append, Ho.out]; rfl)
            clear hgc
            generalize os.flatMap Ln.cells = cs at *
            clear hr hrs hk0 HT HB Ho xb yb hC hlast hy hm hg3
            go_wp2_with (go_at_call 17; refine (hrd _).mono ?_; rintro e w' ⟨rfl, y, rfl⟩)
            (refine wp_region_ext (by kernel_rfl) (by kernel_rfl) ?_; (repeat (go_big_quiet_step ((go_at_call 58; exact (hcm _).ext)))); refine wpQuiet_nil ?_; rintro _ ⟨y1, rfl⟩)
            go_wp2_with (at_builtin; refine wpList_append_own _ rfl _ _ 75 rfl w.heap.size 60 i0 Ln.zero.val 11 40 Tryz.underlying75 Hi.out Hy0.out Hy1.out Hy2.out rfl (by decide) _ _ _ rfl (owns_up Hown.out (upI : Up x0.w _)) ⟨_, 0, none⟩ 1 1 x.cells rfl rfl ?c1 ?c2 ?c3 ?c4 ?c5 ?_)
            case c1 =>
              intro j u hj
              have hj11 : j < 11 := (List.getElem?_eq_some_iff.1 hj).1
              rcases (by omega : j = 0 ∨ j = 1 ∨ j = 2 ∨ j = 3 ∨ j = 4 ∨ j = 5 ∨ j = 6 ∨ j = 7 ∨ j = 8 ∨ j = 9 ∨ j = 10) with rfl | rfl | rfl | rfl | rfl | rfl | rfl | rfl | rfl | rfl | rfl
              all_goals (simp [Ln.cells] at hj; subst hj; simp [Addr.add, go_sem])
            case c2 =>
              intro u hu
              simp [Ln.cells] at hu
              rcases hu with rfl | rfl | rfl | rfl | rfl | rfl | rfl | rfl | rfl | rfl | rfl <;> rfl
            case c3 => unfold maxLen; omega
            case c4 => omega
            case c5 => exact (upI : Up w _).size
            intro v' w1 hown' hgrow _
            have hu1 : Up w w1 := Up.grown (upI : Up w _) hgrow (owns_row Hown.out)
            obtain ⟨x1, rfl⟩ := hu1.mk
            have Hown' := Lib.hid hown'
            clear hown' hgrow Hown hrd hu1 hcm q0 q1 q2 q3 q4
            go_wp2_with fail
            go_roundw
            case rel => exact ⟨k + 1, os ++ [x], by omega, by go_num, Ho2, E, HB2, by rw [E2.out]; exact Hown', mkI⟩
            case measure => simp [intOf]; omega
          · have hC1 : 0 ≤ C := by omega
            have E := Lib.hid (show T = (none, k) by rw [← HT.out, reads_no Hs.out (by unfold rstep; rw [hr, hlast]; simp only [hC]; rw [if_neg hC0]), Ho.out])
            clear hr hk0 HT HB xb yb hC hlast hy hm hg3 hC0 hgc
            go_wp2_with (go_at_call 17; refine (hrd _).mono ?_; rintro e w' ⟨rfl, y, rfl⟩)
            (refine wp_region_ext (by kernel_rfl) (by kernel_rfl) ?_; (repeat (go_big_quiet_step ((go_at_call 58; exact (hcm _).ext)))); refine wpQuiet_nil ?_; rintro _ ⟨y1, rfl⟩)
            go_wp2_with fail
            go_ret3
            rw [E.out]
            exact ⟨rfl, mkI⟩
    · obtain rfl : k = N := by omega
      have E := Lib.hid (show T = (some os, 0) by rw [← HT.out, List.drop_of_length_le (by rw [HN.out]; exact Nat.le_refl _)]; rfl)
      have hown := Hown.out
      rw [← Ho.out] at hown
      have Hown2 := Lib.hid hown
      clear hown
      go_wp2_with fail
      go_ret3
      rw [E.out]
      exact ⟨⟨_, rfl, Hown2.out⟩, mkI⟩
end Go.Proofs.YtlbbepgfjigjpaaGreatDoor
namespace Go.Proofs.YtlbbepgfjigjpaaGreatDoor
open Go.RowKit Go.Ab
set_option maxHeartbeats 8000000 in
set_option maxRecDepth 100000 in
theorem eq_rline (w : World) (pr1 pr2 s1 s2 d1 d2 sp1 sp2 dp1 dp2 sd1 sd2 cl1 cl2 dl1 dl2 sn1 sn2 : Int) (rp1 rp2 ss1 ss2 : Bool) :
    (Op.equalIn 10000 60 (.agg #[.int .u8 pr1, .int .u32 s1, .int .u32 d1, .int .u16 sp1, .int .u16 dp1, .int .u8 sd1, .int .u8 cl1, .bool rp1, .bool ss1, .int .i64 dl1, .int .i64 sn1]) (.agg #[.int .u8 pr2, .int .u32 s2, .int .u32 d2, .int .u16 sp2, .int .u16 dp2, .int .u8 sd2, .int .u8 cl2, .bool rp2, .bool ss2, .int .i64 dl2, .int .i64 sn2])).run Tryz.prog w = .ok (pr1 == pr2 && (s1 == s2 && (d1 == d2 && (sp1 == sp2 && (dp1 == dp2 && (sd1 == sd2 && (cl1 == cl2 && (rp1 == rp2 && (ss1 == ss2 && (dl1 == dl2 && (sn1 == sn2))))))))))) w := by
  cases h0 : (pr1 == pr2) with
  | false => simp [go_sem, h0]
  | true =>
    cases h1 : (s1 == s2) with
    | false => simp [go_sem, h0, h1]
    | true =>
      cases h2 : (d1 == d2) with
      | false => simp [go_sem, h0, h1, h2]
      | true =>
        cases h3 : (sp1 == sp2) with
        | false => simp [go_sem, h0, h1, h2, h3]
        | true =>
          cases h4 : (dp1 == dp2) with
          | false => simp [go_sem, h0, h1, h2, h3, h4]
          | true =>
            cases h5 : (sd1 == sd2) with
            | false => simp [go_sem, h0, h1, h2, h3, h4, h5]
            | true =>
              cases h6 : (cl1 == cl2) with
              | false => simp [go_sem, h0, h1, h2, h3, h4, h5, h6]
              | true =>
                cases h7 : (rp1 == rp2) with
                | false => simp [go_sem, h0, h1, h2, h3, h4, h5, h6, h7]
                | true =>
                  cases h8 : (ss1 == ss2) with
                  | false => simp [go_sem, h0, h1, h2, h3, h4, h5, h6, h7, h8]
                  | true =>
                    cases h9 : (dl1 == dl2) with
                    | false => simp [go_sem, h0, h1, h2, h3, h4, h5, h6, h7, h8, h9]
                    | true =>
                      cases h10 : (sn1 == sn2) <;> simp [go_sem, h0, h1, h2, h3, h4, h5, h6, h7, h8, h9, h10]
theorem eq_rln (x y : Ln) (w : World) : (Op.equalIn 10000 60 (.agg x.cells.toArray) (.agg y.cells.toArray)).run Tryz.prog w = .ok (decide (x = y)) w := by
  obtain ⟨p1, p2, p3, p4, p5, p6, p7, p8, p9, p10, p11⟩ := x
  obtain ⟨r1, r2, r3, r4, r5, r6, r7, r8, r9, r10, r11⟩ := y
  refine (eq_rline w _ _ _ _ _ _ _ _ _ _ _ _ _ _ _ _ _ _ _ _ _ _).trans (congrArg (Result.ok · w) ?_)
  rw [Bool.eq_iff_iff]
  simp
end Go.Proofs.YtlbbepgfjigjpaaGreatDoor
namespace Go.Ab
open Go.RowKit Go.Proofs.YtlbbepgfjigjpaaGreatDoor
theorem flat_snoc (l : List Ln) (k : Nat) (y : Ln) (h : l[k]? = some y) : (l.take (k + 1)).flatMap Ln.cells = (l.take k).flatMap Ln.cells ++ y.cells := by
  rw [take_snoc3 l k y h, List.flatMap_append]; simp
end Go.Ab
namespace Go.Proofs.YtlbbepgfjigjpaaGreatDoor
open Go.RowKit Go.Ab
theorem slice_rline (y : Ln) (w : World) : (Instr.buildSlice 75 1 #[(0, .agg y.cells.toArray)]).run Tryz.prog w = .ok (.slice (some ⟨w.heap.size, 0, none⟩) 1 1) (w.alloc (.cells (lnBlk [y]) 60)) := by kernel_rfl
theorem lnBlk_one (y : Ln) : lnBlk [y] = y.cells.toArray := by unfold lnBlk; simp
set_option maxHeartbeats 16000000 in
set_option maxRecDepth 100000 in
theorem turned_any (l : List Ln) (v : Value) (w : World) (hv : LnRow w v l) (hl : l.length ≤ 1000000) :
    Calls Tryz.prog 24 #[v] w fun e w' => ∃ u, e = .returned u ∧ w'.ownsRow w.heap.size 60 11 u l.length (l.flatMap Ln.cells) ∧ ∃ x : Ext w, w' = x.w := by
  obtain ⟨p, cap, rfl, hle, hc⟩ := hv
  obtain ⟨N, hN⟩ : ∃ N, l.length = N := ⟨_, rfl⟩
  rw [hN] at hle hl ⊢
  have HN := Lib.hid hN
  have Hc := Lib.hid hc
  obtain ⟨i0, hi, hy0, hy1, hy2⟩ := info_parts infoRLine
  have Hi := Lib.hid hi; have Hy0 := Lib.hid hy0; have Hy1 := Lib.hid hy1; have Hy2 := Lib.hid hy2
  clear hN hc hi hy0 hy1 hy2
  go_enter Tryz.func24, Tryz.ntmps24
  go_wp2_with fail
  go_loopw [3, 8] (fun out i wr => ∃ k : Nat, k ≤ N ∧ i = .int .i64 (k : Int) ∧ Hid (wr.ownsRow w.heap.size 60 11 out k ((l.take k).flatMap Ln.cells)) ∧ Up w wr) (fun _ i _ => N - (intOf i).toNat)
  case atStart => exact ⟨0, Nat.zero_le _, rfl, Lib.hid (World.ownsRow_nil _ _ _ _), Up.refl _⟩
  case round =>
    obtain ⟨k, hk, rfl, Hown, hu⟩ := hrel
    haveI : UpI w wr := ⟨hu⟩
    by_cases hlt : k < N
    · have hlt' : (k : Int) < (N : Int) := by omega
      have k0 : (0 : Int) ≤ (k : Int) := by omega
      obtain ⟨y, hs⟩ : ∃ y, l[k]? = some y := ⟨_, List.getElem?_eq_getElem (by rw [HN.out]; exact hlt)⟩
      obtain ⟨b1, o1, rfl, hb1, hc1⟩ := Hc.out k y hs
      have hY : wr.rangeAt b1 (o1 + k * 11) y.cells := fun j u hj => hu.cell_some (hc1 j u hj)
      have HF := Lib.hid (flat_snoc l k y hs)
      clear hc1 hs
      generalize (l.take k).flatMap Ln.cells = cs at *
      go_upto_region 5 with (first
        | (refine wpList_load_mid rfl 31 _ rfl b1 (o1 + k * 11) rfl y.cells _ hY Tryz.underlying31 rfl lnSize ?_)
        | (refine wpList_store_row rfl 31 _ _ rfl _ y.cells.toArray rfl rfl 31 _ (alloc_new rfl) lnSize rfl (ln_all y) ?_))
      obtain ⟨D, hD⟩ : ∃ D, wr.heap.size = D := ⟨_, rfl⟩
      rw [hD]
      refine wp_letter (fun Z => UpI wr Z ∧ Z.heap[D]? = some (.cells y.cells.toArray 31 (0, 0))) ⟨⟨UpI.row hD _⟩, setRow_heap _ _ _ _ _ _ (alloc_new hD)⟩ ?_
      rintro Z ⟨uZ, hrD⟩
      haveI := uZ
      haveI : UpI w Z := ⟨hu.trans uZ.up⟩
      clear hY hD
      go_wp2_with (first
        | (refine wpList_load_row rfl 31 _ rfl D rfl 31 y.cells.toArray (0, 0) _ hrD Tryz.underlying31 rfl lnSize ?_)
        | (refine wpList_sliceRun rfl 75 1 _ rfl #[(0, .agg y.cells.toArray)] (by kernel_rfl) _ _ (slice_rline y _) ?_)
        | (at_builtin; refine wpList_append_own _ rfl _ _ 75 rfl w.heap.size 60 i0 Ln.zero.val 11 40 Tryz.underlying75 Hi.out Hy0.out Hy1.out Hy2.out rfl (by decide) _ _ _ rfl (owns_up (owns_up Hown.out uZ.up) (upI : Up Z _)) ⟨_, 0, none⟩ 1 1 y.cells rfl rfl ?c1 ?c2 ?c3 ?c4 ?c5 ?_))
      case c1 => intro j u hj; rw [lnBlk_one]; exact ln_at Z y _ j u hj
      case c2 => exact fun u h => y.one u h
      case c3 => unfold maxLen; omega
      case c4 => omega
      case c5 => exact (upI : Up w _).size
      intro v' w1 hown' hgrow _
      have hu1 : Up w w1 := Up.grown (upI : Up w _) hgrow (owns_row Hown.out)
      have Hown' := Lib.hid hown'
      clear hown' hgrow Hown hrD
      go_wp2_with fail
      go_roundw
      case rel => exact ⟨k + 1, by omega, by go_num, by rw [HF.out]; exact Hown', hu1⟩
      case measure => simp [intOf]; omega
    · obtain rfl : k = N := by omega
      have hown := Hown.out
      rw [List.take_of_length_le (by rw [HN.out]; exact Nat.le_refl _)] at hown
      have Hown2 := Lib.hid hown
      clear hown
      go_wp2_with fail
      go_ret
      exact ⟨_, rfl, Hown2.out, hu.mk⟩
theorem turned_row (l : List Ln) (v : Value) (w : World) (hv : LnRow w v l) (hl : l.length ≤ 1000000) :
    Calls Tryz.prog 24 #[v] w fun e w' => ∃ q c, e = .returned (.slice q l.length c) ∧ LnRow w' (.slice q l.length c) l ∧ ∃ x : Ext w, w' = x.w :=
  (turned_any l v w hv hl).mono fun e w' ⟨u, h1, h2, h3⟩ => by
    have h4 := RowOf.of_owns Ln.cells_length h2
    have h5 := h4
    obtain ⟨q, c, rfl, _⟩ := h5
    exact ⟨q, c, h1, h4, h3⟩
attribute [local go_sem high] eq_rln
set_option maxHeartbeats 16000000 in
set_option maxRecDepth 100000 in
theorem equals_any (a b : List Ln) (va vb : Value) (w : World) (ha : LnRow w va a) (hb : LnRow w vb b) (la : a.length ≤ 1000000) (lb : b.length ≤ 1000000) : Gives Tryz.prog 29 #[va, vb] w (.bool (a == b)) := by
  have hT := fun W (h : UpI w W) => turned_row a va W (ha.up h.up) la
  clear ha
  obtain ⟨q, cap2, rfl, hle2, hd⟩ := hb
  obtain ⟨N, hN⟩ : ∃ N, a.length = N := ⟨_, rfl⟩
  obtain ⟨M, hM⟩ : ∃ M, b.length = M := ⟨_, rfl⟩
  rw [hN] at hT la
  rw [hM] at hle2 lb ⊢
  have HN := Lib.hid hN
  have HM := Lib.hid hM
  have Hd := Lib.hid hd
  clear hN hM hd
  unfold Gives
  by_cases hNM : N = M
  · subst hNM
    go_enter Tryz.func29, Tryz.ntmps29
    go_upto_region 5 with (go_at_call 24; refine (hT _ inferInstance).mono ?_; rintro e w' ⟨p, cap, rfl, hrow, z1, rfl⟩)
    obtain ⟨p', cap', hpe, hle, hc⟩ := hrow
    rw [HN.out] at hpe hle
    simp only [Value.slice.injEq, true_and] at hpe
    obtain ⟨rfl, rfl⟩ := hpe
    have Hc := Lib.hid hc
    clear hc hT
    generalize hz1 : z1.w = W at *
    haveI uW : UpI w W := ⟨hz1 ▸ z1.up⟩
    clear hz1
    go_loopw [16] (fun i wr => ∃ k : Nat, k ≤ N ∧ i = .int .i64 (k : Int) ∧ Hid (∀ j, j < k → a[j]? = b[j]?) ∧ ∃ x : Ext W, wr = x.w) (fun i _ => N - (intOf i).toNat)
    case atStart => exact ⟨0, Nat.zero_le _, rfl, Lib.hid (fun j hj => absurd hj (Nat.not_lt_zero j)), (Up.refl W).mk⟩
    case round =>
      obtain ⟨k, hk, rfl, Hk, x0, rfl⟩ := hrel
      by_cases hlt : k < N
      · have hlt' : (k : Int) < (N : Int) := by omega
        have k0 : (0 : Int) ≤ (k : Int) := by omega
        obtain ⟨x, hs⟩ : ∃ x, a[k]? = some x := ⟨_, List.getElem?_eq_getElem (by rw [HN.out]; exact hlt)⟩
        obtain ⟨y, ht⟩ : ∃ y, b[k]? = some y := ⟨_, List.getElem?_eq_getElem (by rw [HM.out]; exact hlt)⟩
        obtain ⟨b1, o1, rfl, hb1, hc1⟩ := Hc.out k x hs
        obtain ⟨b2, o2, rfl, hb2, hc2⟩ := Hd.out k y ht
        have hX : x0.w.rangeAt b1 (o1 + k * 11) x.cells := fun j u hj => x0.up.cell_some (hc1 j u hj)
        have hY : x0.w.rangeAt b2 (o2 + k * 11) y.cells := fun j u hj => (uW.up.trans x0.up).cell_some (hc2 j u hj)
        have Hs := Lib.hid hs
        have Ht := Lib.hid ht
        clear hc1 hc2 hs ht
        obtain ⟨d, hd⟩ : ∃ d, decide (x = y) = d := ⟨_, rfl⟩
        go_upto_region 7 with fail
        refine wp_region_ext (by kernel_rfl) (by kernel_rfl) ?_
        repeat (first
          | (refine wpQuiet_load_mid (by kernel_rfl) 60 _ rfl b1 (o1 + k * 11) rfl x.cells _ (range_ext hX) Tryz.underlying60 rfl rlnSize ?_; simp only [Act.put, List.setIfInBounds_toArray, List.set_cons_succ, List.set_cons_zero])
          | (refine wpQuiet_load_mid (by kernel_rfl) 60 _ rfl b2 (o2 + k * 11) rfl y.cells _ (range_ext hY) Tryz.underlying60 rfl rlnSize ?_; simp only [Act.put, List.setIfInBounds_toArray, List.set_cons_succ, List.set_cons_zero])
          | go_big_quiet_step (fail))
        refine wpQuiet_nil ?_
        rintro _ ⟨z2, rfl⟩
        cases d
        · have E := Lib.hid (ln_ne_at Hs.out Ht.out (of_decide_eq_false hd))
          go_wp2_with fail
          go_ret
          exact ⟨ret_bool E.out.symm, mkI⟩
        · have E := Lib.hid (show a[k]? = b[k]? by rw [Hs.out, Ht.out, of_decide_eq_true hd])
          go_wp2_with fail
          go_roundw
          case rel => exact ⟨k + 1, by omega, by go_num, Lib.hid (fun j hj => by rcases Nat.lt_or_eq_of_le (Nat.le_of_lt_succ hj) with h | h; exact Hk.out j h; rw [h]; exact E.out), mkI⟩
          case measure => simp [intOf]; omega
      · obtain rfl : k = N := by omega
        have E := Lib.hid (show (a == b) = true by
          rw [beq_iff_eq]
          apply List.ext_getElem?
          intro j
          by_cases hj : j < k
          · exact Hk.out j hj
          · rw [List.getElem?_eq_none (by rw [HN.out]; omega), List.getElem?_eq_none (by rw [HM.out]; omega)])
        go_wp2_with fail
        go_ret
        exact ⟨ret_bool E.out.symm, mkI⟩
  · have E := Lib.hid (show (a == b) = false by
      rw [beq_eq_false_iff_ne]
      intro h
      exact hNM (by rw [← HN.out, ← HM.out, h]))
    have hne : ¬ (N : Int) = (M : Int) := by omega
    go_enter Tryz.func29, Tryz.ntmps29
    go_wp2_with (go_at_call 24; refine (hT _ inferInstance).mono ?_; rintro e w' ⟨p, cap, rfl, hrow, z1, rfl⟩)
    go_ret
    exact ⟨ret_bool E.out.symm, mkI⟩
end Go.Proofs.YtlbbepgfjigjpaaGreatDoor
namespace Go.Ab
open Go.RowKit Go.Proofs.YtlbbepgfjigjpaaGreatDoor
theorem pairsL_fuel : ∀ (n m : Nat) (a b : List Ln), a.length + b.length ≤ n → a.length + b.length ≤ m → pairsL n a b = pairsL m a b
  | 0, m, a, b, h, _ => by
    obtain rfl : a = [] := List.length_eq_zero_iff.1 (by omega)
    obtain rfl : b = [] := List.length_eq_zero_iff.1 (by omega)
    cases m <;> rfl
  | n + 1, 0, a, b, _, h => by
    obtain rfl : a = [] := List.length_eq_zero_iff.1 (by omega)
    obtain rfl : b = [] := List.length_eq_zero_iff.1 (by omega)
    rfl
  | n + 1, m + 1, [], [], _, _ => rfl
  | n + 1, m + 1, x :: us, [], h, k => by
    rw [pairsL, pairsL, pairsL_fuel n m us [] (by simp at h ⊢; omega) (by simp at k ⊢; omega)]
  | n + 1, m + 1, [], y :: vs, h, k => by
    rw [pairsL, pairsL, pairsL_fuel n m [] vs (by simp at h ⊢; omega) (by simp at k ⊢; omega)]
  | n + 1, m + 1, x :: us, y :: vs, h, k => by
    simp only [List.length_cons] at h k
    rw [pairsL, pairsL, pairsL_fuel n m us (y :: vs) (by simp; omega) (by simp; omega), pairsL_fuel n m (x :: us) vs (by simp; omega) (by simp; omega), pairsL_fuel n m us vs (by omega) (by omega)]
theorem diffL_fuel (n : Nat) (a b : List Ln) (h : a.length + b.length ≤ n) : (pairsL n a b).flatMap chOf = diffL a b := by
  unfold diffL; rw [pairsL_fuel n _ a b h (Nat.le_refl _)]
theorem diffL_nil2 : diffL [] [] = [] := rfl
theorem diffL_old (x : Ln) (us vs : List Ln) (h : ∀ y ∈ vs, x.cmp y < 0) : diffL (x :: us) vs = ⟨2, x, Ln.zero⟩ :: diffL us vs := by
  rw [← diffL_fuel (us.length + vs.length + 1) (x :: us) vs (by simp; omega), ← diffL_fuel (us.length + vs.length) us vs (Nat.le_refl _)]
  cases vs with
  | nil => rw [pairsL]; rfl
  | cons y t => rw [pairsL, if_pos (h y (by simp))]; rfl
theorem diffL_new (y : Ln) (us vs : List Ln) (h : ∀ x ∈ us, y.cmp x < 0) : diffL us (y :: vs) = ⟨1, Ln.zero, y⟩ :: diffL us vs := by
  rw [← diffL_fuel (us.length + vs.length + 1) us (y :: vs) (by simp; omega), ← diffL_fuel (us.length + vs.length) us vs (Nat.le_refl _)]
  cases us with
  | nil => rw [pairsL]; rfl
  | cons x t =>
    have h1 := h x (by simp)
    have h2 := cmp_neg y x
    rw [pairsL, if_neg (by omega), if_pos (by omega)]; rfl
theorem diffL_both (x y : Ln) (us vs : List Ln) (h : x.cmp y = 0) : diffL (x :: us) (y :: vs) = (if x = y then [] else [⟨3, x, y⟩]) ++ diffL us vs := by
  rw [← diffL_fuel (us.length + vs.length + 1 + 1) (x :: us) (y :: vs) (by simp; omega), ← diffL_fuel (us.length + vs.length + 1) us vs (by omega)]
  rw [pairsL, if_neg (by omega), if_neg (by omega)]; rfl
theorem diffL_same (x : Ln) (us vs : List Ln) : diffL (x :: us) (x :: vs) = diffL us vs := by rw [diffL_both x x us vs (cmp_self x), if_pos rfl]; rfl
theorem diffL_pre : ∀ (P us vs : List Ln), diffL (P ++ us) (P ++ vs) = diffL us vs
  | [], _, _ => rfl
  | x :: P, us, vs => by rw [List.cons_append, List.cons_append, diffL_same, diffL_pre P us vs]
/-- All lines that are gone through. -/
theorem pairsL_all : ∀ (n : Nat) (a b : List Ln), a.length + b.length ≤ n → (∀ x ∈ a, ∃ p ∈ pairsL n a b, p.1 = some x) ∧ (∀ y ∈ b, ∃ p ∈ pairsL n a b, p.2 = some y)
  | 0, a, b, h => by
    obtain rfl : a = [] := List.length_eq_zero_iff.1 (by omega)
    obtain rfl : b = [] := List.length_eq_zero_iff.1 (by omega)
    exact ⟨fun x hx => (by cases hx), fun y hy => (by cases hy)⟩
  | n + 1, [], [], _ => ⟨fun x hx => (by cases hx), fun y hy => (by cases hy)⟩
  | n + 1, a :: us, [], h => by
    obtain ⟨h1, _⟩ := pairsL_all n us [] (by simp at h ⊢; omega)
    rw [pairsL]
    refine ⟨fun x hx => ?_, fun y hy => (by cases hy)⟩
    rcases List.mem_cons.1 hx with rfl | hx
    · exact ⟨_, List.mem_cons_self, rfl⟩
    · obtain ⟨p, hp, e⟩ := h1 x hx; exact ⟨p, List.mem_cons_of_mem _ hp, e⟩
  | n + 1, [], b :: vs, h => by
    obtain ⟨_, h1⟩ := pairsL_all n [] vs (by simp at h ⊢; omega)
    rw [pairsL]
    refine ⟨fun x hx => (by cases hx), fun y hy => ?_⟩
    rcases List.mem_cons.1 hy with rfl | hy
    · exact ⟨_, List.mem_cons_self, rfl⟩
    · obtain ⟨p, hp, e⟩ := h1 y hy; exact ⟨p, List.mem_cons_of_mem _ hp, e⟩
  | n + 1, a :: us, b :: vs, h => by
    simp only [List.length_cons] at h
    rw [pairsL]
    split
    · obtain ⟨h1, h2⟩ := pairsL_all n us (b :: vs) (by simp; omega)
      refine ⟨fun x hx => ?_, fun y hy => ?_⟩
      · rcases List.mem_cons.1 hx with rfl | hx
        · exact ⟨_, List.mem_cons_self, rfl⟩
        · obtain ⟨p, hp, e⟩ := h1 x hx; exact ⟨p, List.mem_cons_of_mem _ hp, e⟩
      · obtain ⟨p, hp, e⟩ := h2 y hy; exact ⟨p, List.mem_cons_of_mem _ hp, e⟩
    · split
      · obtain ⟨h1, h2⟩ := pairsL_all n (a :: us) vs (by simp; omega)
        refine ⟨fun x hx => ?_, fun y hy => ?_⟩
        · obtain ⟨p, hp, e⟩ := h1 x hx; exact ⟨p, List.mem_cons_of_mem _ hp, e⟩
        · rcases List.mem_cons.1 hy with rfl | hy
          · exact ⟨_, List.mem_cons_self, rfl⟩
          · obtain ⟨p, hp, e⟩ := h2 y hy; exact ⟨p, List.mem_cons_of_mem _ hp, e⟩
      · obtain ⟨h1, h2⟩ := pairsL_all n us vs (by omega)
        refine ⟨fun x hx => ?_, fun y hy => ?_⟩
        · rcases List.mem_cons.1 hx with rfl | hx
          · exact ⟨_, List.mem_cons_self, rfl⟩
          · obtain ⟨p, hp, e⟩ := h1 x hx; exact ⟨p, List.mem_cons_of_mem _ hp, e⟩
        · rcases List.mem_cons.1 hy with rfl | hy
          · exact ⟨_, List.mem_cons_self, rfl⟩
          · obtain ⟨p, hp, e⟩ := h2 y hy; exact ⟨p, List.mem_cons_of_mem _ hp, e⟩
theorem srt_key {l : List Ln} (s : Srt l) {x y : Ln} (hx : x ∈ l) (hy : y ∈ l) (h : x.cmp y = 0) : x = y := by
  obtain ⟨i, hi⟩ := List.getElem?_of_mem hx
  obtain ⟨j, hj⟩ := List.getElem?_of_mem hy
  obtain ⟨i1, rfl⟩ := List.getElem?_eq_some_iff.1 hi
  obtain ⟨j1, rfl⟩ := List.getElem?_eq_some_iff.1 hj
  rcases Nat.lt_trichotomy i j with h1 | h1 | h1
  · have := (List.pairwise_iff_getElem.1 s) i j i1 j1 h1; omega
  · subst h1; rfl
  · have := (List.pairwise_iff_getElem.1 s) j i j1 i1 h1
    have := cmp_neg l[i] l[j]; omega
/-- Each change that there should be is there. -/
theorem diffL_all (a b : List Ln) (sa : Srt a) (sb : Srt b) (c : Ch) (h : ChOk a b c) : c ∈ diffL a b := by
  obtain ⟨h1, h2⟩ := pairsL_all _ a b (Nat.le_refl _)
  have hs := (pairsL_spec (a.length + b.length) a b sa sb).1
  unfold diffL
  rw [List.mem_flatMap]
  obtain ⟨k, o, w⟩ := c
  rcases h with ⟨rfl, rfl, hn, hx⟩ | ⟨rfl, rfl, ho, hy⟩ | ⟨rfl, ho, hn, hne, hk⟩
  · obtain ⟨p, hp, e⟩ := h2 w hn
    have hp2 := hs p hp
    obtain ⟨x, y⟩ := p
    simp only at e; subst e
    cases x with
    | none => exact ⟨_, hp, by simp [chOf]⟩
    | some x =>
      exfalso
      have := hx x hp2.1
      rw [keyB_cmp] at this
      exact beq_eq_false_iff_ne.1 this hp2.2.2
  · obtain ⟨p, hp, e⟩ := h1 o ho
    have hp2 := hs p hp
    obtain ⟨x, y⟩ := p
    simp only at e; subst e
    cases y with
    | none => exact ⟨_, hp, by simp [chOf]⟩
    | some y =>
      exfalso
      have := hy y hp2.2.1
      rw [keyB_cmp] at this
      have h3 := cmp_neg o y
      exact beq_eq_false_iff_ne.1 this (by have := hp2.2.2; show y.cmp o = 0; omega)
  · obtain ⟨p, hp, e⟩ := h1 o ho
    have hp2 := hs p hp
    obtain ⟨x, y⟩ := p
    simp only at e; subst e
    have hk0 : o.cmp w = 0 := by rw [keyB_cmp] at hk; exact beq_iff_eq.1 hk
    cases y with
    | none => exact absurd hk0 (hp2.2 w hn)
    | some y =>
      have h3 : y = w := srt_key sb hp2.2.1 hn (by
        have e1 := hp2.2.2
        have e2 := cmp_neg o y
        have e3 := (cmp_le_trans (a := y) (b := o) (c := w) (by omega) (by omega)).1
        have e4 := (cmp_le_trans (a := w) (b := o) (c := y) (by have := cmp_neg o w; omega) (by omega)).1
        have e5 := cmp_neg y w
        omega)
      subst h3
      exact ⟨_, hp, by simp [chOf, hne]⟩
/-- Two lists in strict order with the same elements are one. -/
theorem strict_ext {α : Type} {R : α → α → Prop} (hirr : ∀ x, ¬ R x x) (hasy : ∀ x y, R x y → ¬ R y x) : ∀ l m : List α, l.Pairwise R → m.Pairwise R → (∀ x, x ∈ l ↔ x ∈ m) → l = m
  | [], [], _, _, _ => rfl
  | [], y :: m, _, _, h => absurd ((h y).2 (by simp)) (by simp)
  | x :: l, [], _, _, h => absurd ((h x).1 (by simp)) (by simp)
  | x :: l, y :: m, hl, hm, h => by
    obtain ⟨l1, l2⟩ := List.pairwise_cons.1 hl
    obtain ⟨m1, m2⟩ := List.pairwise_cons.1 hm
    have hxy : x = y := by
      rcases List.mem_cons.1 ((h x).1 (by simp)) with e | e
      · exact e
      · rcases List.mem_cons.1 ((h y).2 (by simp)) with e2 | e2
        · exact e2.symm
        · exact absurd (l1 y e2) (hasy _ _ (m1 x e))
    subst hxy
    congr 1
    refine strict_ext hirr hasy l m l2 m2 fun z => ⟨fun hz => ?_, fun hz => ?_⟩
    · rcases List.mem_cons.1 ((h z).1 (by simp [hz])) with e | e
      · subst e; exact absurd (l1 z hz) (hirr z)
      · exact e
    · rcases List.mem_cons.1 ((h z).2 (by simp [hz])) with e | e
      · subst e; exact absurd (m1 z hz) (hirr z)
      · exact e
/-- The line of a key. -/
def findL (l : List Ln) (x : Ln) : Option Ln := l.find? fun y => keyB y x
def refD0 (b : List Ln) (x : Ln) : List Ch := match findL b x with | none => [⟨2, x, Ln.zero⟩] | some y => if y = x then [] else [⟨3, x, y⟩]
def refD1 (b a : List Ln) : List Ch := a.flatMap (refD0 b)
def insN (y : Ln) : List Ch → Nat
  | [] => 0
  | c :: t => if (chLn c).cmp y < 0 then insN y t + 1 else 0
def insC (out : List Ch) (y : Ln) : List Ch := out.take (insN y out) ++ ⟨1, Ln.zero, y⟩ :: out.drop (insN y out)
def refD2s (a : List Ln) (out : List Ch) (y : Ln) : List Ch := if (findL a y).isSome then out else insC out y
def refD2 (a : List Ln) (out : List Ch) (b : List Ln) : List Ch := b.foldl (refD2s a) out
def refDiffL (a b : List Ln) : List Ch := refD2 a (refD1 b a) b
theorem findL_some {l : List Ln} {x y : Ln} (h : findL l x = some y) : y ∈ l ∧ keyB y x = true := ⟨List.mem_of_find?_eq_some h, by have := List.find?_some h; exact this⟩
theorem findL_none {l : List Ln} {x : Ln} (h : findL l x = none) : ∀ y ∈ l, keyB y x = false := fun y hy => by
  have := List.find?_eq_none.1 h y hy
  simpa using this
def Ord2 (l : List Ch) : Prop := l.Pairwise fun c d => (chLn c).cmp (chLn d) < 0
theorem refD0_ln (b : List Ln) (x : Ln) (c : Ch) (h : c ∈ refD0 b x) : chLn c = x ∧ c.old = x := by
  unfold refD0 at h
  split at h
  · obtain rfl := List.mem_singleton.1 h; exact ⟨rfl, rfl⟩
  · split at h
    · cases h
    · obtain rfl := List.mem_singleton.1 h; exact ⟨rfl, rfl⟩
theorem refD0_pair (b : List Ln) (x : Ln) (R : Ch → Ch → Prop) : (refD0 b x).Pairwise R := by
  unfold refD0
  split
  · exact List.pairwise_singleton _ _
  · split
    · exact .nil
    · exact List.pairwise_singleton _ _
theorem refD1_ord (b a : List Ln) (sa : Srt a) : Ord2 (refD1 b a) := by
  unfold Ord2 refD1
  rw [List.pairwise_flatMap]
  exact ⟨fun x _ => refD0_pair b x _, sa.imp fun h c hc d hd => by rw [(refD0_ln _ _ _ hc).1, (refD0_ln _ _ _ hd).1]; exact h⟩
theorem refD1_ok (b a : List Ln) (sb : Srt b) (c : Ch) : c ∈ refD1 b a ↔ ChOk a b c ∧ c.kind ≠ 1 := by
  unfold refD1
  rw [List.mem_flatMap]
  constructor
  · rintro ⟨x, hx, hc⟩
    unfold refD0 at hc
    split at hc
    · rename_i hn
      obtain rfl := List.mem_singleton.1 hc
      exact ⟨.inr (.inl ⟨rfl, rfl, hx, findL_none hn⟩), by show (2 : Int) ≠ 1; decide⟩
    · rename_i y hy
      obtain ⟨y1, y2⟩ := findL_some hy
      split at hc
      · cases hc
      · rename_i hne
        obtain rfl := List.mem_singleton.1 hc
        refine ⟨.inr (.inr ⟨rfl, hx, y1, fun e => hne e.symm, ?_⟩), by show (3 : Int) ≠ 1; decide⟩
        have h3 := cmp_neg y x
        rw [keyB_cmp] at y2 ⊢
        have := beq_iff_eq.1 y2
        exact beq_iff_eq.2 (by show x.cmp y = 0; omega)
  · rintro ⟨h, hk⟩
    obtain ⟨k, o, w⟩ := c
    rcases h with ⟨rfl, _⟩ | ⟨rfl, rfl, ho, hy⟩ | ⟨rfl, ho, hn, hne, hkk⟩
    · exact absurd rfl hk
    · refine ⟨o, ho, ?_⟩
      unfold refD0
      cases hf : findL b o with
      | none => simp
      | some y =>
        exfalso
        obtain ⟨y1, y2⟩ := findL_some hf
        rw [hy y y1] at y2; cases y2
    · refine ⟨o, ho, ?_⟩
      unfold refD0
      have hkk0 : o.cmp w = 0 := by rw [keyB_cmp] at hkk; exact beq_iff_eq.1 hkk
      have hnk := cmp_neg o w
      cases hf : findL b o with
      | none =>
        exfalso
        have := findL_none hf w hn
        rw [keyB_cmp] at this
        exact beq_eq_false_iff_ne.1 this (by show w.cmp o = 0; omega)
      | some y =>
        obtain ⟨y1, y2⟩ := findL_some hf
        rw [keyB_cmp] at y2
        have y3 : y.cmp o = 0 := beq_iff_eq.1 y2
        have h3 : y = w := srt_key sb y1 hn (by
          have e3 := (cmp_le_trans (a := y) (b := o) (c := w) (by omega) (by omega)).1
          have e6 := cmp_neg y o
          have e4 := (cmp_le_trans (a := w) (b := o) (c := y) (by omega) (by omega)).1
          have e5 := cmp_neg y w
          omega)
        subst h3
        simp only
        rw [if_neg (fun e => hne e.symm)]; simp
theorem insC_ord (out : List Ch) (y : Ln) (h : Ord2 out) (hne : ∀ c ∈ out, (chLn c).cmp y ≠ 0) : Ord2 (insC out y) := by
  have hlo : ∀ out : List Ch, ∀ c ∈ out.take (insN y out), (chLn c).cmp y < 0 := by
    intro out
    induction out with
    | nil => intro c hc; simp at hc
    | cons d t ih =>
      intro c hc
      rw [insN] at hc
      split at hc
      · rename_i hd
        rw [List.take_succ_cons] at hc
        rcases List.mem_cons.1 hc with rfl | hc
        · exact hd
        · exact ih c hc
      · simp at hc
  have hhi : ∀ out : List Ch, Ord2 out → (∀ c ∈ out, (chLn c).cmp y ≠ 0) → ∀ c ∈ out.drop (insN y out), y.cmp (chLn c) < 0 := by
    intro out
    induction out with
    | nil => intro _ _ c hc; simp at hc
    | cons d t ih =>
      intro ho hne c hc
      obtain ⟨o1, o2⟩ := List.pairwise_cons.1 ho
      rw [insN] at hc
      split at hc
      · rw [List.drop_succ_cons] at hc
        exact ih o2 (fun c hc => hne c (by simp [hc])) c hc
      · rename_i hd
        have h1 := hne d (by simp)
        have h2 := cmp_neg (chLn d) y
        rw [List.drop_zero] at hc
        rcases List.mem_cons.1 hc with rfl | hc
        · omega
        · exact cmp_lt_trans (b := chLn d) (by omega) (o1 c hc)
  unfold insC Ord2
  have hs := h
  unfold Ord2 at hs
  rw [← List.take_append_drop (insN y out) out, List.pairwise_append] at hs
  obtain ⟨p1, p2, p3⟩ := hs
  rw [List.pairwise_append]
  refine ⟨p1, List.pairwise_cons.2 ⟨fun c hc => hhi out h hne c hc, p2⟩, fun c hc d hd => ?_⟩
  rcases List.mem_cons.1 hd with rfl | hd
  · exact hlo out c hc
  · exact p3 c hc d hd
theorem insC_mem (out : List Ch) (y : Ln) (c : Ch) : c ∈ insC out y ↔ c = ⟨1, Ln.zero, y⟩ ∨ c ∈ out := by
  unfold insC
  conv => rhs; rw [← List.take_append_drop (insN y out) out]
  simp only [List.mem_append, List.mem_cons]
  constructor
  · rintro (h | h | h)
    · exact .inr (.inl h)
    · exact .inl h
    · exact .inr (.inr h)
  · rintro (h | h | h)
    · exact .inr (.inl h)
    · exact .inl h
    · exact .inr (.inr h)
/-- The changes so far: those of the first dump's lines, and of the second dump's lines gone through. -/
theorem refD2_spec (a b : List Ln) (sa : Srt a) (sb : Srt b) : ∀ (t d : List Ln), b = d ++ t → ∀ out : List Ch, Ord2 out → (∀ c, c ∈ out ↔ ChOk a b c ∧ (c.kind = 1 → c.new ∈ d)) →
    Ord2 (refD2 a out t) ∧ ∀ c, c ∈ refD2 a out t ↔ ChOk a b c
  | [], d, hb, out, ho, hm => by
    refine ⟨ho, fun c => ?_⟩
    show c ∈ out ↔ _
    rw [hm c]
    refine ⟨fun h => h.1, fun h => ⟨h, fun hk => ?_⟩⟩
    rw [List.append_nil] at hb
    rcases h with ⟨_, _, hn, _⟩ | ⟨k, _⟩ | ⟨k, _⟩
    · rw [← hb]; exact hn
    · rw [hk] at k; exact absurd k (by decide)
    · rw [hk] at k; exact absurd k (by decide)
  | y :: t, d, hb, out, ho, hm => by
    have hyb : y ∈ b := by rw [hb]; simp
    have hyd : ∀ z ∈ d, z.cmp y < 0 := by
      have := sb; unfold Srt at this
      rw [hb, List.pairwise_append] at this
      exact fun z hz => this.2.2 z hz y (by simp)
    have hstep : Ord2 (refD2s a out y) ∧ ∀ c, c ∈ refD2s a out y ↔ ChOk a b c ∧ (c.kind = 1 → c.new ∈ d ++ [y]) := by
      unfold refD2s
      cases hf : findL a y with
      | some x =>
        obtain ⟨x1, x2⟩ := findL_some hf
        simp only [Option.isSome_some, if_true]
        refine ⟨ho, fun c => ?_⟩
        rw [hm c]
        refine ⟨fun h => ⟨h.1, fun k => by simp [h.2 k]⟩, fun h => ⟨h.1, fun k => ?_⟩⟩
        rcases List.mem_append.1 (h.2 k) with h2 | h2
        · exact h2
        · exfalso
          have e := List.mem_singleton.1 h2
          rcases h.1 with ⟨_, _, _, hx⟩ | ⟨k2, _⟩ | ⟨k2, _⟩
          · have := hx x x1
            rw [e, x2] at this; cases this
          · rw [k] at k2; exact absurd k2 (by decide)
          · rw [k] at k2; exact absurd k2 (by decide)
      | none =>
        have hn := findL_none hf
        simp only [Option.isSome_none, Bool.false_eq_true, if_false]
        have hne : ∀ c ∈ out, (chLn c).cmp y ≠ 0 := fun c hc => by
          obtain ⟨h1, h2⟩ := (hm c).1 hc
          unfold chLn
          rcases h1 with ⟨k, _, _, _⟩ | ⟨k, _, ho2, _⟩ | ⟨k, ho2, _⟩
          · rw [if_pos k]; have := hyd c.new (h2 k); omega
          · rw [if_neg (by rw [k]; decide)]; have := hn c.old ho2; rw [keyB_cmp] at this; exact beq_eq_false_iff_ne.1 this
          · rw [if_neg (by rw [k]; decide)]; have := hn c.old ho2; rw [keyB_cmp] at this; exact beq_eq_false_iff_ne.1 this
        refine ⟨insC_ord out y ho hne, fun c => ?_⟩
        rw [insC_mem, hm c]
        constructor
        · rintro (rfl | h)
          · exact ⟨.inl ⟨rfl, rfl, hyb, hn⟩, fun _ => by simp⟩
          · exact ⟨h.1, fun k => by simp [h.2 k]⟩
        · rintro ⟨h1, h2⟩
          by_cases hk : c.kind = 1
          · rcases List.mem_append.1 (h2 hk) with h3 | h3
            · exact .inr ⟨h1, fun _ => h3⟩
            · left
              have e := List.mem_singleton.1 h3
              rcases h1 with ⟨k, o, _, _⟩ | ⟨k, _⟩ | ⟨k, _⟩
              · obtain ⟨k0, o0, w0⟩ := c
                simp only at e k o; subst e k o; rfl
              · rw [hk] at k; exact absurd k (by decide)
              · rw [hk] at k; exact absurd k (by decide)
          · exact .inr ⟨h1, fun k => absurd k hk⟩
    exact refD2_spec a b sa sb t (d ++ [y]) (by rw [hb]; simp) _ hstep.1 hstep.2
/-- The reference's changes are the program's. -/
theorem refDiff_eq (a b : List Ln) (ha : orderedL a = true) (hb : orderedL b = true) : refDiffL a b = diffL a b := by
  have sa := srt_of_ordered a ha
  have sb := srt_of_ordered b hb
  obtain ⟨h1, h2⟩ := refD2_spec a b sa sb b [] rfl (refD1 b a) (refD1_ord b a sa) fun c => by
    rw [refD1_ok b a sb c]
    exact ⟨fun h => ⟨h.1, fun k => absurd k h.2⟩, fun h => ⟨h.1, fun k => by have := h.2 k; cases this⟩⟩
  refine strict_ext (fun x h => ?_) (fun x y h1 h2 => ?_) _ _ h1 (diffL_order a b sa sb) fun c => (h2 c).trans ⟨diffL_all a b sa sb c, diffL_ok a b sa sb c⟩
  · rw [cmp_self] at h; exact absurd h (by decide)
  · have := cmp_neg (chLn x) (chLn y); omega
/-- What a change must be, at what is left of the dump. -/
def apOk (rest : List Ln) (c : Ch) : Bool :=
  let there := match rest with | [] => false | x :: _ => keyB x (chLn c)
  let old := match rest with | [] => false | x :: _ => decide (c.old = x)
  !((c.kind == 1 && (there || !decide (c.old = Ln.zero))) || (decide (1 < c.kind) && (!there || !old)) || (c.kind == 2 && !decide (c.new = Ln.zero)) || (c.kind != 2 && !c.new.right) || (c.kind == 3 && (!keyB c.new c.old || decide (c.new = c.old))))
def kindB (prev : Option Ch) (c : Ch) : Bool := decide (c.kind < 1) || decide (3 < c.kind) || (match prev with | none => false | some d => decide (0 ≤ (chLn d).cmp (chLn c)))
/-- The state behind one change. -/
def apStep (out rest : List Ln) (c : Ch) : List Ln × List Ln :=
  let r := rest.dropWhile fun x => decide (x.cmp (chLn c) < 0)
  (out ++ rest.takeWhile (fun x => decide (x.cmp (chLn c) < 0)) ++ (if c.kind = 2 then [] else [c.new]), if 1 < c.kind then r.drop 1 else r)
def apFrom : Option Ch → List Ln → List Ln → List Ch → Option (List Ln)
  | _, out, rest, [] => some (out ++ rest)
  | prev, out, rest, c :: t =>
    if kindB prev c then none else
    if apOk (rest.dropWhile fun x => decide (x.cmp (chLn c) < 0)) c then apFrom (some c) (apStep out rest c).1 (apStep out rest c).2 t else none
def refApplyL (a : List Ln) (l : List Ch) : Option (List Ln) := if orderedL a then apFrom none [] a l else none
def prevLt (prev : Option Ch) (l : List Ln) : Prop := ∀ d, prev = some d → ∀ x ∈ l, (chLn d).cmp x < 0
theorem drop_lt (x : Ln) : ∀ l : List Ln, Srt l → (∀ y ∈ l.takeWhile (fun y => decide (y.cmp x < 0)), y.cmp x < 0) ∧ (∀ y ∈ l.dropWhile (fun y => decide (y.cmp x < 0)), 0 ≤ y.cmp x) := by
  intro l s
  induction l with
  | nil => exact ⟨fun y h => (by cases h), fun y h => (by cases h)⟩
  | cons z t ih =>
    obtain ⟨i1, i2⟩ := ih s.tail
    by_cases hz : z.cmp x < 0
    · rw [List.takeWhile_cons, List.dropWhile_cons, if_pos (by simpa using hz), if_pos (by simpa using hz)]
      refine ⟨fun y hy => ?_, i2⟩
      rcases List.mem_cons.1 hy with rfl | hy
      · exact hz
      · exact i1 y hy
    · rw [List.takeWhile_cons, List.dropWhile_cons, if_neg (by simpa using hz), if_neg (by simpa using hz)]
      refine ⟨fun y hy => (by cases hy), fun y hy => ?_⟩
      rcases List.mem_cons.1 hy with rfl | hy
      · omega
      · have h1 := s.head y hy
        rcases Int.lt_or_le (y.cmp x) 0 with h | h
        · exact absurd (cmp_lt_trans h1 h) (by omega)
        · exact h
theorem srt_take {l : List Ln} {p : Ln → Bool} (s : Srt l) : Srt (l.takeWhile p) := List.Pairwise.sublist (List.takeWhile_sublist p) s
theorem srt_drop {l : List Ln} {p : Ln → Bool} (s : Srt l) : Srt (l.dropWhile p) := List.Pairwise.sublist (List.dropWhile_sublist p) s
/-- What the reference applies are the changes that lead there. -/
theorem apFrom_some : ∀ (l : List Ch) (prev : Option Ch) (out rest b : List Ln), Srt rest → (∀ x ∈ rest, x.right = true) → prevLt prev rest → apFrom prev out rest l = some b →
    ∃ r, b = out ++ r ∧ Srt r ∧ (∀ x ∈ r, x.right = true) ∧ prevLt prev r ∧ diffL rest r = l
  | [], prev, out, rest, b, s, hr, hp, h => by
    rw [apFrom] at h
    cases h
    exact ⟨rest, rfl, s, hr, hp, diff_self _ rest⟩
  | c :: t, prev, out, rest, b, s, hr, hp, h => by
    rw [apFrom] at h
    split at h
    · cases h
    · rename_i hk
      split at h
      · rename_i hok
        obtain ⟨hlt, hge⟩ := drop_lt (chLn c) rest s
        have hsplit := List.takeWhile_append_dropWhile (p := fun x => decide (x.cmp (chLn c) < 0)) (l := rest)
        have s1 := srt_take (p := fun x => decide (x.cmp (chLn c) < 0)) s
        have s2 := srt_drop (p := fun x => decide (x.cmp (chLn c) < 0)) s
        unfold apStep at h
        simp only at h
        generalize hP : rest.takeWhile (fun x => decide (x.cmp (chLn c) < 0)) = P at *
        generalize hR : rest.dropWhile (fun x => decide (x.cmp (chLn c) < 0)) = R at *
        clear hP hR
        have hrP : ∀ x ∈ P, x.right = true := fun x hx => hr x (by rw [← hsplit]; simp [hx])
        have hrR : ∀ x ∈ R, x.right = true := fun x hx => hr x (by rw [← hsplit]; simp [hx])
        have hpc : ∀ d, prev = some d → (chLn d).cmp (chLn c) < 0 := fun d hd => by
          unfold kindB at hk
          rw [hd] at hk
          simp only [Bool.or_eq_true, decide_eq_true_eq, not_or] at hk
          omega
        have hk1 : 1 ≤ c.kind ∧ c.kind ≤ 3 := by
          unfold kindB at hk
          simp only [Bool.or_eq_true, decide_eq_true_eq, not_or] at hk
          omega
        have hpP : prevLt prev P := fun d hd x hx => hp d hd x (by rw [← hsplit]; simp [hx])
        have fin : ∀ (new r : List Ln), (∀ x ∈ new, x.cmp (chLn c) = 0 ∧ x.right = true) → Srt new → Srt r → (∀ x ∈ r, x.right = true) → (∀ x ∈ r, (chLn c).cmp x < 0) → diffL R (new ++ r) = c :: t → b = out ++ P ++ new ++ r →
            ∃ r, b = out ++ r ∧ Srt r ∧ (∀ x ∈ r, x.right = true) ∧ prevLt prev r ∧ diffL rest r = c :: t := by
          intro new r hn sn sr rr hcr hd hb
          refine ⟨P ++ (new ++ r), by rw [hb]; simp, ?_, ?_, ?_, ?_⟩
          · unfold Srt
            rw [List.pairwise_append, List.pairwise_append]
            refine ⟨s1, ⟨sn, sr, fun x hx y hy => cmp_le_lt (b := chLn c) (by have := (hn x hx).1; omega) (hcr y hy)⟩, fun x hx y hy => ?_⟩
            rcases List.mem_append.1 hy with hy | hy
            · exact cmp_lt_le (b := chLn c) (hlt x hx) (by have := (hn y hy).1; have := cmp_neg y (chLn c); omega)
            · exact cmp_lt_trans (hlt x hx) (hcr y hy)
          · intro x hx
            rcases List.mem_append.1 hx with hx | hx
            · exact hrP x hx
            · rcases List.mem_append.1 hx with hx | hx
              · exact (hn x hx).2
              · exact rr x hx
          · intro d hd x hx
            rcases List.mem_append.1 hx with hx | hx
            · exact hpP d hd x hx
            · rcases List.mem_append.1 hx with hx | hx
              · exact cmp_lt_le (b := chLn c) (hpc d hd) (by have := (hn x hx).1; have := cmp_neg x (chLn c); omega)
              · exact cmp_lt_trans (hpc d hd) (hcr x hx)
          · rw [← hsplit, diffL_pre]; exact hd
        unfold apOk at hok
        simp only [Bool.not_eq_true', Bool.or_eq_false_iff, Bool.and_eq_false_iff] at hok
        obtain ⟨⟨⟨⟨o1, o2⟩, o3⟩, o4⟩, o5⟩ := hok
        obtain ⟨kind, old, new⟩ := c
        simp only at *
        rcases (by omega : kind = 1 ∨ kind = 2 ∨ kind = 3) with rfl | rfl | rfl
        · -- a line that came
          rw [if_neg (by decide), if_neg (by decide)] at h
          have hnr : new.right = true := by simpa using o4
          have hcl : chLn ⟨1, old, new⟩ = new := rfl
          rw [hcl] at hge
          simp only [beq_self_eq_true, Bool.true_eq_false, false_or] at o1
          obtain ⟨o11, o12⟩ := o1
          have hold : old = Ln.zero := by simpa using o12
          have hgt : ∀ x ∈ R, new.cmp x < 0 := by
            cases R with
            | nil => intro x hx; cases hx
            | cons z R =>
              simp only at o11
              rw [hcl, keyB_cmp] at o11
              have h1 := beq_eq_false_iff_ne.1 o11
              have h2 := hge z (by simp)
              have h3 := cmp_neg z new
              intro x hx
              rcases List.mem_cons.1 hx with rfl | hx
              · omega
              · exact cmp_lt_trans (b := z) (by omega) (s2.head x hx)
          obtain ⟨r, e1, e2, e3, e4, e5⟩ := apFrom_some t _ _ R b s2 hrR (fun d hd x hx => by cases hd; exact hgt x hx) h
          refine fin [new] r (fun x hx => by obtain rfl := List.mem_singleton.1 hx; exact ⟨cmp_self _, hnr⟩) (List.pairwise_singleton _ _) e2 e3 (fun x hx => e4 _ rfl x hx) ?_ e1
          rw [List.singleton_append, diffL_new new R r hgt, e5, hold]
        · -- a line that went
          rw [if_pos rfl, if_pos (by decide)] at h
          have hnew : new = Ln.zero := by simpa using o3
          have hcl : chLn ⟨2, old, new⟩ = old := rfl
          cases R with
          | nil => simp at o2
          | cons z R =>
            have hz : old = z := by
              rcases o2 with o2 | o2
              · exact absurd o2 (by simp)
              · simpa using o2.2
            subst hz
            have hgt := s2.head
            obtain ⟨r, e1, e2, e3, e4, e5⟩ := apFrom_some t _ _ R b s2.tail (fun x hx => hrR x (by simp [hx])) (fun d hd x hx => by cases hd; exact hgt x hx) h
            refine fin [] r (fun x hx => by cases hx) .nil e2 e3 (fun x hx => e4 _ rfl x hx) ?_ e1
            rw [List.nil_append, diffL_old old R r (fun x hx => e4 _ rfl x hx), e5, hnew]
        · -- a line that changed
          rw [if_neg (by decide), if_pos (by decide)] at h
          have hnr : new.right = true := by simpa using o4
          have hcl : chLn ⟨3, old, new⟩ = old := rfl
          have h5 : keyB new old = true ∧ new ≠ old := by
            rcases o5 with o5 | o5
            · exact absurd o5 (by simp)
            · simpa using o5
          have hk0 : new.cmp old = 0 := by have := h5.1; rw [keyB_cmp] at this; exact beq_iff_eq.1 this
          cases R with
          | nil => simp at o2
          | cons z R =>
            have hz : old = z := by
              rcases o2 with o2 | o2
              · exact absurd o2 (by simp)
              · simpa using o2.2
            subst hz
            have hgt := s2.head
            obtain ⟨r, e1, e2, e3, e4, e5⟩ := apFrom_some t _ _ R b s2.tail (fun x hx => hrR x (by simp [hx])) (fun d hd x hx => by cases hd; exact hgt x hx) h
            refine fin [new] r (fun x hx => by obtain rfl := List.mem_singleton.1 hx; exact ⟨hk0, hnr⟩) (List.pairwise_singleton _ _) e2 e3 (fun x hx => e4 _ rfl x hx) ?_ e1
            rw [List.singleton_append, diffL_both old new R r (by have := cmp_neg new old; omega), if_neg (fun e => h5.2 e.symm), e5]; rfl
      · cases h
theorem apFrom_skip (prev : Option Ch) (out us : List Ln) (x : Ln) (l : List Ch) (h : ∀ c ∈ l, x.cmp (chLn c) < 0) : apFrom prev out (x :: us) l = apFrom prev (out ++ [x]) us l := by
  cases l with
  | nil => rw [apFrom, apFrom]; simp
  | cons c t =>
    have hx := h c (by simp)
    have t1 : (x :: us).takeWhile (fun y => decide (y.cmp (chLn c) < 0)) = x :: us.takeWhile (fun y => decide (y.cmp (chLn c) < 0)) := by rw [List.takeWhile_cons, if_pos (by simpa using hx)]
    have t2 : (x :: us).dropWhile (fun y => decide (y.cmp (chLn c) < 0)) = us.dropWhile (fun y => decide (y.cmp (chLn c) < 0)) := by rw [List.dropWhile_cons, if_pos (by simpa using hx)]
    rw [apFrom, apFrom]
    unfold apStep
    simp only [t1, t2]
    simp
theorem diffL_gt (x : Ln) (us vs : List Ln) (su : Srt us) (sv : Srt vs) (hu : ∀ y ∈ us, x.cmp y < 0) (hv : ∀ y ∈ vs, x.cmp y < 0) : ∀ c ∈ diffL us vs, x.cmp (chLn c) < 0 := fun c hc => by
  rcases diffL_ok us vs su sv c hc with ⟨k, _, h, _⟩ | ⟨k, _, h, _⟩ | ⟨k, h, _⟩
  · unfold chLn; rw [if_pos k]; exact hv _ h
  · unfold chLn; rw [if_neg (by rw [k]; decide)]; exact hu _ h
  · unfold chLn; rw [if_neg (by rw [k]; decide)]; exact hu _ h
theorem take_none (x : Ln) (l : List Ln) (h : ∀ y ∈ l, ¬ y.cmp x < 0) : l.takeWhile (fun y => decide (y.cmp x < 0)) = [] ∧ l.dropWhile (fun y => decide (y.cmp x < 0)) = l := by
  cases l with
  | nil => exact ⟨rfl, rfl⟩
  | cons z t =>
    have := h z (by simp)
    rw [List.takeWhile_cons, List.dropWhile_cons, if_neg (by simpa using this), if_neg (by simpa using this)]
    exact ⟨rfl, rfl⟩
theorem kind_ok (prev : Option Ch) (c : Ch) (h1 : 1 ≤ c.kind) (h3 : c.kind ≤ 3) (hp : ∀ d, prev = some d → (chLn d).cmp (chLn c) < 0) : kindB prev c = false := by
  unfold kindB
  have e1 : decide (c.kind < 1) = false := decide_eq_false (by omega)
  have e2 : decide (3 < c.kind) = false := decide_eq_false (by omega)
  rw [e1, e2]
  cases prev with
  | none => rfl
  | some d =>
    have := hp d rfl
    exact decide_eq_false (by omega)
/-- The changes between two dumps are applied by the reference, and lead there. -/
theorem apFrom_diff : ∀ (n : Nat) (us vs out : List Ln) (prev : Option Ch), us.length + vs.length ≤ n → Srt us → Srt vs → (∀ y ∈ vs, y.right = true) → prevLt prev us → prevLt prev vs → apFrom prev out us (diffL us vs) = some (out ++ vs)
  | n, [], [], out, prev, _, _, _, _, _, _ => by rw [diffL_nil2, apFrom]
  | 0, x :: us, vs, _, _, h, _, _, _, _, _ => by simp at h
  | 0, [], y :: vs, _, _, h, _, _, _, _, _ => by simp at h
  | n + 1, us, vs, out, prev, h, su, sv, hr, pu, pv => by
    have old : ∀ (x : Ln) (us' : List Ln), us = x :: us' → (∀ y ∈ vs, x.cmp y < 0) → apFrom prev out us (diffL us vs) = some (out ++ vs) := by
      rintro x us' rfl hx
      rw [diffL_old x us' vs hx, apFrom, kind_ok prev ⟨2, x, Ln.zero⟩ (by show (1 : Int) ≤ 2; decide) (by show (2 : Int) ≤ 3; decide) (fun d hd => pu d hd x (by simp)), if_neg (by simp)]
      have hcl : chLn ⟨2, x, Ln.zero⟩ = x := rfl
      obtain ⟨t1, t2⟩ := take_none x (x :: us') fun y hy => by
        rcases List.mem_cons.1 hy with rfl | hy
        · rw [cmp_self]; decide
        · have := su.head y hy; have := cmp_neg x y; omega
      unfold apStep
      simp only
      rw [hcl, t1, t2]
      have hok : apOk (x :: us') ⟨2, x, Ln.zero⟩ = true := by simp [apOk, hcl, keyB_self]
      rw [if_pos hok, if_pos trivial, if_pos (by decide)]
      have := apFrom_diff n us' vs (out ++ [] ++ []) (some ⟨2, x, Ln.zero⟩) (by simp at h; omega) su.tail sv hr (fun d hd y hy => by cases hd; exact su.head y hy) (fun d hd y hy => by cases hd; exact hx y hy)
      rw [List.append_nil, List.append_nil] at this
      rw [List.append_nil, List.append_nil]
      exact this
    have new : ∀ (y : Ln) (vs' : List Ln), vs = y :: vs' → (∀ x ∈ us, y.cmp x < 0) → apFrom prev out us (diffL us vs) = some (out ++ vs) := by
      rintro y vs' rfl hy
      rw [diffL_new y us vs' hy, apFrom, kind_ok prev ⟨1, Ln.zero, y⟩ (by show (1 : Int) ≤ 1; decide) (by show (1 : Int) ≤ 3; decide) (fun d hd => pv d hd y (by simp)), if_neg (by simp)]
      have hcl : chLn ⟨1, Ln.zero, y⟩ = y := rfl
      obtain ⟨t1, t2⟩ := take_none y us fun x hx => by
        have := hy x hx; have := cmp_neg y x; omega
      unfold apStep
      simp only
      rw [hcl, t1, t2]
      have hok : apOk us ⟨1, Ln.zero, y⟩ = true := by
        have hyr := hr y (by simp)
        cases us with
        | nil => simp [apOk, hyr]
        | cons x us' =>
          have h1 := hy x (by simp)
          have h2 := cmp_neg y x
          have hk : keyB x y = false := by rw [keyB_cmp]; exact beq_eq_false_iff_ne.2 (by omega)
          simp [apOk, hcl, hk, hyr]
      rw [if_pos hok, if_neg (by decide), if_neg (by decide)]
      have := apFrom_diff n us vs' (out ++ [] ++ [y]) (some ⟨1, Ln.zero, y⟩) (by simp at h; omega) su sv.tail (fun z hz => hr z (by simp [hz])) (fun d hd x hx => by cases hd; exact hy x hx) (fun d hd x hx => by cases hd; exact sv.head x hx)
      rw [this]; simp
    cases hu : us with
    | nil =>
      cases hv : vs with
      | nil => rw [diffL_nil2, apFrom]
      | cons y vs' => rw [← hu, ← hv]; exact new y vs' hv (fun x hx => by rw [hu] at hx; cases hx)
    | cons x us' =>
      cases hv : vs with
      | nil => rw [← hu, ← hv]; exact old x us' hu (fun y hy => by rw [hv] at hy; cases hy)
      | cons y vs' =>
        rw [← hu, ← hv]
        have su' := su; have sv' := sv
        rw [hu] at su'; rw [hv] at sv'
        have nb := cmp_neg x y
        by_cases h1 : x.cmp y < 0
        · refine old x us' hu fun z hz => ?_
          rw [hv] at hz
          rcases List.mem_cons.1 hz with rfl | hz
          · exact h1
          · exact cmp_lt_trans h1 (sv'.head z hz)
        · by_cases h2 : 0 < x.cmp y
          · refine new y vs' hv fun z hz => ?_
            rw [hu] at hz
            rcases List.mem_cons.1 hz with rfl | hz
            · omega
            · exact cmp_lt_trans (b := x) (by omega) (su'.head z hz)
          · have h0 : x.cmp y = 0 := by omega
            have hyu : ∀ z ∈ us', y.cmp z < 0 := fun z hz => cmp_le_lt (b := x) (by omega) (su'.head z hz)
            have hxv : ∀ z ∈ vs', x.cmp z < 0 := fun z hz => cmp_le_lt (b := y) (by omega) (sv'.head z hz)
            rw [hu, hv] at h
            by_cases hxy : x = y
            · subst hxy
              rw [hu, hv, diffL_same, apFrom_skip prev out us' x _ (diffL_gt x us' vs' su'.tail sv'.tail su'.head sv'.head)]
              have := apFrom_diff n us' vs' (out ++ [x]) prev (by simp at h; omega) su'.tail sv'.tail (fun z hz => hr z (by rw [hv]; simp [hz])) (fun d hd z hz => pu d hd z (by rw [hu]; simp [hz])) (fun d hd z hz => pv d hd z (by rw [hv]; simp [hz]))
              rw [this]; simp
            · rw [hu, hv, diffL_both x y us' vs' h0, if_neg hxy, List.singleton_append, apFrom, kind_ok prev ⟨3, x, y⟩ (by show (1 : Int) ≤ 3; decide) (by show (3 : Int) ≤ 3; decide) (fun d hd => pu d hd x (by rw [hu]; simp)), if_neg (by simp)]
              have hcl : chLn ⟨3, x, y⟩ = x := rfl
              obtain ⟨t1, t2⟩ := take_none x (x :: us') fun z hz => by
                rcases List.mem_cons.1 hz with rfl | hz
                · rw [cmp_self]; decide
                · have := su'.head z hz; have := cmp_neg x z; omega
              unfold apStep
              simp only
              rw [hcl, t1, t2]
              have hyr := hr y (by rw [hv]; simp)
              have hk : keyB y x = true := by rw [keyB_cmp]; exact beq_iff_eq.2 (by omega)
              have hyx : ¬ y = x := fun e => hxy e.symm
              have hok : apOk (x :: us') ⟨3, x, y⟩ = true := by simp [apOk, hcl, keyB_self, hyr, hk, hyx]
              rw [if_pos hok, if_neg (by decide), if_pos (by decide)]
              have := apFrom_diff n us' vs' (out ++ [] ++ [y]) (some ⟨3, x, y⟩) (by simp at h; omega) su'.tail sv'.tail (fun z hz => hr z (by rw [hv]; simp [hz])) (fun d hd z hz => by cases hd; exact su'.head z hz) (fun d hd z hz => by cases hd; exact hxv z hz)
              show apFrom _ _ us' _ = _
              rw [this]; simp
/-- The reference applies what the program applies. -/
theorem refApply_eq (a L : List Ln) (l : List Ch) (hp : (foldA a l).Perm L) (hs : L.Pairwise fun x y => x.cmp y ≤ 0) : refApplyL a l = if applyB a l L then some L else none := by
  unfold refApplyL
  cases ho : orderedL a with
  | false => rw [apply_unordered a L l ho]; rfl
  | true =>
    rw [if_pos rfl]
    have sa := srt_of_ordered a ho
    cases hb : applyB a l L with
    | true =>
      rw [if_pos rfl]
      unfold applyB at hb
      simp only [Bool.and_eq_true, beq_iff_eq] at hb
      obtain ⟨⟨_, hL⟩, hd⟩ := hb
      have := apFrom_diff _ a L [] none (Nat.le_refl _) sa (srt_of_ordered L hL) (fun y hy => ordered_right hL hy) (fun d hd => by cases hd) (fun d hd => by cases hd)
      rw [hd, List.nil_append] at this
      exact this
    | false =>
      rw [if_neg (by simp)]
      cases hr : apFrom none [] a l with
      | none => rfl
      | some b =>
        exfalso
        obtain ⟨r, e1, e2, e3, _, e5⟩ := apFrom_some l none [] a b sa (fun x hx => ordered_right ho hx) (fun d hd => by cases hd) hr
        have hor := ordered_of_srt r e2 e3
        rw [← e5] at hp hb
        have := (apply_diff a r L ho hor hp hs).2
        rw [this] at hb; cases hb
end Go.Ab
namespace Go.Ab
open Go.RowKit Go.Proofs.YtlbbepgfjigjpaaGreatDoor
def Ln.kcells (x : Ln) : List Value := [.int .u8 x.pr, .int .u32 x.s, .int .u32 x.d, .int .u16 x.sp, .int .u16 x.dp]
theorem kcells_at (x : Ln) (j : Nat) (u : Value) (h : x.kcells[j]? = some u) : x.cells[j]? = some u := by
  have hj : j < 5 := (List.getElem?_eq_some_iff.1 h).1
  rcases (by omega : j = 0 ∨ j = 1 ∨ j = 2 ∨ j = 3 ∨ j = 4) with rfl | rfl | rfl | rfl | rfl <;> exact h
theorem range_key {w : World} {b f : Nat} {x : Ln} (h : w.rangeAt b f x.cells) : w.rangeAt b f x.kcells := fun j u hj => h j u (kcells_at x j u hj)
theorem kcells_one (x : Ln) : x.kcells.toArray.all (·.oneCell') = true := Array.all_eq_true_iff_forall_mem.2 (fun u hu => x.one u (by
  obtain ⟨j, hj⟩ := List.getElem?_of_mem (show u ∈ x.kcells by simpa using hu)
  exact List.mem_of_getElem? (kcells_at x j u hj)))
theorem range_heap {w : World} {b : Nat} {cs : List Value} {t : TypeId} {fr : Nat × Nat} (h : w.heap[b]? = some (.cells cs.toArray t fr)) : w.rangeAt b 0 cs := fun j u hj => by
  rw [Nat.zero_add, cell_of_row w b j _ _ _ h]; simpa using hj
theorem findL_step {l : List Ln} {x y : Ln} (k : Nat) (h : l[k]? = some y) : findL (l.drop k) x = if keyB y x then some y else findL (l.drop (k + 1)) x := by
  rw [drop_head l k y h]
  unfold findL
  rw [List.find?_cons]
  split <;> simp_all
theorem ch_old {w : World} {b f : Nat} {c : Ch} (h : w.rangeAt b f c.cells) : w.rangeAt b (f + 1) c.old.cells := fun j u hj => by
  have hj2 : j < 11 := by have := (List.getElem?_eq_some_iff.1 hj).1; rw [c.old.cells_length] at this; exact this
  have := h (1 + j) u (by
    rcases (by omega : j = 0 ∨ j = 1 ∨ j = 2 ∨ j = 3 ∨ j = 4 ∨ j = 5 ∨ j = 6 ∨ j = 7 ∨ j = 8 ∨ j = 9 ∨ j = 10) with rfl | rfl | rfl | rfl | rfl | rfl | rfl | rfl | rfl | rfl | rfl <;> exact hj)
  rwa [← Nat.add_assoc] at this
theorem ch_new {w : World} {b f : Nat} {c : Ch} (h : w.rangeAt b f c.cells) : w.rangeAt b (f + 12) c.new.cells := fun j u hj => by
  have hj2 : j < 11 := by have := (List.getElem?_eq_some_iff.1 hj).1; rw [c.new.cells_length] at this; exact this
  have := h (12 + j) u (by
    rcases (by omega : j = 0 ∨ j = 1 ∨ j = 2 ∨ j = 3 ∨ j = 4 ∨ j = 5 ∨ j = 6 ∨ j = 7 ∨ j = 8 ∨ j = 9 ∨ j = 10) with rfl | rfl | rfl | rfl | rfl | rfl | rfl | rfl | rfl | rfl | rfl <;> exact hj)
  rwa [← Nat.add_assoc] at this
end Go.Ab
namespace Go.Proofs.YtlbbepgfjigjpaaGreatDoor
open Go.RowKit Go.Ab
attribute [local go_sem high] eq_key
theorem keySize : (Tryz.prog.info? 29).map (·.size) = some 5 := by kernel_rfl
set_option maxHeartbeats 16000000 in
set_option maxRecDepth 100000 in
theorem rfind_any (l : List Ln) (x : Ln) (v : Value) (w : World) (hv : LnRow w v l) (hl : l.length ≤ 1000000) :
    Gives Tryz.prog 59 #[v, .agg x.kcells.toArray] w (.tuple #[.agg ((findL l x).getD Ln.zero).cells.toArray, .bool (findL l x).isSome]) := by
  obtain ⟨p, cap, rfl, hle, hc⟩ := hv
  obtain ⟨N, hN⟩ : ∃ N, l.length = N := ⟨_, rfl⟩
  rw [hN] at hle hl ⊢
  have HN := Lib.hid hN
  have Hc := Lib.hid hc
  obtain ⟨F, hF⟩ : ∃ F, findL l x = F := ⟨_, rfl⟩
  rw [hF]
  have HF0 := Lib.hid hF
  clear hN hc hF
  unfold Gives
  go_enter Tryz.func59, Tryz.ntmps59
  go_upto_region 1 with fail
  obtain ⟨B, hB⟩ : ∃ B, w.heap.size = B := ⟨_, rfl⟩
  rw [hB]
  refine wp_letter (fun W => UpI w W ∧ W.rangeAt B 0 x.kcells ∧ W.heap[B + 1]? = some (.cells Ln.zero.cells.toArray 60 (0, 0))) ⟨inferInstance, range_heap ((Below.heap_alloc _ _ _ (by rw [World.size_alloc]; omega)).trans (alloc_new hB)), alloc_new (by rw [World.size_alloc, hB])⟩ ?_
  rintro W ⟨uW, hK, hR⟩
  haveI := uW
  have hwB : w.heap.size ≤ B + 1 := by omega
  clear hB
  go_wp2_with fail
  go_loopw [6] (fun i wr => ∃ k : Nat, k ≤ N ∧ i = .int .i64 (k : Int) ∧ Hid (findL (l.drop k) x = F) ∧ Up W wr) (fun i _ => N - (intOf i).toNat)
  case atStart => exact ⟨0, Nat.zero_le _, rfl, Lib.hid (by rw [List.drop_zero]; exact HF0.out), Up.refl _⟩
  case round =>
    obtain ⟨k, hk, rfl, Hk, hu⟩ := hrel
    haveI : UpI W wr := ⟨hu⟩
    haveI : UpI w wr := ⟨uW.up.trans hu⟩
    have hKr : wr.rangeAt B 0 x.kcells := fun j u hj => hu.cell_some' (hK j u hj)
    have hRr : wr.heap[B + 1]? = some (.cells Ln.zero.cells.toArray 60 (0, 0)) := (hu.block (B + 1) (lt_of_heap hR)).trans hR
    by_cases hlt : k < N
    · have hlt' : (k : Int) < (N : Int) := by omega
      have k0 : (0 : Int) ≤ (k : Int) := by omega
      obtain ⟨y, hs⟩ : ∃ y, l[k]? = some y := ⟨_, List.getElem?_eq_getElem (by rw [HN.out]; exact hlt)⟩
      obtain ⟨b1, o1, rfl, hb1, hc1⟩ := Hc.out k y hs
      have hY : wr.rangeAt b1 (o1 + k * 11) y.cells := fun j u hj => (uW.up.trans hu).cell_some (hc1 j u hj)
      have hYk := range_key hY
      have hd := findL_step (x := x) k hs
      rw [Hk.out] at hd
      have HD := Lib.hid hd
      clear hc1 hs hd
      go_upto_region 4 with fail
      cases hE : keyB y x
      · have HF := Lib.hid (show findL (l.drop (k + 1)) x = F by rw [HD.out, hE]; rfl)
        unfold keyB at hE
        refine wp_region_ext (by kernel_rfl) (by kernel_rfl) ?_
        repeat (first
          | (refine wpQuiet_load_mid (by kernel_rfl) 29 _ rfl b1 (o1 + k * 11) rfl [.int .u8 y.pr, .int .u32 y.s, .int .u32 y.d, .int .u16 y.sp, .int .u16 y.dp] _ (range_ext hYk) Tryz.underlying29 rfl keySize ?_; simp only [Act.put, List.setIfInBounds_toArray, List.set_cons_succ, List.set_cons_zero])
          | (refine wpQuiet_load_mid (by kernel_rfl) 29 _ rfl B 0 rfl [.int .u8 x.pr, .int .u32 x.s, .int .u32 x.d, .int .u16 x.sp, .int .u16 x.dp] _ (range_ext hKr) Tryz.underlying29 rfl keySize ?_; simp only [Act.put, List.setIfInBounds_toArray, List.set_cons_succ, List.set_cons_zero])
          | go_big_quiet_step (fail))
        refine wpQuiet_nil ?_
        rintro _ ⟨z2, rfl⟩
        go_wp2_with fail
        go_roundw
        case rel => exact ⟨k + 1, by omega, by go_num, HF, upI⟩
        case measure => simp [intOf]; omega
      · have HF := Lib.hid (show F = some y by rw [HD.out, hE]; rfl)
        unfold keyB at hE
        refine wp_region_ext (by kernel_rfl) (by kernel_rfl) ?_
        repeat (first
          | (refine wpQuiet_load_mid (by kernel_rfl) 29 _ rfl b1 (o1 + k * 11) rfl [.int .u8 y.pr, .int .u32 y.s, .int .u32 y.d, .int .u16 y.sp, .int .u16 y.dp] _ (range_ext hYk) Tryz.underlying29 rfl keySize ?_; simp only [Act.put, List.setIfInBounds_toArray, List.set_cons_succ, List.set_cons_zero])
          | (refine wpQuiet_load_mid (by kernel_rfl) 29 _ rfl B 0 rfl [.int .u8 x.pr, .int .u32 x.s, .int .u32 x.d, .int .u16 x.sp, .int .u16 x.dp] _ (range_ext hKr) Tryz.underlying29 rfl keySize ?_; simp only [Act.put, List.setIfInBounds_toArray, List.set_cons_succ, List.set_cons_zero])
          | go_big_quiet_step (fail))
        refine wpQuiet_nil ?_
        rintro _ ⟨z2, rfl⟩
        have hY2 : z2.w.rangeAt b1 (o1 + k * 11) y.cells := range_ext hY _ ⟨z2, rfl⟩
        have hR2 : z2.w.heap[B + 1]? = some (.cells Ln.zero.cells.toArray 60 (0, 0)) := (z2.up.block (B + 1) (lt_of_heap hRr)).trans hRr
        have hR3 := setRow_heap z2.w (B + 1) _ y.cells.toArray _ _ hR2
        go_wp2_with (first
          | (refine wpList_load_mid rfl 60 _ rfl b1 (o1 + k * 11) rfl y.cells _ hY2 Tryz.underlying60 rfl rlnSize ?_)
          | (refine wpList_store_row rfl 60 _ _ rfl (B + 1) y.cells.toArray rfl rfl 60 Ln.zero.cells.toArray hR2 rlnSize rfl (ln_all y) ?_))
        refine bodyPost_ret (v := .tuple #[.agg y.cells.toArray, .bool true]) (by simp [results, Tryz.results59, asAddr, run_loadVar_row _ (B + 1) 60 60 y.cells.toArray (0, 0) _ hR3 Tryz.underlying60 rfl rlnSize]) rfl ?_
        exact ⟨by rw [HF.out]; rfl, (up_setRowS (upI : Up w z2.w) hwB _).mk⟩
    · obtain rfl : k = N := by omega
      have HF := Lib.hid (show F = none by rw [← Hk.out, List.drop_of_length_le (by rw [HN.out]; exact Nat.le_refl _)]; rfl)
      have hR3 := setRow_heap wr (B + 1) _ Ln.zero.cells.toArray _ _ hRr
      go_wp2_with (first
        | (refine wpList_buildRun rfl 60 _ rfl #[] (by kernel_rfl) _ _ (build_rzero _) ?_)
        | (refine wpList_store_row rfl 60 _ _ rfl (B + 1) Ln.zero.cells.toArray rfl rfl 60 Ln.zero.cells.toArray hRr rlnSize rfl (ln_all Ln.zero) ?_))
      refine bodyPost_ret (v := .tuple #[.agg Ln.zero.cells.toArray, .bool false]) (by simp [results, Tryz.results59, asAddr, run_loadVar_row _ (B + 1) 60 60 Ln.zero.cells.toArray (0, 0) _ hR3 Tryz.underlying60 rfl rlnSize]) rfl ?_
      exact ⟨by rw [HF.out]; rfl, (up_setRowS (upI : Up w wr) hwB _).mk⟩
theorem rchSize : (Tryz.prog.info? 89).map (·.size) = some 23 := by kernel_rfl
set_option maxHeartbeats 16000000 in
set_option maxRecDepth 100000 in
theorem rkey_any (c : Ch) (w : World) :
    Gives Tryz.prog 60 #[.agg c.cells.toArray] w (.agg (chLn c).kcells.toArray) := by
  obtain ⟨F, hF⟩ : ∃ F, chLn c = F := ⟨_, rfl⟩
  rw [hF]
  have HF0 := Lib.hid hF
  clear hF
  unfold Gives
  go_enter Tryz.func60, Tryz.ntmps60
  go_upto_region 1 with fail
  obtain ⟨B, hB⟩ : ∃ B, w.heap.size = B := ⟨_, rfl⟩
  rw [hB]
  refine wp_letter (fun W => UpI w W ∧ W.rangeAt B 0 c.cells ∧ W.heap[B + 1]? = some (.cells Ln.zero.kcells.toArray 29 (0, 0))) ⟨inferInstance, range_heap ((Below.heap_alloc _ _ _ (by rw [World.size_alloc]; omega)).trans (alloc_new hB)), alloc_new (by rw [World.size_alloc, hB])⟩ ?_
  rintro W ⟨uW, hK, hR⟩
  haveI := uW
  have hwB : w.heap.size ≤ B + 1 := by omega
  have c0 : W.cell? ⟨B, 0, none⟩ = some (.int .u8 c.kind) := hK 0 _ rfl
  haveI : LtSize B W := ⟨cell_lt c0⟩
  have ho := range_key (ch_old hK)
  have hn := range_key (ch_new hK)
  rw [Nat.zero_add] at ho hn
  clear hB hK
  by_cases h1 : c.kind = 1
  · have HF := Lib.hid (show F = c.new by rw [← HF0.out]; unfold chLn; rw [if_pos h1])
    have hR3 := setRow_heap W (B + 1) _ c.new.kcells.toArray _ _ hR
    go_wp2_with (first
      | (refine wpList_load_mid rfl 29 _ rfl B 12 rfl c.new.kcells _ hn Tryz.underlying29 rfl keySize ?_)
      | (refine wpList_store_row rfl 29 _ _ rfl (B + 1) c.new.kcells.toArray rfl rfl 29 Ln.zero.kcells.toArray hR keySize rfl (kcells_one c.new) ?_))
    refine bodyPost_ret (v := .agg c.new.kcells.toArray) (by simp [results, Act.put, Tryz.results60, asAddr, run_loadVar_row _ (B + 1) 29 29 c.new.kcells.toArray (0, 0) _ hR3 Tryz.underlying29 rfl keySize]) rfl ?_
    exact ⟨by rw [HF.out], (up_setRowS (upI : Up w W) hwB _).mk⟩
  · have HF := Lib.hid (show F = c.old by rw [← HF0.out]; unfold chLn; rw [if_neg h1])
    have hR3 := setRow_heap W (B + 1) _ c.old.kcells.toArray _ _ hR
    go_wp2_with (first
      | (refine wpList_load_mid rfl 29 _ rfl B 1 rfl c.old.kcells _ ho Tryz.underlying29 rfl keySize ?_)
      | (refine wpList_store_row rfl 29 _ _ rfl (B + 1) c.old.kcells.toArray rfl rfl 29 Ln.zero.kcells.toArray hR keySize rfl (kcells_one c.old) ?_))
    refine bodyPost_ret (v := .agg c.old.kcells.toArray) (by simp [results, Act.put, Tryz.results60, asAddr, run_loadVar_row _ (B + 1) 29 29 c.old.kcells.toArray (0, 0) _ hR3 Tryz.underlying29 rfl keySize]) rfl ?_
    exact ⟨by rw [HF.out], (up_setRowS (upI : Up w W) hwB _).mk⟩
end Go.Proofs.YtlbbepgfjigjpaaGreatDoor
namespace Go.Ab
open Go.RowKit Go.Proofs.YtlbbepgfjigjpaaGreatDoor
theorem refD1_snoc (b a : List Ln) (k : Nat) (x : Ln) (h : a[k]? = some x) : refD1 b (a.take (k + 1)) = refD1 b (a.take k) ++ refD0 b x := by
  unfold refD1; rw [take_snoc3 a k x h, List.flatMap_append]; simp
theorem refD2_snoc (a : List Ln) (out : List Ch) (b : List Ln) (k : Nat) (y : Ln) (h : b[k]? = some y) : refD2 a out (b.take (k + 1)) = refD2s a (refD2 a out (b.take k)) y := by
  unfold refD2; rw [take_snoc3 b k y h, List.foldl_append]; rfl
theorem insN_le (y : Ln) : ∀ M : List Ch, insN y M ≤ M.length
  | [] => Nat.le_refl _
  | c :: t => by
    unfold insN
    split
    · have := insN_le y t; simp only [List.length_cons]; omega
    · exact Nat.zero_le _
theorem insN_step (y : Ln) : ∀ (M : List Ch) (j : Nat) (c : Ch), M[j]? = some c → j ≤ insN y M → ((chLn c).cmp y < 0 → j + 1 ≤ insN y M) ∧ (¬ (chLn c).cmp y < 0 → insN y M = j)
  | [], j, c, h, _ => by simp at h
  | d :: t, 0, c, h, _ => by
    obtain rfl : d = c := by simpa using h
    constructor
    · intro hc; unfold insN; rw [if_pos hc]; omega
    · intro hc; unfold insN; rw [if_neg hc]
  | d :: t, j + 1, c, h, hj => by
    have h' : t[j]? = some c := by simpa using h
    unfold insN at hj ⊢
    split at hj
    · rename_i hd
      rw [if_pos hd]
      have h1 := insN_step y t j c h' (by omega)
      exact ⟨fun hc => by have := h1.1 hc; omega, fun hc => by have := h1.2 hc; omega⟩
    · omega
theorem insC_len (out : List Ch) (y : Ln) : (insC out y).length = out.length + 1 := by
  unfold insC
  have := insN_le y out
  rw [List.length_append, List.length_cons, List.length_take, List.length_drop]; omega
theorem own_cellK {w : World} {base sz : Nat} {e : TypeId} {g n cap : Nat} {xs : List Value} (h : w.ownsRow base e sz (.slice (some ⟨g, 0, none⟩) n cap) n xs) (t : Nat) (u : Value) (hu : xs[t]? = some u) : w.cell? ⟨g, t, none⟩ = some u := by
  obtain ⟨hl, ⟨h0, _⟩ | ⟨g', cap', cur, hv, _, hg, _, _, _, h4⟩⟩ := h
  · cases h0
  · simp only [Value.slice.injEq, Option.some.injEq, Addr.mk.injEq, and_true] at hv
    obtain ⟨rfl, _, rfl⟩ := hv
    rw [cell_of_row w g t _ _ _ hg, ← Array.getElem?_toList]
    rw [← h4, List.getElem?_take] at hu
    split at hu
    · exact hu
    · cases hu
theorem step_build {P : Program} {ops : Array Oper} {o : Oper} {a : Act} {w : World} {K : Act → World → Prop} {Q : Exit → Act → World → Prop} {E : Prop} (hw : Region.wanted o (yielded ops a.tmps) = true) (t : TypeId) (parts : Array (Nat × Operand)) (ho : o.op = .build t parts) (ps : Array (Nat × Value)) (hp : (parts.map fun (i, x) => (i, a.eval x)) = ps) (v : Value) (w' : World)
    (hr : (Instr.build t ps).run P w = .ok v w') (h : K (a.put o.dst v) w') : if Region.wanted o (yielded ops a.tmps) = true then o.wp P a w K Q else E := by
  rw [if_pos hw]
  exact wp_buildRun t parts ho ps hp v w' hr h
structure InsLen (j m : Nat) : Prop where
  p1 : 0 + j ≤ maxLen
  p2 : (0 + j) * 88 ≤ 140737488355328
  p3 : 0 + j + 1 ≤ maxLen
  p4 : (0 + j + 1) * 88 ≤ 140737488355328
  p5 : 0 + j + 1 + (m - j) ≤ maxLen
  p6 : (0 + j + 1 + (m - j)) * 88 ≤ 140737488355328
theorem ins_len (j m q NB : Nat) (h1 : j ≤ m) (h2 : m ≤ 1000 + q) (h3 : q < NB) (h4 : NB ≤ 1000) : InsLen j m := ⟨by unfold maxLen; omega, by omega, by unfold maxLen; omega, by omega, by unfold maxLen; omega, by omega⟩
theorem yields_build {P : Program} {o : Oper} {a : Act} (t : TypeId) (parts : Array (Nat × Operand)) (ho : o.op = .build t parts) (ps : Array (Nat × Value)) (hp : (parts.map fun (i, x) => (i, a.eval x)) = ps) (v : Value)
    (hr : ∀ w, (Instr.build t ps).run P w = .ok v w) : ∀ w, (execOp a.eval o).run P w = .ok (.value v) w := fun w => by
  subst hp
  unfold execOp
  simp only [ho, Sem.run_bind, hr, Result.andThen_ok]
  rfl
theorem row_chn {w : World} {n : Nat} {x : Ch} {t : TypeId} (h : w.heap[n]? = some (.cells x.cells.toArray t (0, 0))) (j : Nat) (u : Value) (hu : x.cells[j]? = some u) : w.cell? (Addr.add ⟨n, 0, none⟩ j) = some u := by
  rw [add_zero_off, cell_of_row w n j _ _ _ h]; simpa using hu
theorem owns_sliceK {w : World} {base sz : Nat} {e : TypeId} {v : Value} {n : Nat} {xs : List Value} (h : w.ownsRow base e sz v (n + 1) xs) : ∃ g c, v = .slice (some ⟨g, 0, none⟩) (n + 1) c ∧ base ≤ g := by
  obtain ⟨_, ⟨_, h0⟩ | ⟨g, cap, cur, rfl, hg, _⟩⟩ := h
  · omega
  · exact ⟨g, cap, rfl, hg⟩
theorem chflat_one (L : List Ch) (u : Value) (h : u ∈ L.flatMap Ch.cells) : u.oneCell' = true := by
  obtain ⟨c, _, hc⟩ := List.mem_flatMap.1 h
  exact chg_one c u hc
end Go.Ab
namespace Go.Proofs.YtlbbepgfjigjpaaGreatDoor
open Go.RowKit Go.Ab
theorem infoRCh : (Tryz.prog.info? 89).map (fun i => (i.zero, i.size, i.bytes)) = some (some (Ch.mk 0 Ln.zero Ln.zero).val, 23, 88) := by kernel_rfl
theorem build_rch (k : Int) (x y : Ln) (w : World) : (Instr.build 89 #[(0, .int .u8 k), (1, .agg x.cells.toArray), (2, .agg y.cells.toArray)]).run Tryz.prog w = .ok (.agg (Ch.mk k x y).cells.toArray) w := by kernel_rfl
theorem slice_rch (c : Ch) (w : World) : (Instr.buildSlice 86 1 #[(0, .agg c.cells.toArray)]).run Tryz.prog w = .ok (.slice (some ⟨w.heap.size, 0, none⟩) 1 1) (w.alloc (.cells c.cells.toArray 89)) := by kernel_rfl
theorem ch_at (X : World) (c : Ch) (t : TypeId) (j : Nat) (u : Value) (hu : c.cells[j]? = some u) : (X.alloc (.cells c.cells.toArray t)).cell? (Addr.add ⟨X.heap.size, 0, none⟩ j) = some u := by
  rw [add_zero_off, World.cell?_alloc_at _ _ _ _ rfl]; simpa using hu
end Go.Proofs.YtlbbepgfjigjpaaGreatDoor
namespace Go.Proofs.YtlbbepgfjigjpaaGreatDoor
open Go.RowKit Go.Ab
theorem refT_eq (l : Ln) (b : LnB l) (h : l.right = true) (c : Nat) (hc : l.cl = (c : Int)) : l.text = (((((keyTextL l.pr l.s l.d l.sp l.dp ++ (if l.sd = 0 then inR else outR)) ++ clsOf (c : Int)) ++ (if l.rp then repR else [])) ++ (if l.ss then assR else [])) ++ deadR ++ dec l.dl ++ seenR) ++ dec l.sn := by
  rw [text_flat l b h, hc]
  have hsd : (32 :: sideW l.sd ++ [32]) = if l.sd = 0 then inR else outR := by
    unfold sideW
    split <;> rfl
  rw [← hsd]
  simp
set_option maxHeartbeats 16000000 in
set_option maxRecDepth 100000 in
theorem rtext38_any (l : Ln) (w : World) (b : LnB l) (h : l.right = true) : Gives Tryz.prog 20 #[l.val] w (.string ⟨l.text.toArray⟩) := by
  obtain ⟨h1, h2, h3, h4, h5⟩ := lnRight_parts h
  obtain ⟨c, hc⟩ : ∃ c : Nat, l.cl = (c : Int) := ⟨l.cl.toNat, by have := b.cl0; omega⟩
  have hT := refT_eq l b h c hc
  have hk := fun W => refKeyText_any l.pr l.s l.d l.sp l.dp W b.key
  have hd1 := fun W => refDecimal_any l.dl W h4 b.dl1
  have hd2 := fun W => refDecimal_any l.sn W h5 b.sn1
  have hn := fun W n h => rnames_any W c (by omega) n h
  have c9 : (c : Int) < 9 := by omega
  have c0 : (0 : Int) ≤ (c : Int) := by omega
  have s0 := b.sd0
  have lK := keyT_len l.pr l.s l.d l.sp l.dp b.key.r0 b.key.r1 b.key.sp0 b.key.sp1 b.key.dp0 b.key.dp1
  have lD := dec_length l.dl (by omega) b.dl1
  have lS := dec_length l.sn (by omega) b.sn1
  have lC := cls_length (c : Int)
  have HT := Lib.hid hT
  clear hT b h h2 h3 h4 h5
  obtain ⟨pr, s, d, sp, dp, sd, cl, rp, ss, dl, sn⟩ := l
  simp only at hk hd1 hd2 hc HT s0 h1 lK lD lS
  subst hc
  generalize keyTextL pr s d sp dp = K at *
  generalize dec dl = D at *
  generalize dec sn = S at *
  generalize clsOf (c : Int) = C at *
  unfold Gives Ln.val
  rcases (by omega : sd = 0 ∨ sd = 1) with rfl | rfl <;> cases rp <;> cases ss
  all_goals
    go_enter Tryz.func20, Tryz.ntmps20
    go_upto_region 5 with (go_at_call 53; refine (hk _).mono ?_; rintro e w' ⟨rfl, xk, rfl⟩)
    go_region_with (go_at_call 51; refine (hn _ _ inferInstance).mono ?_; rintro e w' ⟨rfl, xn, hcn, hlt, rfl⟩)
    all_goals
      go_upto_region 10 with fail
      (refine wp_region_ext (by kernel_rfl) (by kernel_rfl) ?_; (repeat (go_big_quiet_step ((go_at_call 54; first | (with_reducible exact (hd1 _).ext) | (with_reducible exact (hd2 _).ext))))); refine wpQuiet_nil ?_; rintro _ ⟨y, rfl⟩)
      go_wp2_with fail
      go_ret
      refine ⟨?_, mkI⟩
      rw [HT.out]
      show Ending.returned (Value.string _) = Ending.returned (Value.string _)
      congr 2 <;> simp [ba_app, inR, outR, repR, assR, deadR, seenR]
end Go.Proofs.YtlbbepgfjigjpaaGreatDoor
namespace Go.Ab
open Go.RowKit Go.Proofs.YtlbbepgfjigjpaaGreatDoor
theorem add_offC (b o j : Nat) : Addr.add ⟨b, o, none⟩ j = ⟨b, o + j, none⟩ := by cases j <;> simp [Addr.add]
/-- The cells of a row, one behind the other. -/
theorem row_at {α : Type} {cells : α → List Value} {k : Nat} (hk : ∀ e, (cells e).length = k) (hk0 : 0 < k) {w : World} {p : Addr} {n cap : Nat} {l : List α} (h : RowOf cells k w (.slice (some p) n cap) l) (j : Nat) (u : Value) (hu : (l.flatMap cells)[j]? = some u) : w.cell? (p.add j) = some u := by
  obtain ⟨p', c', hv, _, hc⟩ := h
  simp only [Value.slice.injEq] at hv
  obtain ⟨rfl, _, _⟩ := hv
  have hj : j < l.length * k := by rw [← flat_length (cells := cells) hk]; exact (List.getElem?_eq_some_iff.1 hu).1
  have hd : j / k < l.length := Nat.div_lt_of_lt_mul (by rw [Nat.mul_comm]; exact hj)
  obtain ⟨z, hz⟩ : ∃ z, l[j / k]? = some z := ⟨_, List.getElem?_eq_getElem hd⟩
  obtain ⟨v, hv⟩ : ∃ v, (cells z)[j % k]? = some v := ⟨_, List.getElem?_eq_getElem (by rw [hk]; exact Nat.mod_lt _ hk0)⟩
  have h1 := flat_at hk l (j / k) (j % k) z v hz hv
  rw [Nat.div_add_mod' j k, hu] at h1
  obtain rfl := Option.some.inj h1
  obtain ⟨b, o, hp, _, hcz⟩ := hc (j / k) z hz
  obtain rfl := Option.some.inj hp
  have := hcz (j % k) _ hv
  rw [Nat.add_assoc, Nat.div_add_mod' j k] at this
  rw [add_offC]
  exact this
theorem row_nil {α : Type} {cells : α → List Value} {k : Nat} {w : World} {n cap : Nat} {l : List α} (h : RowOf cells k w (.slice none n cap) l) : l = [] := by
  obtain ⟨p', c', hv, _, hc⟩ := h
  simp only [Value.slice.injEq] at hv
  cases l with
  | nil => rfl
  | cons x t => obtain ⟨b, o, hp, _⟩ := hc 0 x rfl; rw [← hv.1] at hp; cases hp
section
variable {P : Program} {α : Type} {cells : α → List Value}
theorem run_append_fresh (w : World) (t ty e : TypeId) (i : TypeInfo) (z : Value) (size bytes : Nat) (ht : P.underlying t = some (.slice e)) (hi : P.info? e = some i) (hz : i.zero = some z)
    (hsize : i.size = size) (hby : i.bytes = bytes) (hzs : z.cells.size = size) (hsz : 0 < size) (hk : ∀ e, (cells e).length = size) (g : Nat) (va : Value) (l : List α) (hv : RowOf cells size w va l) (hn : ∀ n c, va = .slice none n c → c = 0)
    (h63 : l.length ≤ maxLen) (hbytes : l.length * bytes ≤ 140737488355328) :
    ∃ q c w', (Builtin.append_ #[t, t] ty #[.slice (some ⟨g, 0, none⟩) 0 0, va]).run P w = .ok (.slice q l.length c) w' ∧ Up w w' ∧ RowOf cells size w' (.slice q l.length c) l := by
  have hv2 := hv
  obtain ⟨p, cap, rfl, hle, hc⟩ := hv2
  rcases Nat.eq_zero_or_pos l.length with h0 | h0
  · obtain rfl := List.length_eq_zero_iff.1 h0
    refine ⟨some ⟨g, 0, none⟩, 0, w, ?_, Up.refl w, RowOf.nil' w _ _⟩
    cases p <;> simp [Builtin.append_, run_underlying ht, sizeOf, typeInfo, hi, Builtin.lenOf, Builtin.firstCells, loadCells, loadCellsFrom, storeCells]
  · cases p with
    | none =>
      have := row_nil hv
      rw [this] at h0; cases h0
    | some a =>
      obtain ⟨v', w', hr, hown, hg⟩ := run_append_arg_grows (P := P) w t ty e i z size bytes ht hi hz hsize hby hzs hsz ⟨g, 0, none⟩ 0 0 [] (by simp) (fun j u h => by simp at h) a l.length cap (l.flatMap cells) (flat_length hk l) (fun j u hu => row_at hk hsz hv j u hu) (by omega) (by omega) (by rw [Nat.zero_add]; exact hbytes)
      rw [Nat.zero_add, List.nil_append] at hown
      have hrow := RowOf.of_owns hk hown
      have hrow2 := hrow
      obtain ⟨q, c, rfl, _⟩ := hrow2
      exact ⟨q, c, w', hr, (Up.refl w).grown hg (fun k h => by cases h), hrow⟩
theorem wpList_append_fresh {ops : Array Oper} {rest : List Oper} {o : Oper} {a : Act} {w : World} {Q : Exit → Act → World → Prop} (hgd : o.guard = none) (s x : Operand) (t : TypeId)
    (ho : o.op = .call { callee := .builtin .append, args := #[s, x], argTypes := #[t, t] })
    (e : TypeId) (i : TypeInfo) (z : Value) (size bytes : Nat) (ht : P.underlying t = some (.slice e)) (hi : P.info? e = some i) (hz : i.zero = some z)
    (hsize : i.size = size) (hby : i.bytes = bytes) (hzs : z.cells.size = size) (hsz : 0 < size) (hk : ∀ e, (cells e).length = size) (g : Nat) (hs : a.eval s = .slice (some ⟨g, 0, none⟩) 0 0)
    (va : Value) (l : List α) (hx : a.eval x = va) (hv : RowOf cells size w va l) (hn : ∀ n c, va = .slice none n c → c = 0)
    (h63 : l.length ≤ maxLen) (hbytes : l.length * bytes ≤ 140737488355328)
    (h : ∀ q c w', Up w w' → RowOf cells size w' (.slice q l.length c) l → wpList P ops Q rest (a.put o.dst (.slice q l.length c)) w') : wpList P ops Q (o :: rest) a w :=
  wpList_plain hgd fun _ hK => by
    obtain ⟨q, c, w', hr, hu, hrow⟩ := run_append_fresh (P := P) w t o.type e i z size bytes ht hi hz hsize hby hzs hsz hk g va l hv hn h63 hbytes
    unfold Oper.wp execOp
    simp only [ho, resolve, invoke, builtin, Sem.run_bind, Sem.run_pure, Result.andThen_ok, List.map_toArray, List.map_cons, List.map_nil, hs, hx, hr]
    exact hK _ _ (h q c w' hu hrow)
end
end Go.Ab
namespace Go.Ab
open Go.RowKit Go.Proofs.YtlbbepgfjigjpaaGreatDoor
def markL (i : Nat) : List UInt8 := [35, 1, 0, 0, 47, UInt8.ofNat i, 0, 0]
/-- A nil slice has no capacity. -/
def NilOk (v : Value) : Prop := ∀ n c, v = .slice none n c → c = 0
def marksL (n : Nat) : List (List UInt8) := (List.range n).map markL
theorem marksL_succ (n : Nat) : marksL (n + 1) = marksL n ++ [markL n] := by simp [marksL, List.range_succ]
theorem marksL_len (n : Nat) : (marksL n).length = n := by simp [marksL]
end Go.Ab
namespace Go.Proofs.YtlbbepgfjigjpaaGreatDoor
open Go.RowKit Go.Ab
theorem run_bytes8 (w : World) (n : Nat) (c0 c1 c2 c3 c4 c5 c6 c7 : Int) [h : SizeIs w n] : (convert 160 9 (.slice (some ⟨n, 0, none⟩) 8 8)).run Tryz.prog (w.alloc (.cells #[.int .u8 c0, .int .u8 c1, .int .u8 c2, .int .u8 c3, .int .u8 c4, .int .u8 c5, .int .u8 c6, .int .u8 c7] 5)) = .ok (.string ⟨#[UInt8.ofNat c0.toNat, UInt8.ofNat c1.toNat, UInt8.ofNat c2.toNat, UInt8.ofNat c3.toNat, UInt8.ofNat c4.toNat, UInt8.ofNat c5.toNat, UInt8.ofNat c6.toNat, UInt8.ofNat c7.toNat]⟩) (w.alloc (.cells #[.int .u8 c0, .int .u8 c1, .int .u8 c2, .int .u8 c3, .int .u8 c4, .int .u8 c5, .int .u8 c6, .int .u8 c7] 5)) := by
  rw [run_convert_bytes_string _ _ _ _ _ _ _ Tryz.underlying160 Tryz.underlying5 Tryz.underlying9]
  have hl := run_loadCells_list (P := Tryz.prog) (w.alloc (.cells #[.int .u8 c0, .int .u8 c1, .int .u8 c2, .int .u8 c3, .int .u8 c4, .int .u8 c5, .int .u8 c6, .int .u8 c7] 5)) ⟨n, 0, none⟩ ([c0, c1, c2, c3, c4, c5, c6, c7].map (Value.int .u8)) (fun j v hj => by
    have e : Addr.add ⟨n, 0, none⟩ j = ⟨n, j, none⟩ := by cases j <;> simp [Addr.add]
    rw [e, alloc_at_cellI]
    simpa using hj)
  exact run_bytesToString _ _ 8 8 [c0, c1, c2, c3, c4, c5, c6, c7] hl
attribute [local go_sem high] run_bytes8
set_option maxHeartbeats 4000000 in
set_option maxRecDepth 100000 in
theorem mark_any (i : Nat) (hi : i < 12) (w : World) : Gives Tryz.prog 57 #[.int .i64 1, .int .i64 (i : Int)] w (.string ⟨(markL i).toArray⟩) := by
  unfold Gives
  rcases (by omega : i = 0 ∨ i = 1 ∨ i = 2 ∨ i = 3 ∨ i = 4 ∨ i = 5 ∨ i = 6 ∨ i = 7 ∨ i = 8 ∨ i = 9 ∨ i = 10 ∨ i = 11) with rfl | rfl | rfl | rfl | rfl | rfl | rfl | rfl | rfl | rfl | rfl | rfl
  all_goals
    go_enter Tryz.func57, Tryz.ntmps57
    go_wp2_with fail
    go_ret
    exact ⟨by first | rfl | decide, mkI⟩
theorem strRow_cells {w : World} {p : Addr} {n cap : Nat} {L : List (List UInt8)} (h : StrRow w (.slice (some p) n cap) L) (j : Nat) (u : Value) (hu : (strCells L)[j]? = some u) : w.cell? (p.add j) = some u := by
  unfold strCells at hu
  rw [List.getElem?_map] at hu
  cases hs : L[j]? with
  | none => rw [hs] at hu; cases hu
  | some s =>
    rw [hs] at hu
    obtain ⟨p', cap', hv, _, hc⟩ := h
    obtain ⟨b, o, hp, _, h2⟩ := hc j s hs
    simp only [Value.slice.injEq] at hv
    rw [← hv.1] at hp
    simp only [Option.some.injEq] at hp
    subst hp
    have := h2 0 _ rfl
    rw [Nat.add_zero, Nat.mul_one] at this
    have e : Addr.add ⟨b, o, none⟩ j = ⟨b, o + j, none⟩ := by cases j <;> simp [Addr.add]
    rw [e, this]
    simpa using hu
set_option maxHeartbeats 16000000 in
set_option maxRecDepth 100000 in
theorem lent_any (l : List (List UInt8)) (v : Value) (w : World) (hv : StrRow w v l) (hno : NilOk v) (hl : l.length ≤ 100000) :
    Calls Tryz.prog 23 #[v] w fun e w' => ∃ g cap, e = .returned (.slice (some ⟨g, 0, none⟩) l.length cap) ∧ l.length + 12 ≤ cap ∧ StrRow w' (.slice (some ⟨g, 0, none⟩) (l.length + 12) cap) (l ++ marksL 12) ∧ ∃ x : Ext w, w' = x.w := by
  obtain ⟨i0, hi, hy0, hy1, hy2⟩ := info_parts infoStr1
  obtain ⟨N, hN⟩ : ∃ N, l.length = N := ⟨_, rfl⟩
  have hrow := hv
  obtain ⟨p, cap, rfl, hle, hc⟩ := hv
  rw [hN] at hle hl hrow ⊢
  obtain ⟨mc, hms, hmk⟩ : ∃ mc : Array Value, mc.size = (N + 12) * 1 ∧ ∀ W : World, (Instr.makeSlice 23 (.int .i64 0) (.int .i64 ((N : Int) + 12))).run Tryz.prog W = .ok (.slice (some ⟨W.heap.size, 0, none⟩) 0 (N + 12)) (W.alloc (.cells mc 9)) := by
    refine ⟨madeCells (Value.string ⟨#[]⟩).cells ((N + 12) * 1), size_madeCells _ _, fun W => ?_⟩
    · have := run_makeSlice (P := Tryz.prog) (w := W) 23 9 i0 _ Tryz.underlying23 hi hy0 .i64 .i64 0 ((N : Int) + 12) (Int.le_refl _) (by omega) (by rw [hy1]; omega) (by rw [hy2]; omega) (by omega)
      rw [show ((N : Int) + 12).toNat = N + 12 by omega, hy1] at this
      exact this
  have hstart : ∀ W : World, Up w W → ∃ base : Nat, base = w.heap.size ∧ (W.alloc (.cells mc 9)).ownsRow w.heap.size 9 1 (.slice (some ⟨W.heap.size, 0, none⟩) 0 (N + 12)) 0 [] := fun W u => ⟨_, rfl, World.ownsRow_made W mc (N + 12) u.size (by unfold maxLen; omega) hms⟩
  have Hi := Lib.hid hi; have Hy0 := Lib.hid hy0; have Hy1 := Lib.hid hy1; have Hy2 := Lib.hid hy2
  have Hms := Lib.hid hms
  have HN := Lib.hid hN
  have HR := Lib.hid hrow
  have Hc := Lib.hid hc
  clear hi hy0 hy1 hy2 hN hrow hms hc
  have hw12 : wrap64 ((N : Int) + 12) = (N : Int) + 12 := IntWalk.wrap64_in _ ⟨by omega, by omega⟩
  go_enter Tryz.func23, Tryz.ntmps23
  go_upto_region 2 with fail
  go_cut [3] (fun v3 wx => UpI w wx ∧ wx.ownsRow w.heap.size 9 1 v3 N (strCells l))
  case first =>
    cases p with
    | none =>
      have h0 : l = [] := by
        cases l with
        | nil => rfl
        | cons x t => obtain ⟨b, o, h, _⟩ := Hc.out 0 x rfl; cases h
      have hN0 : N = 0 := by rw [← HN.out, h0]; rfl
      have hcap : cap = 0 := hno _ cap rfl
      subst hcap hN0
      subst h0
      go_wp2_with (refine wpList_append_own_none rfl _ _ 23 rfl w.heap.size 9 i0 1 Tryz.underlying23 Hi.out _ 0 [] rfl (World.ownsRow_made w mc (0 + 12) (Nat.le_refl _) (by unfold maxLen; omega) Hms.out) rfl ?_)
      go_meet
      exact ⟨inferInstance, World.ownsRow_made w mc (0 + 12) (Nat.le_refl _) (by unfold maxLen; omega) Hms.out⟩
    | some p =>
      have hlen : (strCells l).length = N * 1 := by unfold strCells; rw [List.length_map, HN.out, Nat.mul_one]
      have h1 : ∀ u ∈ strCells l, u.oneCell' = true := fun u hu => by
        unfold strCells at hu
        obtain ⟨s, _, rfl⟩ := List.mem_map.1 hu
        rfl
      go_wp2_with (at_builtin; refine wpList_append_own _ rfl _ _ 23 rfl w.heap.size 9 i0 (.string ⟨#[]⟩) 1 16 Tryz.underlying23 Hi.out Hy0.out Hy1.out Hy2.out rfl (by decide) _ 0 [] rfl (World.ownsRow_made w mc (N + 12) (Nat.le_refl _) (by unfold maxLen; omega) Hms.out) p N _ (strCells l) rfl hlen (fun j u h => (Up.cell_some' ((Up.refl w).alloc _) (strRow_cells HR.out j u h))) h1 (by unfold maxLen; omega) (by omega) (by rw [World.size_alloc]; omega) ?_; intro v' w1 hown' hgrow _)
      rw [Nat.zero_add, List.nil_append] at hown'
      have Hown' := Lib.hid hown'
      have hup : Up w w1 := Up.grown ((Up.refl w).alloc _) hgrow (fun k hk => by cases hk; exact Nat.le_refl _)
      clear hown' hgrow
      go_wp2_with fail
      go_meet
      exact ⟨⟨hup⟩, Hown'.out⟩
  case rest =>
    obtain ⟨uW, hown0⟩ := hcut
    haveI := uW
    have Hown0 := Lib.hid hown0
    clear hown0 hmk hstart HR Hc Hms
    go_wp2_with fail
    go_loopw [3, 4] (fun out i wr => ∃ k : Nat, k ≤ 12 ∧ i = .int .i64 (k : Int) ∧ Hid (wr.ownsRow w.heap.size 9 1 out (N + k) (strCells (l ++ marksL k))) ∧ Up w wr) (fun _ i _ => 12 - (intOf i).toNat)
    case atStart => exact ⟨0, by omega, rfl, Lib.hid (by rw [show marksL 0 = [] from rfl, List.append_nil]; exact Hown0.out), uW.up⟩
    case round =>
      clear Hown0
      obtain ⟨k, hk, rfl, Hown, hu⟩ := hrel
      haveI : UpI w wr := ⟨hu⟩
      by_cases hlt : k < 12
      · have hlt' : (k : Int) < 12 := by omega
        have hmk := fun W => mark_any k hlt W
        have HS := Lib.hid (show strCells (l ++ marksL (k + 1)) = strCells (l ++ marksL k) ++ [.string ⟨(markL k).toArray⟩] by rw [marksL_succ, ← List.append_assoc]; simp [strCells])
        go_wp2_with (first
          | (go_at_call 57; refine (hmk _).mono ?_; rintro e w' ⟨rfl, z1, rfl⟩)
          | (at_builtin; refine wpList_append_own _ rfl _ _ 23 rfl w.heap.size 9 i0 (.string ⟨#[]⟩) 1 16 Tryz.underlying23 Hi.out Hy0.out Hy1.out Hy2.out rfl (by decide) _ (N + k) (strCells (l ++ marksL k)) rfl (owns_up Hown.out (upI : Up wr _)) ⟨_, 0, none⟩ 1 1 [.string ⟨(markL k).toArray⟩] rfl rfl ?c1 ?c2 ?c3 ?c4 ?c5 ?_))
        case c1 => exact cell_one_new _ _ _
        case c2 => simp [Value.oneCell']
        case c3 => unfold maxLen; omega
        case c4 => omega
        case c5 => exact (upI : Up w _).size
        intro v' w1 hown' hgrow _
        have hu1 : Up w w1 := Up.grown (upI : Up w _) hgrow (owns_row Hown.out)
        have Hown' := Lib.hid hown'
        clear hown' hgrow
        go_wp2_with fail
        go_roundw
        case rel => exact ⟨k + 1, by omega, by go_num, Lib.hid (by rw [HS.out]; exact Hown'.out), hu1⟩
        case measure => simp [intOf]; omega
      · obtain rfl : k = 12 := by omega
        have hL : (l ++ marksL 12).length = N + 12 := by rw [List.length_append, HN.out, marksL_len]
        have hown2 := Hown.out
        have hrow2 : StrRow wr u3 (l ++ marksL 12) := StrRow.of_owns (by rw [hL]; exact hown2)
        obtain ⟨g, cap2, hv3, _, _, hcap2, _⟩ := owns_cells hown2 (by omega)
        rw [hv3] at hrow2 ⊢
        have HR2 := Lib.hid hrow2
        clear hrow2 hown2 hv3
        go_wp2_with fail
        go_ret
        exact ⟨g, cap2, rfl, hcap2, HR2.out, mkI⟩
set_option maxHeartbeats 16000000 in
set_option maxRecDepth 100000 in
theorem kept_any (l : List (List UInt8)) (v : Value) (g cap N : Nat) (w : World) (hN : l.length = N) (hv : StrRow w v l) (ho : StrRow w (.slice (some ⟨g, 0, none⟩) (N + 12) cap) (l ++ marksL 12)) (hcap : N + 12 ≤ cap) (hl : l.length ≤ 100000) :
    Gives Tryz.prog 31 #[.slice (some ⟨g, 0, none⟩) N cap, v] w (.bool true) := by
  obtain ⟨p, cap2, rfl, hle, hc⟩ := hv
  rw [hN] at hle hl ⊢
  have hoc := fun (j : Nat) (s : List UInt8) (h : (l ++ marksL 12)[j]? = some s) => strRow_cells ho j _ (by unfold strCells; rw [List.getElem?_map, h]; rfl)
  have hg : g < w.heap.size := by
    obtain ⟨p', c', hv', _, hc'⟩ := ho
    obtain ⟨b, o, hp, hb, _⟩ := hc' (N + 0) (markL 0) (by rw [List.getElem?_append_right (by omega), hN, show N + 0 - N = 0 by omega]; rfl)
    simp only [Value.slice.injEq] at hv'
    rw [← hv'.1] at hp
    cases hp
    exact hb
  have Hoc := Lib.hid hoc
  have Hc := Lib.hid hc
  have HN := Lib.hid hN
  clear hoc hc hN ho
  have hw12 : wrap64 ((N : Int) + 12) = (N : Int) + 12 := IntWalk.wrap64_in _ ⟨by omega, by omega⟩
  have s0 : (0 : Int) ≤ (N : Int) + 12 := by omega
  have s1 : (N : Int) + 12 ≤ (cap : Int) := by omega
  have s2 : ((N : Int) + 12).toNat = N + 12 := by omega
  unfold Gives
  go_enter Tryz.func31, Tryz.ntmps31
  go_wp2_with fail
  go_loopw [6] (fun i wr => ∃ k : Nat, k ≤ N + 12 ∧ i = .int .i64 (k : Int) ∧ ∃ x : Ext w, wr = x.w) (fun i _ => N + 12 - (intOf i).toNat)
  case atStart => exact ⟨0, by omega, rfl, mkI⟩
  case round =>
    obtain ⟨k, hk, rfl, x0, rfl⟩ := hrel
    haveI : LtSize g w := ⟨hg⟩
    have k0 : (0 : Int) ≤ (k : Int) := by omega
    by_cases hlt : k < N
    · have hlt' : (k : Int) < (N : Int) := by omega
      have hlt2 : (k : Int) < (N : Int) + 12 := by omega
      obtain ⟨s, hs⟩ : ∃ s, l[k]? = some s := ⟨_, List.getElem?_eq_getElem (by rw [HN.out]; exact hlt)⟩
      obtain ⟨b1, o1, rfl, hb1, hc1⟩ := Hc.out k s hs
      have c1 := hc1 0 _ rfl
      rw [Nat.add_zero, Nat.mul_one] at c1
      have c2 := Hoc.out k s (by rw [List.getElem?_append_left (by rw [HN.out]; exact hlt)]; exact hs)
      rw [show Addr.add ⟨g, 0, none⟩ k = ⟨g, k, none⟩ by cases k <;> simp [Addr.add]] at c2
      haveI : LtSize b1 w := ⟨hb1⟩
      have d1 : decide (k < N) = true := decide_eq_true hlt
      have d2 : decide (N ≤ k) = false := decide_eq_false (by omega)
      clear hc1 hs
      go_wp2_with fail
      (refine wp_region_ext (by kernel_rfl) (by kernel_rfl) ?_; (repeat (go_big_quiet_step (fail))); refine wpQuiet_nil ?_; rintro _ ⟨y, rfl⟩)
      go_wp2_with fail
      go_roundw
      case rel => exact ⟨k + 1, by omega, by go_num, mkI⟩
      case measure => simp [intOf]; omega
    · by_cases hlt2 : k < N + 12
      · have hlt3 : (k : Int) < (N : Int) + 12 := by omega
        have hge : (N : Int) ≤ (k : Int) := by omega
        have d1 : decide (k < N) = false := decide_eq_false (by omega)
        have d2 : decide (N ≤ k) = true := decide_eq_true (by omega)
        obtain ⟨j, hj⟩ : ∃ j, k - N = j := ⟨_, rfl⟩
        have hkj : (k : Int) - (N : Int) = (j : Int) := by omega
        have hmk := fun W => mark_any j (by omega) W
        have c2 := Hoc.out k (markL j) (by
          rw [List.getElem?_append_right (by rw [HN.out]; omega), HN.out, hj]
          unfold marksL
          rw [List.getElem?_map, List.getElem?_range (by omega)]; rfl)
        rw [show Addr.add ⟨g, 0, none⟩ k = ⟨g, k, none⟩ by cases k <;> simp [Addr.add]] at c2
        have hwj : wrap64 (j : Int) = (j : Int) := IntWalk.wrap64_in _ ⟨by omega, by omega⟩
        clear hj
        generalize markL j = mk at *
        go_wp2_with fail
        (refine wp_region_ext (by kernel_rfl) (by kernel_rfl) ?_; (repeat (go_big_quiet_step ((go_at_call 57; exact (hmk _).ext)))); refine wpQuiet_nil ?_; rintro _ ⟨y, rfl⟩)
        go_wp2_with fail
        go_roundw
        case rel => exact ⟨k + 1, by omega, by go_num, mkI⟩
        case measure => simp [intOf]; omega
      · have hge : (N : Int) + 12 ≤ (k : Int) := by omega
        go_wp2_with fail
        go_ret
        exact ⟨rfl, mkI⟩
end Go.Proofs.YtlbbepgfjigjpaaGreatDoor
namespace Go.Proofs.YtlbbepgfjigjpaaGreatDoor
open Go.ChangeShapes Go.WideShapes Go.ChangeAt Go.RowKit Go.Ab
section
variable {H : Type} {enc : TypeId × Value → H} {W : World} {base : Nat} {sp : Nat → Bool} {held : Bool}
end
end Go.Proofs.YtlbbepgfjigjpaaGreatDoor
