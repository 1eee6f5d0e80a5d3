/- slices.Equal at changes. Package dump: changes applied. -/
import Derived.Test.YtlbbepgfjigjpaaGreatDoorDDel
import Derived.Test.YtlbbepgfjigjpaaGreatDoorRel
import Derived.Laws.Tables
namespace Go.Ab
open Go.RowKit Go.Proofs.YtlbbepgfjigjpaaGreatDoor
theorem ch_ne_at {a b : List Ch} {k : Nat} {x y : Ch} (ha : a[k]? = some x) (hb : b[k]? = some y) (h : ¬ x = y) : (a == b) = false := by
  rw [beq_eq_false_iff_ne]
  rintro rfl
  rw [ha] at hb
  exact h (by simpa using hb)
end Go.Ab
namespace Go.Proofs.YtlbbepgfjigjpaaGreatDoor
open Go.RowKit Go.Ab
theorem eq_ch (x y : Ch) (w : World) : (Op.equalIn 10000 44 (.agg x.cells.toArray) (.agg y.cells.toArray)).run Tryz.prog w = .ok (decide (x = y)) w := by
  obtain ⟨k1, ⟨p1, p2, p3, p4, p5, p6, p7, p8, p9, p10, p11⟩, ⟨q1, q2, q3, q4, q5, q6, q7, q8, q9, q10, q11⟩⟩ := x
  obtain ⟨k2, ⟨r1, r2, r3, r4, r5, r6, r7, r8, r9, r10, r11⟩, ⟨s1, s2, s3, s4, s5, s6, s7, s8, s9, s10, s11⟩⟩ := y
  refine (eq_change w _ _ _ _ _ _ _ _ _ _ _ _ _ _ _ _ _ _ _ _ _ _ _ _ _ _ _ _ _ _ _ _ _ _ _ _ _ _ _ _ _ _ _ _ _ _).trans (congrArg (Result.ok · w) ?_)
  rw [Bool.eq_iff_iff]
  simp [and_assoc]
set_option maxHeartbeats 8000000 in
set_option maxRecDepth 100000 in
theorem equalch_any (a b : List Ch) (va vb : Value) (w : World) (ha : ChRow w va a) (hb : ChRow w vb b) (la : a.length ≤ 1000000) (lb : b.length ≤ 1000000) : Gives Tryz.prog 66 #[va, vb] w (.bool (a == b)) := by
  obtain ⟨p, cap, rfl, hle, hc⟩ := ha
  obtain ⟨q, cap2, rfl, hle2, hd⟩ := hb
  obtain ⟨N, hN⟩ : ∃ N, a.length = N := ⟨_, rfl⟩
  obtain ⟨M, hM⟩ : ∃ M, b.length = M := ⟨_, rfl⟩
  rw [hN] at hle la ⊢
  rw [hM] at hle2 lb ⊢
  have HN := Lib.hid hN
  have HM := Lib.hid hM
  have Hc := Lib.hid hc
  have Hd := Lib.hid hd
  clear hN hM hc hd
  unfold Gives
  by_cases hNM : N = M
  · subst hNM
    go_enter Tryz.func66, Tryz.ntmps66
    go_wp2_with fail
    go_loopw [13] (fun i wr => ∃ k : Nat, k ≤ N ∧ i = .int .i64 (k : Int) ∧ Hid (∀ j, j < k → a[j]? = b[j]?) ∧ ∃ x : Ext w, wr = x.w) (fun i _ => N - (intOf i).toNat)
    case atStart => exact ⟨0, Nat.zero_le _, rfl, Lib.hid (fun j hj => absurd hj (Nat.not_lt_zero j)), (Up.refl w).mk⟩
    case round =>
      obtain ⟨k, hk, rfl, Hk, x0, rfl⟩ := hrel
      by_cases hlt : k < N
      · have hlt' : (k : Int) < (N : Int) := by omega
        have k0 : (0 : Int) ≤ (k : Int) := by omega
        obtain ⟨x, hs⟩ : ∃ x, a[k]? = some x := ⟨_, List.getElem?_eq_getElem (by rw [HN.out]; exact hlt)⟩
        obtain ⟨y, ht⟩ : ∃ y, b[k]? = some y := ⟨_, List.getElem?_eq_getElem (by rw [HM.out]; exact hlt)⟩
        obtain ⟨b1, o1, rfl, hb1, hc1⟩ := Hc.out k x hs
        obtain ⟨b2, o2, rfl, hb2, hc2⟩ := Hd.out k y ht
        haveI : LtSize b1 w := ⟨hb1⟩
        haveI : LtSize b2 w := ⟨hb2⟩
        have Hs := Lib.hid hs
        have Ht := Lib.hid ht
        have hX : x0.w.rangeAt b1 (o1 + k * 23) x.cells := fun j u hj => x0.up.cell_some (hc1 j u hj)
        have hY : x0.w.rangeAt b2 (o2 + k * 23) y.cells := fun j u hj => x0.up.cell_some (hc2 j u hj)
        have hEq0 := fun W => eq_ch x y W
        clear hc1 hc2 hs ht
        by_cases he : x = y
        · have E := Lib.hid (show a[k]? = b[k]? by rw [Hs.out, Ht.out, he])
          have hEq : ∀ W, (Op.equalIn 10000 44 (.agg x.cells.toArray) (.agg y.cells.toArray)).run Tryz.prog W = .ok true W := fun W => by rw [hEq0, decide_eq_true he]
          clear he hEq0
          go_wp2_with fail
          refine wp_region_rel2 (relAt [isV (.slice (some ⟨b1, o1, none⟩) N cap), isV (.int .i64 (k : Int)), isV (.pointer (some ⟨b1, o1 + k * 23, none⟩)), isV (.agg x.cells.toArray), isV (.slice (some ⟨b2, o2, none⟩) N cap2), isV (.int .i64 (k : Int)), isV (.pointer (some ⟨b2, o2 + k * 23, none⟩)), isV (.agg y.cells.toArray), isV (.bool false)]) [16, 17, 18, 19, 20, 21, 22, 23, 24] 26 (by kernel_rfl) (by kernel_rfl) (by kernel_rfl) rfl (relAt_mono ?hmono) ⟨?o0, ?o1, ?o2, ?o3, ?o4, ?o5, ?o6, ?o7, ?o8, trivial⟩ ?hend
          case hmono =>
            intro r hr v W1 W2 h1 hu
            simp only [List.mem_cons, List.not_mem_nil, or_false] at hr
            rcases hr with rfl | rfl | rfl | rfl | rfl | rfl | rfl | rfl | rfl
            all_goals exact h1
          case o0 =>
            intro vs W' F Y E hu hd
            have s0 := E.eout 0 (.slice (some ⟨b1, o1, none⟩) N cap) rfl rfl
            exact rel_val (v := .slice (some ⟨b1, o1, none⟩) N cap) rfl (by simp [go_sem, s0]) (Up.refl _) rfl
          case o1 =>
            intro vs W' F Y E hu hd
            have s0 := E.eout 5 (.int .i64 (k : Int)) rfl rfl
            exact rel_val (v := .int .i64 (k : Int)) rfl (by simp [go_sem, s0]) (Up.refl _) rfl
          case o2 =>
            intro vs W' F Y E hu hd
            have d0 : vs 0 = .slice (some ⟨b1, o1, none⟩) N cap := hd ⟨0, .data⟩ (by simp) rfl
            have t0 := E.ein 0 16 _ rfl (by decide) d0
            have d1 : vs 1 = .int .i64 (k : Int) := hd ⟨1, .data⟩ (by simp) rfl
            have t1 := E.ein 1 17 _ rfl (by decide) d1
            exact rel_val (v := .pointer (some ⟨b1, o1 + k * 23, none⟩)) rfl (by simp [go_sem, t0, t1, k0, hlt']) (Up.refl _) rfl
          case o3 =>
            intro vs W' F Y E hu hd
            have d2 : vs 2 = .pointer (some ⟨b1, o1 + k * 23, none⟩) := hd ⟨2, .data⟩ (by simp) rfl
            have t2 := E.ein 2 18 _ rfl (by decide) d2
            exact rel_load rfl _ _ rfl b1 (o1 + k * 23) (by simp [go_sem, t2]) x.cells _ (fun j u hj => hu.cell_some (hX j u hj)) Tryz.underlying44 rfl chSize rfl
          case o4 =>
            intro vs W' F Y E hu hd
            have s0 := E.eout 1 (.slice (some ⟨b2, o2, none⟩) N cap2) rfl rfl
            exact rel_val (v := .slice (some ⟨b2, o2, none⟩) N cap2) rfl (by simp [go_sem, s0]) (Up.refl _) rfl
          case o5 =>
            intro vs W' F Y E hu hd
            have s0 := E.eout 5 (.int .i64 (k : Int)) rfl rfl
            exact rel_val (v := .int .i64 (k : Int)) rfl (by simp [go_sem, s0]) (Up.refl _) rfl
          case o6 =>
            intro vs W' F Y E hu hd
            have d4 : vs 4 = .slice (some ⟨b2, o2, none⟩) N cap2 := hd ⟨4, .data⟩ (by simp) rfl
            have t4 := E.ein 4 20 _ rfl (by decide) d4
            have d5 : vs 5 = .int .i64 (k : Int) := hd ⟨5, .data⟩ (by simp) rfl
            have t5 := E.ein 5 21 _ rfl (by decide) d5
            exact rel_val (v := .pointer (some ⟨b2, o2 + k * 23, none⟩)) rfl (by simp [go_sem, t4, t5, k0, hlt']) (Up.refl _) rfl
          case o7 =>
            intro vs W' F Y E hu hd
            have d6 : vs 6 = .pointer (some ⟨b2, o2 + k * 23, none⟩) := hd ⟨6, .data⟩ (by simp) rfl
            have t6 := E.ein 6 22 _ rfl (by decide) d6
            exact rel_load rfl _ _ rfl b2 (o2 + k * 23) (by simp [go_sem, t6]) y.cells _ (fun j u hj => hu.cell_some (hY j u hj)) Tryz.underlying44 rfl chSize rfl
          case o8 =>
            intro vs W' F Y E hu hd
            have d3 : vs 3 = .agg x.cells.toArray := hd ⟨3, .data⟩ (by simp) rfl
            have t3 := E.ein 3 19 _ rfl (by decide) d3
            have d7 : vs 7 = .agg y.cells.toArray := hd ⟨7, .data⟩ (by simp) rfl
            have t7 := E.ein 7 23 _ rfl (by decide) d7
            exact rel_val (v := .bool false) rfl (by simp [go_sem, t3, t7, hEq]) (Up.refl _) rfl
          case hend =>
            intro vs W' hu hall
            have d8 : vs 8 = .bool false := hall 8 (by simp)
            obtain ⟨x9, rfl⟩ := hu.mk
            simp only [fillL, Act.put, List.setIfInBounds_toArray, List.set_cons_zero, List.set_cons_succ, d8]
            go_wp2_with fail
            go_roundw
            case rel => exact ⟨k + 1, by omega, by go_num, Lib.hid (fun j hj => by rcases Nat.lt_or_eq_of_le (Nat.le_of_lt_succ hj) with h | h; exact Hk.out j h; rw [h]; exact E.out), mkI⟩
            case measure => simp [intOf]; omega
        · have E := Lib.hid (ch_ne_at Hs.out Ht.out he)
          have hEq : ∀ W, (Op.equalIn 10000 44 (.agg x.cells.toArray) (.agg y.cells.toArray)).run Tryz.prog W = .ok false W := fun W => by rw [hEq0, decide_eq_false he]
          clear he hEq0
          go_wp2_with fail
          refine wp_region_rel2 (relAt [isV (.slice (some ⟨b1, o1, none⟩) N cap), isV (.int .i64 (k : Int)), isV (.pointer (some ⟨b1, o1 + k * 23, none⟩)), isV (.agg x.cells.toArray), isV (.slice (some ⟨b2, o2, none⟩) N cap2), isV (.int .i64 (k : Int)), isV (.pointer (some ⟨b2, o2 + k * 23, none⟩)), isV (.agg y.cells.toArray), isV (.bool true)]) [16, 17, 18, 19, 20, 21, 22, 23, 24] 26 (by kernel_rfl) (by kernel_rfl) (by kernel_rfl) rfl (relAt_mono ?hmono) ⟨?o0, ?o1, ?o2, ?o3, ?o4, ?o5, ?o6, ?o7, ?o8, trivial⟩ ?hend
          case hmono =>
            intro r hr v W1 W2 h1 hu
            simp only [List.mem_cons, List.not_mem_nil, or_false] at hr
            rcases hr with rfl | rfl | rfl | rfl | rfl | rfl | rfl | rfl | rfl
            all_goals exact h1
          case o0 =>
            intro vs W' F Y E hu hd
            have s0 := E.eout 0 (.slice (some ⟨b1, o1, none⟩) N cap) rfl rfl
            exact rel_val (v := .slice (some ⟨b1, o1, none⟩) N cap) rfl (by simp [go_sem, s0]) (Up.refl _) rfl
          case o1 =>
            intro vs W' F Y E hu hd
            have s0 := E.eout 5 (.int .i64 (k : Int)) rfl rfl
            exact rel_val (v := .int .i64 (k : Int)) rfl (by simp [go_sem, s0]) (Up.refl _) rfl
          case o2 =>
            intro vs W' F Y E hu hd
            have d0 : vs 0 = .slice (some ⟨b1, o1, none⟩) N cap := hd ⟨0, .data⟩ (by simp) rfl
            have t0 := E.ein 0 16 _ rfl (by decide) d0
            have d1 : vs 1 = .int .i64 (k : Int) := hd ⟨1, .data⟩ (by simp) rfl
            have t1 := E.ein 1 17 _ rfl (by decide) d1
            exact rel_val (v := .pointer (some ⟨b1, o1 + k * 23, none⟩)) rfl (by simp [go_sem, t0, t1, k0, hlt']) (Up.refl _) rfl
          case o3 =>
            intro vs W' F Y E hu hd
            have d2 : vs 2 = .pointer (some ⟨b1, o1 + k * 23, none⟩) := hd ⟨2, .data⟩ (by simp) rfl
            have t2 := E.ein 2 18 _ rfl (by decide) d2
            exact rel_load rfl _ _ rfl b1 (o1 + k * 23) (by simp [go_sem, t2]) x.cells _ (fun j u hj => hu.cell_some (hX j u hj)) Tryz.underlying44 rfl chSize rfl
          case o4 =>
            intro vs W' F Y E hu hd
            have s0 := E.eout 1 (.slice (some ⟨b2, o2, none⟩) N cap2) rfl rfl
            exact rel_val (v := .slice (some ⟨b2, o2, none⟩) N cap2) rfl (by simp [go_sem, s0]) (Up.refl _) rfl
          case o5 =>
            intro vs W' F Y E hu hd
            have s0 := E.eout 5 (.int .i64 (k : Int)) rfl rfl
            exact rel_val (v := .int .i64 (k : Int)) rfl (by simp [go_sem, s0]) (Up.refl _) rfl
          case o6 =>
            intro vs W' F Y E hu hd
            have d4 : vs 4 = .slice (some ⟨b2, o2, none⟩) N cap2 := hd ⟨4, .data⟩ (by simp) rfl
            have t4 := E.ein 4 20 _ rfl (by decide) d4
            have d5 : vs 5 = .int .i64 (k : Int) := hd ⟨5, .data⟩ (by simp) rfl
            have t5 := E.ein 5 21 _ rfl (by decide) d5
            exact rel_val (v := .pointer (some ⟨b2, o2 + k * 23, none⟩)) rfl (by simp [go_sem, t4, t5, k0, hlt']) (Up.refl _) rfl
          case o7 =>
            intro vs W' F Y E hu hd
            have d6 : vs 6 = .pointer (some ⟨b2, o2 + k * 23, none⟩) := hd ⟨6, .data⟩ (by simp) rfl
            have t6 := E.ein 6 22 _ rfl (by decide) d6
            exact rel_load rfl _ _ rfl b2 (o2 + k * 23) (by simp [go_sem, t6]) y.cells _ (fun j u hj => hu.cell_some (hY j u hj)) Tryz.underlying44 rfl chSize rfl
          case o8 =>
            intro vs W' F Y E hu hd
            have d3 : vs 3 = .agg x.cells.toArray := hd ⟨3, .data⟩ (by simp) rfl
            have t3 := E.ein 3 19 _ rfl (by decide) d3
            have d7 : vs 7 = .agg y.cells.toArray := hd ⟨7, .data⟩ (by simp) rfl
            have t7 := E.ein 7 23 _ rfl (by decide) d7
            exact rel_val (v := .bool true) rfl (by simp [go_sem, t3, t7, hEq]) (Up.refl _) rfl
          case hend =>
            intro vs W' hu hall
            have d8 : vs 8 = .bool true := hall 8 (by simp)
            obtain ⟨x9, rfl⟩ := hu.mk
            simp only [fillL, Act.put, List.setIfInBounds_toArray, List.set_cons_zero, List.set_cons_succ, d8]
            go_wp2_with fail
            go_ret
            exact ⟨ret_bool E.out.symm, mkI⟩
      · have hlt' : (N : Int) ≤ (k : Int) := by omega
        have E := Lib.hid (show (a == b) = true by
          rw [beq_iff_eq]
          apply List.ext_getElem?
          intro j
          by_cases hj : j < N
          · exact Hk.out j (by omega)
          · rw [List.getElem?_eq_none (by rw [HN.out]; omega), List.getElem?_eq_none (by rw [HM.out]; omega)])
        clear hk hlt
        go_wp2_with fail
        go_ret
        exact ⟨ret_bool E.out.symm, mkI⟩
  · have E := Lib.hid (show (a == b) = false by
      rw [beq_eq_false_iff_ne]
      rintro rfl
      exact hNM (HN.out.symm.trans HM.out))
    have hNM' : ((N : Int) == (M : Int)) = false := by rw [beq_eq_false_iff_ne]; omega
    go_enter Tryz.func66, Tryz.ntmps66
    go_wp2_with fail
    go_ret
    exact ⟨ret_bool E.out.symm, mkI⟩
end Go.Proofs.YtlbbepgfjigjpaaGreatDoor
namespace Go.Ab
open Go.RowKit Go.Proofs.YtlbbepgfjigjpaaGreatDoor
theorem pairsL_length : ∀ (n : Nat) (a b : List Ln), (pairsL n a b).length ≤ n
  | 0, _, _ => by simp [pairsL]
  | n + 1, [], [] => by simp [pairsL]
  | n + 1, a :: us, [] => by have := pairsL_length n us []; simp [pairsL]; omega
  | n + 1, [], b :: vs => by have := pairsL_length n [] vs; simp [pairsL]; omega
  | n + 1, a :: us, b :: vs => by
    have h1 := pairsL_length n us (b :: vs); have h2 := pairsL_length n (a :: us) vs; have h3 := pairsL_length n us vs
    rw [pairsL]
    split
    · simp; omega
    · split <;> (simp; omega)
theorem diffL_len (a b : List Ln) : (diffL a b).length ≤ a.length + b.length := Nat.le_trans (chOf_flat_length _) (pairsL_length _ _ _)
theorem up_setRowG {w W : World} {g : Nat} (h : Up w W) (hg : w.heap.size ≤ g) (cs : Array Value) : Up w (W.setRow g cs) := Below.trans h ⟨rfl, rfl, rfl, by simp [World.setRow], fun k hk => setRow_other W g k cs (by omega)⟩
theorem keepL_sub (o : Ln) (L : List Ln) (x : Ln) (h : x ∈ keepL o L) : x ∈ L := (List.mem_filter.1 h).1
theorem keepL_len (o : Ln) (L : List Ln) : (keepL o L).length ≤ L.length := List.length_filter_le _ _
theorem foldA_snoc (a : List Ln) (l : List Ch) (k : Nat) (c : Ch) (h : l[k]? = some c) : foldA a (l.take (k + 1)) = stepA (foldA a (l.take k)) c := by
  obtain ⟨hk, rfl⟩ := List.getElem?_eq_some_iff.1 h
  rw [List.take_succ_eq_append_getElem hk, foldA_append]; rfl
theorem ln_at (W : World) (x : Ln) (t : TypeId) (j : Nat) (u : Value) (h : x.cells[j]? = some u) : (W.alloc (.cells x.cells.toArray t)).cell? (Addr.add ⟨W.heap.size, 0, none⟩ j) = some u := by
  have e : Addr.add ⟨W.heap.size, 0, none⟩ j = ⟨W.heap.size, j, none⟩ := by cases j <;> simp [Addr.add]
  rw [e, World.cell?_alloc_at _ _ _ _ rfl]; simpa using h
/-- What Apply returns: the lines sorted, if the dump was right, the lines are a right dump, and the changes between them are those. -/
def applyB (a : List Ln) (l : List Ch) (L : List Ln) : Bool := orderedL a && orderedL L && (diffL a L == l)
end Go.Ab
namespace Go.Proofs.YtlbbepgfjigjpaaGreatDoor
open Go.RowKit Go.Ab
set_option maxHeartbeats 8000000 in
set_option maxRecDepth 100000 in
theorem deletefunc_any (M : List Ln) (v : Value) (W : World) (base : Nat) (o : Ln) (cb : Nat) (hcb : CbAt W cb o) (hown : W.ownsRow base 31 11 v M.length (M.flatMap Ln.cells)) (hne : ∀ g, v.ownBlock = some g → cb ≠ g) (hl : M.length ≤ 1000000000) :
    Calls Tryz.prog 62 #[v, .func (.func 63) #[] #[.pointer (some ⟨cb, 0, none⟩)]] W fun e w' => ∃ v', e = .returned v' ∧ w'.ownsRow base 31 11 v' (keepL o M).length ((keepL o M).flatMap Ln.cells) ∧ W.grownBy w' v.ownBlock ∧ v'.ownBlock = v.ownBlock := by
  have hown2 := hown
  obtain ⟨_, ⟨rfl, h0⟩ | ⟨g, cap, cur, rfl, _⟩⟩ := hown2
  · obtain rfl := List.length_eq_zero_iff.1 h0
    have hix := indexfunc_any [] _ W o cb hcb (RowOf.nil W) (by simp)
    have Hown := Lib.hid hown
    clear hown hne
    go_enter Tryz.func62, Tryz.ntmps62
    go_upto_region 2 with (go_at_call 91; refine hix.mono ?_; rintro e w' ⟨⟨k, x, hx, hxe, hxb, rfl⟩ | ⟨hall, rfl⟩, z0, rfl⟩)
    · cases hx
    · go_wp2_with fail
      go_ret
      exact ⟨_, rfl, World.ownsRow_nil _ _ _ _, up_grownBy (upI : Up W z0.w) _, rfl⟩
  · exact (deletefunc_row M g cap M.length base W o cb hcb rfl hown (hne g rfl) hl).mono fun e w' ⟨h1, h2, h3⟩ => ⟨_, h1, h2, h3, rfl⟩
set_option maxHeartbeats 32000000 in
set_option maxRecDepth 100000 in
theorem apply_any (a : List Ln) (l : List Ch) (va vl : Value) (w : World) (ha : LnRow w va a) (hv : ChRow w vl l) (ba : ∀ x ∈ a, LnB x) (bl : ∀ c ∈ l, LnB c.new) (la : a.length ≤ 100000) (ll : l.length ≤ 100000) :
    Calls Tryz.prog 33 #[va, vl] w fun e w' => (∃ L, (foldA a l).Perm L ∧ L.Pairwise (fun x y => x.cmp y ≤ 0) ∧
      (applyB a l L = true ∧ (∃ u, e = .returned (.tuple #[u, .int .i64 0]) ∧ w'.ownsRow w.heap.size 31 11 u L.length (L.flatMap Ln.cells)) ∨ applyB a l L = false ∧ e = .returned (.tuple #[.slice none 0 0, .int .i64 383]))) ∧ ∃ x : Ext w, w' = x.w := by
  have hA := fun (W : World) (u : UpI w W) => clone_any a va W (RowOf.up ha u.up) (by omega)
  have HA := Lib.hid ha
  have HVL := Lib.hid hv
  obtain ⟨p, cap, rfl, hle, hc⟩ := hv
  obtain ⟨N, hN⟩ : ∃ N, l.length = N := ⟨_, rfl⟩
  obtain ⟨A, hAl⟩ : ∃ A, a.length = A := ⟨_, rfl⟩
  rw [hN] at hle ll ⊢
  rw [hN] at HVL
  rw [hAl] at la
  have HN := Lib.hid hN
  have HAl := Lib.hid hAl
  have Hc := Lib.hid hc
  have Hba := Lib.hid ba
  have Hbl := Lib.hid bl
  clear hN hc ba bl hAl ha
  go_enter Tryz.func33, Tryz.ntmps33
  go_wp2_with (go_at_call 61; refine (hA _ inferInstance).mono ?_; rintro e w' ⟨u0, rfl, hown0, xc, rfl⟩)
  go_loopw [6, 15] (fun out i wr => ∃ (k : Nat) (M : List Ln), k ≤ N ∧ i = .int .i64 (k : Int) ∧ Hid (M = foldA a (l.take k)) ∧ M.length ≤ A + k ∧ Hid (∀ x ∈ M, LnB x) ∧ Hid (wr.ownsRow w.heap.size 31 11 out M.length (M.flatMap Ln.cells)) ∧ Up w wr) (fun _ i _ => N - (intOf i).toNat)
  case atStart => exact ⟨0, a, Nat.zero_le _, rfl, Lib.hid rfl, by rw [HAl.out]; omega, Hba, Lib.hid hown0, upI⟩
  case round =>
    clear hown0 hA
    obtain ⟨k, M, hk, rfl, HM, hMl, HMb, Hown, hu⟩ := hrel
    haveI : UpI w wr := ⟨hu⟩
    by_cases hlt : k < N
    · have hlt' : (k : Int) < (N : Int) := by omega
      have k0 : (0 : Int) ≤ (k : Int) := by omega
      obtain ⟨c, hx⟩ : ∃ c, l[k]? = some c := ⟨_, List.getElem?_eq_getElem (by rw [HN.out]; exact hlt)⟩
      obtain ⟨b1, o1, rfl, hb1, hc1⟩ := Hc.out k c hx
      have hX : wr.rangeAt b1 (o1 + k * 23) c.cells := fun j u hj => hu.cell_some (hc1 j u hj)
      have Hcn := Lib.hid (Hbl.out c (List.mem_of_getElem? hx))
      have HMs := Lib.hid (show foldA a (l.take (k + 1)) = stepA M c by rw [foldA_snoc a l k c hx, HM.out])
      clear hc1 hx
      go_upto_region 5 with (first
        | (refine wpList_load_mid rfl 44 _ rfl b1 (o1 + k * 23) rfl c.cells _ hX Tryz.underlying44 rfl chSize ?_)
        | (refine wpList_store_row rfl 44 _ _ rfl _ c.cells.toArray rfl rfl 44 _ (alloc_new rfl) chSize rfl (Array.all_eq_true_iff_forall_mem.2 (fun u hu => chg_one c u (by simpa using hu))) ?_))
      -- ROUND
      obtain ⟨n, hn⟩ : ∃ n, wr.heap.size = n := ⟨_, rfl⟩
      have hwn : w.heap.size ≤ n := by rw [← hn]; exact hu.size
      have hgb : ∀ g', u6.ownBlock = some g' → w.heap.size ≤ g' ∧ g' < n := by rw [← hn]; exact Hown.out.lt
      rw [hn]
      refine wp_letter (fun W => UpI wr W ∧ n < W.heap.size ∧ W.heap[n]? = some (.cells c.cells.toArray 44 (0, 0)))
        ⟨⟨up_setRowG ((Up.refl wr).alloc _) (by omega) _⟩, by rw [size_setRow, World.size_alloc]; omega, setRow_heap _ _ _ _ _ _ (alloc_new hn)⟩ ?_
      rintro W2 ⟨u2, hnW, hrn⟩
      have uw2 : Up w W2 := hu.trans u2.up
      haveI : UpI w W2 := ⟨uw2⟩
      haveI : LtSize n W2 := ⟨hnW⟩
      have Hown2 := Lib.hid (owns_up Hown.out u2.up)
      have hcell : ∀ (j : Nat) u, c.cells[j]? = some u → W2.cell? ⟨n, j, none⟩ = some u := fun j u hj => by rw [cell_of_row W2 n j _ _ _ hrn]; simpa using hj
      have hcb : CbAt W2 n c.old := ⟨hcell 1 _ rfl, hcell 2 _ rfl, hcell 3 _ rfl, hcell 4 _ rfl, hcell 5 _ rfl⟩
      have hD := deletefunc_any M u6 W2 w.heap.size c.old n hcb Hown2.out (fun g' h => by have := hgb g' h; omega) (by omega)
      obtain ⟨i0, hi, hy0, hy1, hy2⟩ := info_parts infoLine
      have Hi := Lib.hid hi; have Hy0 := Lib.hid hy0; have Hy1 := Lib.hid hy1; have Hy2 := Lib.hid hy2
      clear hi hy0 hy1 hy2 hX Hown u2 hu hn
      by_cases h1 : c.kind = 1
      · have hst : stepA M c = M ++ [c.new] := by unfold stepA; rw [if_pos h1, if_neg (by rw [h1]; decide)]
        have Hst := Lib.hid hst
        clear hst hD hcb
        have d0 := hcell 0 _ rfl; have d12 := hcell 12 _ rfl; have d13 := hcell 13 _ rfl; have d14 := hcell 14 _ rfl; have d15 := hcell 15 _ rfl; have d16 := hcell 16 _ rfl; have d17 := hcell 17 _ rfl; have d18 := hcell 18 _ rfl; have d19 := hcell 19 _ rfl; have d20 := hcell 20 _ rfl; have d21 := hcell 21 _ rfl; have d22 := hcell 22 _ rfl
        clear hcell hrn
        go_wp2_with (at_builtin; refine wpList_append_own _ rfl _ _ 22 rfl w.heap.size 31 i0 Ln.zero.val 11 40 Tryz.underlying22 Hi.out Hy0.out Hy1.out Hy2.out rfl (by decide) _ (M).length ((M).flatMap Ln.cells) rfl (owns_up Hown2.out ((Up.refl W2).alloc _)) ⟨W2.heap.size, 0, none⟩ 1 1 c.new.cells rfl rfl (ln_at W2 c.new _) (fun u h => c.new.one u h) (by unfold maxLen; omega) (by omega) (by rw [World.size_alloc]; have := (uw2 : Up w W2).size; omega) ?_; intro v' w1 hown' hgrow _)
        have hup1 : Up w w1 := Up.grown ((uw2 : Up w W2).alloc _) hgrow (fun g' h => owns_row Hown2.out g' h)
        have Hown' := Lib.hid hown'
        clear hown' hgrow
        go_wp2_with fail
        go_roundw
        case rel => exact ⟨k + 1, M ++ [c.new], by omega, by go_num, Lib.hid (by rw [HMs.out, Hst.out]), by rw [List.length_append, List.length_singleton]; omega, Lib.hid (fun x hx => by rcases List.mem_append.1 hx with hx | hx; exact HMb.out x hx; obtain rfl := List.mem_singleton.1 hx; exact Hcn.out), Lib.hid (by rw [List.length_append, List.flatMap_append, List.flatMap_singleton]; exact Hown'.out), hup1⟩
        case measure => simp [intOf]; omega
      · clear hcell
        have d0 : W2.cell? ⟨n, 0, none⟩ = some (.int .u8 c.kind) := by rw [cell_of_row W2 n 0 _ _ _ hrn]; rfl
        go_upto_region 7 with (go_at_call 62; refine hD.mono ?_; rintro e W3 ⟨v3, rfl, hown3, hgr, hvb⟩)
        have uw3 : Up w W3 := Up.grown uw2 hgr (fun g' h => (hgb g' h).1)
        have hrn3 := (hgr.block n hnW (fun e => by have := (hgb n e.symm).2; omega)).trans hrn
        have hn3 : n < W3.heap.size := Nat.lt_of_lt_of_le hnW hgr.size
        have hcell : ∀ (j : Nat) u, c.cells[j]? = some u → W3.cell? ⟨n, j, none⟩ = some u := fun j u hj => by rw [cell_of_row W3 n j _ _ _ hrn3]; simpa using hj
        haveI : UpI w W3 := ⟨uw3⟩
        haveI : LtSize n W3 := ⟨hn3⟩
        have Hown3 := Lib.hid hown3
        have hk1 := keepL_len c.old M
        clear d0 hD hcb hown3 hgr hvb hrn Hown2 uw2 hnW
        have d0 := hcell 0 _ rfl; have d12 := hcell 12 _ rfl; have d13 := hcell 13 _ rfl; have d14 := hcell 14 _ rfl; have d15 := hcell 15 _ rfl; have d16 := hcell 16 _ rfl; have d17 := hcell 17 _ rfl; have d18 := hcell 18 _ rfl; have d19 := hcell 19 _ rfl; have d20 := hcell 20 _ rfl; have d21 := hcell 21 _ rfl; have d22 := hcell 22 _ rfl
        clear hcell hrn3
        by_cases h2 : c.kind = 2
        · have hst : stepA M c = keepL c.old M := by unfold stepA; rw [if_neg h1, if_pos h2, List.append_nil]; rfl
          have Hst := Lib.hid hst
          clear hst
          go_wp2_with fail
          go_roundw
          case rel => exact ⟨k + 1, keepL c.old M, by omega, by go_num, Lib.hid (by rw [HMs.out, Hst.out]), by omega, Lib.hid (fun x hx => HMb.out x (keepL_sub _ _ _ hx)), Hown3, uw3⟩
          case measure => simp [intOf]; omega
        · have hst : stepA M c = keepL c.old M ++ [c.new] := by unfold stepA; rw [if_neg h1, if_neg h2]; rfl
          have Hst := Lib.hid hst
          clear hst
          go_wp2_with (at_builtin; refine wpList_append_own _ rfl _ _ 22 rfl w.heap.size 31 i0 Ln.zero.val 11 40 Tryz.underlying22 Hi.out Hy0.out Hy1.out Hy2.out rfl (by decide) _ (keepL c.old M).length ((keepL c.old M).flatMap Ln.cells) rfl (owns_up Hown3.out ((Up.refl W3).alloc _)) ⟨W3.heap.size, 0, none⟩ 1 1 c.new.cells rfl rfl (ln_at W3 c.new _) (fun u h => c.new.one u h) (by unfold maxLen; omega) (by omega) (by rw [World.size_alloc]; have := (uw3 : Up w W3).size; omega) ?_; intro v' w1 hown' hgrow _)
          have hup1 : Up w w1 := Up.grown ((uw3 : Up w W3).alloc _) hgrow (fun g' h => owns_row Hown3.out g' h)
          have Hown' := Lib.hid hown'
          clear hown' hgrow
          go_wp2_with fail
          go_roundw
          case rel => exact ⟨k + 1, keepL c.old M ++ [c.new], by omega, by go_num, Lib.hid (by rw [HMs.out, Hst.out]), by rw [List.length_append, List.length_singleton]; omega, Lib.hid (fun x hx => by rcases List.mem_append.1 hx with hx | hx; exact HMb.out x (keepL_sub _ _ _ hx); obtain rfl := List.mem_singleton.1 hx; exact Hcn.out), Lib.hid (by rw [List.length_append, List.flatMap_append, List.flatMap_singleton]; exact Hown'.out), hup1⟩
          case measure => simp [intOf]; omega
    · obtain rfl : k = N := by omega
      have hMf : M = foldA a l := by rw [HM.out, List.take_of_length_le (by rw [HN.out]; exact Nat.le_refl _)]
      have HMf := Lib.hid hMf
      have hs : ∀ W, UpI wr W → _ := fun W (u : UpI wr W) => dsort_any w.heap.size M HMb.out u6 W w (owns_up Hown.out u.up) (by omega) (hu.trans u.up) (Nat.le_refl _)
      clear hMf hlt hk
      go_upto_region 11 with (go_at_call 64; refine (hs _ inferInstance).mono ?_; rintro e w' ⟨rfl, L, hp, hpw, hown4, x4, rfl⟩)
      have hLb : ∀ x ∈ L, LnB x := fun x hx => HMb.out x (hp.mem_iff.2 hx)
      have hLl : L.length ≤ 200000 := by rw [← hp.length_eq]; omega
      have hrA : LnRow x4.w va a := RowOf.up HA.out x4.up
      have hrL : LnRow x4.w u6 L := LnRow.of_owns hown4
      have hAl2 : a.length ≤ 100000 := by rw [HAl.out]; exact la
      have hDl := diffL_len a L
      have Hown4 := Lib.hid hown4
      have Hp := Lib.hid (HMf.out ▸ hp : (foldA a l).Perm L)
      have Hpw := Lib.hid hpw
      clear hs hown4 hp hpw
      cases hord : (orderedL a && orderedL L)
      · have hdf : ∀ W, UpI x4.w W → Gives Tryz.prog 8 #[va, u6] W (.tuple #[.slice none 0 0, .int .i64 383]) := fun W u => ddiff_no a L va u6 W (RowOf.up hrA u.up) (RowOf.up hrL u.up) Hba.out hLb (by omega) (by omega) hord
        have HE := Lib.hid (show applyB a l L = false by unfold applyB; rw [hord]; rfl)
        clear hord hrA hrL
        go_wp2_with (go_at_call 8; refine (hdf _ inferInstance).mono ?_; rintro e w' ⟨rfl, z, rfl⟩)
        go_ret2
        exact ⟨⟨L, Hp.out, Hpw.out, .inr ⟨HE.out, rfl⟩⟩, mkI⟩
      · have ho : orderedL a = true ∧ orderedL L = true := by simpa using hord
        have hdf : ∀ W, UpI x4.w W → Calls Tryz.prog 8 #[va, u6] W fun e w' => ∃ u, e = .returned (.tuple #[u, .int .i64 0]) ∧ ChRow w' u (diffL a L) ∧ ∃ x : Ext W, w' = x.w := fun W u => (ddiff_yes a L va u6 W (RowOf.up hrA u.up) (RowOf.up hrL u.up) Hba.out hLb (by omega) (by omega) ho.1 ho.2).mono fun e w' ⟨v, h1, h2, h3⟩ => ⟨v, h1, ChRow.of_owns h2, h3⟩
        have heq : ∀ W v, UpI w W → ChRow W v (diffL a L) → Gives Tryz.prog 66 #[v, .slice p k cap] W (.bool (diffL a L == l)) := fun W v h h2 => equalch_any (diffL a L) l _ _ W h2 (RowOf.up HVL.out h.up) (by omega) (by rw [HN.out]; omega)
        have HB : Hid (applyB a l L = (diffL a L == l)) := Lib.hid (by unfold applyB; rw [hord]; rfl)
        clear hord ho hrA hrL
        cases hq : (diffL a L == l)
        · rw [hq] at heq HB
          clear hq
          go_wp2_with (first
            | (go_at_call 8; refine (hdf _ inferInstance).mono ?_; rintro e w' ⟨v, rfl, hvr, z, rfl⟩)
            | (go_at_call 66; refine (heq _ _ inferInstance (RowOf.up hvr upI)).mono ?_; rintro e w' ⟨rfl, z2, rfl⟩))
          go_ret2
          exact ⟨⟨L, Hp.out, Hpw.out, .inr ⟨HB.out, rfl⟩⟩, mkI⟩
        · rw [hq] at heq HB
          clear hq
          go_wp2_with (first
            | (go_at_call 8; refine (hdf _ inferInstance).mono ?_; rintro e w' ⟨v, rfl, hvr, z, rfl⟩)
            | (go_at_call 66; refine (heq _ _ inferInstance (RowOf.up hvr upI)).mono ?_; rintro e w' ⟨rfl, z2, rfl⟩))
          go_ret2
          exact ⟨⟨L, Hp.out, Hpw.out, .inl ⟨HB.out, _, rfl, owns_up Hown4.out upI⟩⟩, mkI⟩
end Go.Proofs.YtlbbepgfjigjpaaGreatDoor
