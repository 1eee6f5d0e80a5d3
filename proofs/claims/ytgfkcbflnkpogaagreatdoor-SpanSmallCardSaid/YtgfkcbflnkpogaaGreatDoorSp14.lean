/- Sets out of their bounds, and sets compared: the statements' own helpers. The statements' own check of the chapter's examples: awake of layer 4. -/
import Derived.Test.YtgfkcbflnkpogaaGreatDoorSp12
import Derived.Test.YtgfkcbflnkpogaaGreatDoorStructEq
import Derived.Deep.RegionLaw
import Derived.Deep.RegionLawGrows
set_option linter.unusedSimpArgs false
set_option linter.unusedVariables false
namespace Go.Proofs.YtgfkcbflnkpogaaGreatDoor
open Go.RowKit Go.Ab
attribute [local go_sem high] wrapI64 wrapK64
theorem eq_span (w : World) (p M q N : Int) : (Op.equalIn 10000 39 (.agg #[.int .u32 p, .int .u32 M]) (.agg #[.int .u32 q, .int .u32 N])).run Tryz.prog w = .ok (p == q && M == N) w := by
  cases h : (p == q) <;> cases h2 : (M == N) <;> simp_all [go_sem]
attribute [local go_sem high] eq_span
set_option maxHeartbeats 8000000 in
set_option maxRecDepth 100000 in
theorem same_any (a b : List Sp) (va vb : Value) (w : World) (ra : SpRow w va a) (rb : SpRow w vb b) (la : a.length ≤ 1000000000) (lb : b.length ≤ 1000000000) : Gives Tryz.prog 26 #[va, vb] w (.bool (decide (a = b))) := by
  have Hca := Lib.hid (fun k x (h : a[k]? = some x) (p : Option Addr) (n cap : Nat) (e : va = .slice p n cap) => sp_at ra e h)
  have Hcb := Lib.hid (fun k x (h : b[k]? = some x) (p : Option Addr) (n cap : Nat) (e : vb = .slice p n cap) => sp_at rb e h)
  obtain ⟨p, cap, rfl, hle, _⟩ := ra
  obtain ⟨q, cbp, rfl, hlb, _⟩ := rb
  obtain ⟨N, hN⟩ : ∃ N, a.length = N := ⟨_, rfl⟩
  obtain ⟨M, hM⟩ : ∃ M, b.length = M := ⟨_, rfl⟩
  rw [hN] at hle la Hca ⊢
  rw [hM] at hlb lb Hcb ⊢
  have HN := Lib.hid hN; have HM := Lib.hid hM
  clear hN hM
  unfold Gives
  by_cases hl : N = M
  · have hl' : ((N : Int) != (M : Int)) = false := by subst hl; simp
    go_enter Tryz.func26, Tryz.ntmps26
    go_wp2_with fail
    go_loopw [13] (fun i wr => ∃ k : Nat, k ≤ N ∧ i = .int .i64 (k : Int) ∧ Hid (∀ j : Nat, j < k → a[j]? = b[j]?) ∧ ∃ x : Ext w, wr = x.w) (fun i _ => N - (intOf i).toNat)
    case atStart => exact ⟨0, Nat.zero_le _, rfl, Lib.hid (fun j hj => absurd hj (Nat.not_lt_zero j)), mkI⟩
    case round =>
      obtain ⟨k, hk, rfl, Hk, x0, rfl⟩ := hrel
      by_cases hlt : k < N
      · have hlt' : (k : Int) < (N : Int) := by omega
        have hltM : (k : Int) < (M : Int) := by omega
        have k0 : (0 : Int) ≤ (k : Int) := by omega
        obtain ⟨x, hx⟩ : ∃ x, a[k]? = some x := ⟨_, List.getElem?_eq_getElem (by rw [HN.out]; exact hlt)⟩
        obtain ⟨y, hy⟩ : ∃ y, b[k]? = some y := ⟨_, List.getElem?_eq_getElem (by rw [HM.out]; omega)⟩
        obtain ⟨b1, o1, rfl, hb1, c0, c1⟩ := Hca.out k x hx _ _ _ rfl
        obtain ⟨b2, o2, rfl, hb2, d0, d1⟩ := Hcb.out k y hy _ _ _ rfl
        haveI : LtSize b1 w := ⟨hb1⟩
        haveI : LtSize b2 w := ⟨hb2⟩
        have HX := Lib.hid hx; have HY := Lib.hid hy
        clear hx hy
        by_cases he : x = y
        · have hb : (x.1 == y.1 && x.2 == y.2) = true := by subst he; simp
          have Hk' : Hid (∀ j : Nat, j < k + 1 → a[j]? = b[j]?) := Lib.hid (fun j hj => by
            rcases Nat.lt_or_eq_of_le (Nat.le_of_lt_succ hj) with h | h
            · exact Hk.out j h
            · subst h; rw [HX.out, HY.out, he])
          clear he Hk
          go_wp2_with fail
          (refine wp_region_ext (by kernel_rfl) (by kernel_rfl) ?_; (repeat (go_big_quiet_step (fail))); refine wpQuiet_nil ?_; rintro _ ⟨y1, rfl⟩)
          go_wp2_with fail
          go_roundw
          case rel => exact ⟨k + 1, by omega, by go_num, Hk', mkI⟩
          case measure => simp [intOf]; omega
        · have hb : (x.1 == y.1 && x.2 == y.2) = false := by
            rw [Bool.eq_false_iff]
            intro h
            rw [Bool.and_eq_true, beq_iff_eq, beq_iff_eq] at h
            exact he (Prod.ext h.1 h.2)
          have E := Lib.hid (show decide (a = b) = false from decide_eq_false (fun e => he (by have := HX.out; rw [e, HY.out] at this; exact (Option.some.inj this).symm)))
          clear he Hk
          go_wp2_with fail
          (refine wp_region_ext (by kernel_rfl) (by kernel_rfl) ?_; (repeat (go_big_quiet_step (fail))); refine wpQuiet_nil ?_; rintro _ ⟨y1, rfl⟩)
          go_wp2_with fail
          go_ret
          exact ⟨ret_bool E.out.symm, mkI⟩
      · obtain rfl : k = N := by omega
        have E := Lib.hid (show decide (a = b) = true from decide_eq_true (List.ext_getElem? (fun j => by
          by_cases hj : j < k
          · exact Hk.out j hj
          · rw [List.getElem?_eq_none (by rw [HN.out]; omega), List.getElem?_eq_none (by rw [HM.out]; omega)])))
        go_wp2_with fail
        go_ret
        exact ⟨ret_bool E.out.symm, mkI⟩
  · have hl' : ((N : Int) != (M : Int)) = true := by simp; omega
    have E := Lib.hid (show decide (a = b) = false from decide_eq_false (fun e => hl (by rw [← HN.out, ← HM.out, e])))
    go_enter Tryz.func26, Tryz.ntmps26
    go_wp2_with fail
    go_ret
    exact ⟨ret_bool E.out.symm, mkI⟩
set_option maxHeartbeats 8000000 in
set_option maxRecDepth 100000 in
theorem spans_any (l : List Sp) (b n cap : Nat) (w : World) (hn : n = l.length * 2) (hnc : n ≤ cap) (hb : ∀ x ∈ l, SpB x) (hl : l.length ≤ 1000000) (hc : ∀ j u, (l.flatMap spCells)[j]? = some u → w.cell? ⟨b, j, none⟩ = some u) (hbw : b < w.heap.size) :
    Calls Tryz.prog 34 #[.slice (some ⟨b, 0, none⟩) n cap] w fun e w' => ∃ u, e = .returned u ∧ w'.ownsRow w.heap.size 39 2 u l.length (l.flatMap spCells) ∧ ∃ x : Ext w, w' = x.w := by
  obtain ⟨N, hN⟩ : ∃ N, l.length = N := ⟨_, rfl⟩
  rw [hN] at hl hn ⊢
  have HN := Lib.hid hN
  have Hc := Lib.hid hc
  have Hb := Lib.hid hb
  haveI : LtSize b w := ⟨hbw⟩
  obtain ⟨i0, hi, hy0, hy1, hy2⟩ := info_parts infoSpan
  have Hi := Lib.hid hi; have Hy0 := Lib.hid hy0; have Hy1 := Lib.hid hy1; have Hy2 := Lib.hid hy2
  have Hn := Lib.hid hn
  clear hi hy0 hy1 hy2 hN hc hb hn
  go_enter Tryz.func34, Tryz.ntmps34
  go_wp2_with fail
  go_loopw [3, 4] (fun v i wr => ∃ (k : Nat) (m : Int), k ≤ N ∧ i = .int .i64 m ∧ Hid (m = 2 * (k : Int)) ∧ Hid (wr.ownsRow w.heap.size 39 2 v k ((l.take k).flatMap spCells)) ∧ Up w wr) (fun _ i _ => 2 * N - (intOf i).toNat)
  case atStart => exact ⟨0, 0, Nat.zero_le _, rfl, Lib.hid rfl, Lib.hid (World.ownsRow_nil _ _ _ _), Up.refl _⟩
  case round =>
    obtain ⟨k, m, hk, rfl, Hm, Hown, hup⟩ := hrel
    have hm := Hm.out
    have hn := Hn.out
    haveI : UpI w wr := ⟨hup⟩
    by_cases hlt : k < N
    · obtain ⟨x, hx⟩ : ∃ x, l[k]? = some x := ⟨_, List.getElem?_eq_getElem (by rw [HN.out]; exact hlt)⟩
      obtain ⟨M, hM⟩ : ∃ M : Nat, k * 2 = M := ⟨_, rfl⟩
      have hmM : m = (M : Int) := by omega
      have c0 : wr.cell? ⟨b, M, none⟩ = some (.int .u32 x.1) := hup.cell_some (Hc.out _ _ (by rw [← hM]; have := flat_at (cells := spCells) (k := 2) (fun x => rfl) l k 0 x _ hx rfl; exact this))
      have c1 : wr.cell? ⟨b, M + 1, none⟩ = some (.int .u32 x.2) := hup.cell_some (Hc.out _ _ (by rw [← hM]; exact flat_at (cells := spCells) (k := 2) (fun x => rfl) l k 1 x _ hx rfl))
      haveI : LtSize b wr := ⟨Nat.lt_of_lt_of_le hbw hup.size⟩
      have HF := Lib.hid (show (l.take (k + 1)).flatMap spCells = (l.take k).flatMap spCells ++ spCells x by rw [List.take_add_one, hx]; simp)
      have hm2 : M + 1 < n := by omega
      have HmM := Lib.hid (show (M : Int) = 2 * (k : Int) by omega)
      subst hmM
      have M0 : (0 : Int) ≤ (M : Int) := by omega
      have hM1 : (M : Int) < (n : Int) := by omega
      have hM2 : (M : Int) + 1 < (n : Int) := by omega
      have hM3 : (0 : Int) ≤ (M : Int) + 1 := by omega
      have htn : ((M : Int) + 1).toNat = M + 1 := by omega
      haveI : In64 ((M : Int) + 1) := ⟨by omega⟩
      haveI : In64 ((M : Int) + 2) := ⟨by omega⟩
      clear hx hm hn hM Hm
      go_wp2_with fail
      go_region_law (refine step_append_own rfl _ _ 25 rfl w.heap.size 39 i0 (.agg #[.int .u32 0, .int .u32 0]) 2 8 Tryz.underlying25 Hi.out Hy0.out Hy1.out Hy2.out rfl (by decide) _ _ _ rfl (owns_up Hown.out ((Up.refl wr).drew.alloc _)) ⟨wr.heap.size, 0, none⟩ 1 1 (spCells x) rfl rfl (sp_atM wr.drew x _) (sp_one x) (by unfold maxLen; omega) (by omega) (by have := hup.size; simp; omega) ?_; intro v' w1 hown' hgrow; have HO := Lib.hid hown'; have HG := Lib.hid hgrow; clear hown' hgrow)
      all_goals
        have hup1 : Up w w1 := (((Up.refl w).trans hup).drew.alloc _).grown HG.out (owns_row Hown.out)
        have HO2 : Hid (w1.ownsRow w.heap.size 39 2 v' (k + 1) ((l.take (k + 1)).flatMap spCells)) := by rw [HF.out]; exact HO.out
        clear HG Hown HO
        go_wp2_with fail
        go_roundw
        case rel => exact ⟨k + 1, (M : Int) + 2, by omega, rfl, Lib.hid (by have := HmM.out; omega), HO2, hup1⟩
        case measure => have := HmM.out; simp [intOf]; omega
    · obtain rfl : k = N := by omega
      have e1 : l.take k = l := List.take_of_length_le (by rw [HN.out]; exact Nat.le_refl _)
      rw [e1] at Hown
      haveI : In64 (m + 1) := ⟨by omega⟩
      have hge : ¬ m + 1 < (n : Int) := by omega
      clear hm hn Hm
      go_wp2_with fail
      go_ret
      exact ⟨_, rfl, Hown.out, mkI⟩
end Go.Proofs.YtgfkcbflnkpogaaGreatDoor
set_option linter.unusedSimpArgs false
set_option linter.unusedVariables false
namespace Go.Proofs.YtgfkcbflnkpogaaGreatDoor
open Go.RowKit Go.Ab
theorem sp_row {w : World} {base : Nat} {v : Value} {L : List Sp} (h : w.ownsRow base 39 2 v L.length (L.flatMap spCells)) : SpRow w v L := RowOf.of_owns (cells := spCells) (k := 2) (t := 39) (fun x => rfl) (base := base) h
theorem spB_of (l : List Sp) (h : l.all (fun x => decide (0 ≤ x.1) && decide (x.1 < 4294967296) && decide (0 ≤ x.2) && decide (x.2 < 4294967296)) = true) : ∀ x ∈ l, SpB x := fun x hx => by
  have := List.all_eq_true.1 h x hx
  simp only [Bool.and_eq_true, decide_eq_true_eq] at this
  exact ⟨this.1.1.1, this.1.1.2, this.1.2, this.2⟩
/-- A set out of the literal of its bounds. -/
theorem spans_lit (l : List Sp) (W : World) (t : TypeId) (hb : ∀ x ∈ l, SpB x) (hl : l.length ≤ 1000) (n : Nat) (hn : n = l.length * 2) :
    Calls Tryz.prog 34 #[.slice (some ⟨W.heap.size, 0, none⟩) n n] (W.alloc (.cells (l.flatMap spCells).toArray t)) fun e w' => ∃ p c, e = .returned (.slice p l.length c) ∧ Hid (SpRow w' (.slice p l.length c) l) ∧ ∃ x : Ext (W.alloc (.cells (l.flatMap spCells).toArray t)), w' = x.w :=
  (spans_any l W.heap.size n n _ hn (Nat.le_refl _) hb (by omega) (fun j u hj => by rw [World.cell?_alloc_at _ _ _ _ rfl]; simpa using hj) (by simp)).mono fun e w' ⟨u, he, ho, hx⟩ => by
    obtain ⟨p, c, rfl⟩ := owns_sliceN ho
    exact ⟨p, c, he, Lib.hid (sp_row ho), hx⟩
/-- What a call that makes a known set gives. -/
theorem GivesS.lit {f : FuncId} {args : Array Value} {w : World} {L : List Sp} (h : GivesS f args w L) : Calls Tryz.prog f args w fun e w' => ∃ p c, e = .returned (.tuple #[.slice p L.length c, .int .i64 0]) ∧ Hid (SpRow w' (.slice p L.length c) L) ∧ ∃ x : Ext w, w' = x.w :=
  Calls.mono h fun e w' ⟨u, he, ho, hx⟩ => by
    obtain ⟨p, c, rfl⟩ := owns_sliceN ho
    exact ⟨p, c, he, Lib.hid (sp_row ho), hx⟩
theorem spof_yes (l : List Sp) (v : Value) (w : World) (hv : SpRow w v l) (hb : ∀ x ∈ l, SpB x) (hl : l.length ≤ 4096) (h : badS l = false) : GivesS 22 #[v] w (ofL l) :=
  (spof_any l v w hv hb hl).mono fun e w' ⟨h1, h2⟩ => by
    rcases h1 with ⟨h3, _⟩ | ⟨_, u, h4, h5⟩
    · rw [h] at h3; cases h3
    · exact ⟨u, h4, h5, h2⟩
theorem same_yes (l : List Sp) (va vb : Value) (w : World) (ra : SpRow w va l) (rb : SpRow w vb l) (hl : l.length ≤ 1000000000) : Gives Tryz.prog 26 #[va, vb] w (.bool true) := (same_any l l va vb w ra rb hl hl).cast (by simp)
theorem spl_A (W : World) : Calls Tryz.prog 34 #[.slice (some ⟨W.heap.size, 0, none⟩) 8 8] (W.alloc (.cells #[.int .u32 5, .int .u32 7, .int .u32 1, .int .u32 2, .int .u32 3, .int .u32 3, .int .u32 7, .int .u32 9] 37)) fun e w' => ∃ p c, e = .returned (.slice p 4 c) ∧ Hid (SpRow w' (.slice p 4 c) [(5, 7), (1, 2), (3, 3), (7, 9)]) ∧ ∃ x : Ext (W.alloc (.cells #[.int .u32 5, .int .u32 7, .int .u32 1, .int .u32 2, .int .u32 3, .int .u32 3, .int .u32 7, .int .u32 9] 37)), w' = x.w := spans_lit [(5, 7), (1, 2), (3, 3), (7, 9)] W 37 (spB_of _ (by decide)) (by decide) 8 rfl
theorem spl_B (W : World) : Calls Tryz.prog 34 #[.slice (some ⟨W.heap.size, 0, none⟩) 2 2] (W.alloc (.cells #[.int .u32 1, .int .u32 3] 37)) fun e w' => ∃ p c, e = .returned (.slice p 1 c) ∧ Hid (SpRow w' (.slice p 1 c) [(1, 3)]) ∧ ∃ x : Ext (W.alloc (.cells #[.int .u32 1, .int .u32 3] 37)), w' = x.w := spans_lit [(1, 3)] W 37 (spB_of _ (by decide)) (by decide) 2 rfl
theorem spl_C (W : World) : Calls Tryz.prog 34 #[.slice (some ⟨W.heap.size, 0, none⟩) 2 2] (W.alloc (.cells #[.int .u32 4, .int .u32 6] 37)) fun e w' => ∃ p c, e = .returned (.slice p 1 c) ∧ Hid (SpRow w' (.slice p 1 c) [(4, 6)]) ∧ ∃ x : Ext (W.alloc (.cells #[.int .u32 4, .int .u32 6] 37)), w' = x.w := spans_lit [(4, 6)] W 37 (spB_of _ (by decide)) (by decide) 2 rfl
theorem spl_D (W : World) : Calls Tryz.prog 34 #[.slice (some ⟨W.heap.size, 0, none⟩) 4 4] (W.alloc (.cells #[.int .u32 1, .int .u32 5, .int .u32 9, .int .u32 9] 37)) fun e w' => ∃ p c, e = .returned (.slice p 2 c) ∧ Hid (SpRow w' (.slice p 2 c) [(1, 5), (9, 9)]) ∧ ∃ x : Ext (W.alloc (.cells #[.int .u32 1, .int .u32 5, .int .u32 9, .int .u32 9] 37)), w' = x.w := spans_lit [(1, 5), (9, 9)] W 37 (spB_of _ (by decide)) (by decide) 4 rfl
theorem spl_E (W : World) : Calls Tryz.prog 34 #[.slice (some ⟨W.heap.size, 0, none⟩) 2 2] (W.alloc (.cells #[.int .u32 4, .int .u32 9] 37)) fun e w' => ∃ p c, e = .returned (.slice p 1 c) ∧ Hid (SpRow w' (.slice p 1 c) [(4, 9)]) ∧ ∃ x : Ext (W.alloc (.cells #[.int .u32 4, .int .u32 9] 37)), w' = x.w := spans_lit [(4, 9)] W 37 (spB_of _ (by decide)) (by decide) 2 rfl
theorem spl_F (W : World) : Calls Tryz.prog 34 #[.slice (some ⟨W.heap.size, 0, none⟩) 2 2] (W.alloc (.cells #[.int .u32 1, .int .u32 6] 37)) fun e w' => ∃ p c, e = .returned (.slice p 1 c) ∧ Hid (SpRow w' (.slice p 1 c) [(1, 6)]) ∧ ∃ x : Ext (W.alloc (.cells #[.int .u32 1, .int .u32 6] 37)), w' = x.w := spans_lit [(1, 6)] W 37 (spB_of _ (by decide)) (by decide) 2 rfl
theorem spl_G (W : World) : Calls Tryz.prog 34 #[.slice (some ⟨W.heap.size, 0, none⟩) 4 4] (W.alloc (.cells #[.int .u32 1, .int .u32 3, .int .u32 7, .int .u32 7] 37)) fun e w' => ∃ p c, e = .returned (.slice p 2 c) ∧ Hid (SpRow w' (.slice p 2 c) [(1, 3), (7, 7)]) ∧ ∃ x : Ext (W.alloc (.cells #[.int .u32 1, .int .u32 3, .int .u32 7, .int .u32 7] 37)), w' = x.w := spans_lit [(1, 3), (7, 7)] W 37 (spB_of _ (by decide)) (by decide) 4 rfl
theorem spl_H (W : World) : Calls Tryz.prog 34 #[.slice (some ⟨W.heap.size, 0, none⟩) 4 4] (W.alloc (.cells #[.int .u32 1, .int .u32 3, .int .u32 5, .int .u32 9] 37)) fun e w' => ∃ p c, e = .returned (.slice p 2 c) ∧ Hid (SpRow w' (.slice p 2 c) [(1, 3), (5, 9)]) ∧ ∃ x : Ext (W.alloc (.cells #[.int .u32 1, .int .u32 3, .int .u32 5, .int .u32 9] 37)), w' = x.w := spans_lit [(1, 3), (5, 9)] W 37 (spB_of _ (by decide)) (by decide) 4 rfl
theorem spl_I (W : World) : Calls Tryz.prog 34 #[.slice (some ⟨W.heap.size, 0, none⟩) 4 4] (W.alloc (.cells #[.int .u32 4, .int .u32 5, .int .u32 9, .int .u32 9] 37)) fun e w' => ∃ p c, e = .returned (.slice p 2 c) ∧ Hid (SpRow w' (.slice p 2 c) [(4, 5), (9, 9)]) ∧ ∃ x : Ext (W.alloc (.cells #[.int .u32 4, .int .u32 5, .int .u32 9, .int .u32 9] 37)), w' = x.w := spans_lit [(4, 5), (9, 9)] W 37 (spB_of _ (by decide)) (by decide) 4 rfl
theorem spl_J (W : World) : Calls Tryz.prog 34 #[.slice (some ⟨W.heap.size, 0, none⟩) 4 4] (W.alloc (.cells #[.int .u32 0, .int .u32 0, .int .u32 4, .int .u32 4294967295] 37)) fun e w' => ∃ p c, e = .returned (.slice p 2 c) ∧ Hid (SpRow w' (.slice p 2 c) [(0, 0), (4, 4294967295)]) ∧ ∃ x : Ext (W.alloc (.cells #[.int .u32 0, .int .u32 0, .int .u32 4, .int .u32 4294967295] 37)), w' = x.w := spans_lit [(0, 0), (4, 4294967295)] W 37 (spB_of _ (by decide)) (by decide) 4 rfl
theorem spl_K (W : World) : Calls Tryz.prog 34 #[.slice (some ⟨W.heap.size, 0, none⟩) 2 2] (W.alloc (.cells #[.int .u32 0, .int .u32 4294967295] 37)) fun e w' => ∃ p c, e = .returned (.slice p 1 c) ∧ Hid (SpRow w' (.slice p 1 c) [(0, 4294967295)]) ∧ ∃ x : Ext (W.alloc (.cells #[.int .u32 0, .int .u32 4294967295] 37)), w' = x.w := spans_lit [(0, 4294967295)] W 37 (spB_of _ (by decide)) (by decide) 2 rfl
theorem aw_of (va : Value) (w : World) (ra : SpRow w va [(5, 7), (1, 2), (3, 3), (7, 9)]) : Calls Tryz.prog 22 #[va] w fun e w' => ∃ p c, e = .returned (.tuple #[.slice p 2 c, .int .i64 0]) ∧ Hid (SpRow w' (.slice p 2 c) [(1, 3), (5, 9)]) ∧ ∃ x : Ext w, w' = x.w := by
  have h := ((show ofL [(5, 7), (1, 2), (3, 3), (7, 9)] = [(1, 3), (5, 9)] by decide +kernel) ▸ spof_yes [(5, 7), (1, 2), (3, 3), (7, 9)] va w ra (spB_of _ (by decide)) (by decide) (by decide)).lit
  exact h
theorem aw_count (va : Value) (w : World) (ra : SpRow w va [(1, 3), (5, 9)]) : Gives Tryz.prog 17 #[va] w (.tuple #[.int .i64 8, .int .i64 0]) := (spcount_yes [(1, 3), (5, 9)] va w ra (spB_of _ (by decide)) (by decide) (by decide)).cast (by rw [show countL [(1, 3), (5, 9)] = 8 by decide])
theorem aw_union (va vb : Value) (w : World) (ra : SpRow w va [(1, 3)]) (rb : SpRow w vb [(4, 6)]) : Calls Tryz.prog 13 #[va, vb] w fun e w' => ∃ p c, e = .returned (.tuple #[.slice p 1 c, .int .i64 0]) ∧ Hid (SpRow w' (.slice p 1 c) [(1, 6)]) ∧ ∃ x : Ext w, w' = x.w := by
  have h := ((show unionL [(1, 3)] [(4, 6)] = [(1, 6)] by decide +kernel) ▸ spunion_yes [(1, 3)] [(4, 6)] va vb w ra rb (by decide) (by decide) (spB_of _ (by decide)) (spB_of _ (by decide)) (by decide) (by decide)).lit
  exact h
theorem aw_common (va vb : Value) (w : World) (ra : SpRow w va [(1, 5), (9, 9)]) (rb : SpRow w vb [(4, 9)]) : Calls Tryz.prog 14 #[va, vb] w fun e w' => ∃ p c, e = .returned (.tuple #[.slice p 2 c, .int .i64 0]) ∧ Hid (SpRow w' (.slice p 2 c) [(4, 5), (9, 9)]) ∧ ∃ x : Ext w, w' = x.w := by
  have h := ((show commonL [(1, 5), (9, 9)] [(4, 9)] = [(4, 5), (9, 9)] by decide +kernel) ▸ spcommon_yes [(1, 5), (9, 9)] [(4, 9)] va vb w ra rb (by decide) (by decide) (spB_of _ (by decide)) (spB_of _ (by decide)) (by decide) (by decide)).lit
  exact h
theorem aw_without (va vb : Value) (w : World) (ra : SpRow w va [(1, 5), (9, 9)]) (rb : SpRow w vb [(4, 9)]) : Calls Tryz.prog 15 #[va, vb] w fun e w' => ∃ p c, e = .returned (.tuple #[.slice p 1 c, .int .i64 0]) ∧ Hid (SpRow w' (.slice p 1 c) [(1, 3)]) ∧ ∃ x : Ext w, w' = x.w := by
  have h := ((show withoutL [(1, 5), (9, 9)] [(4, 9)] = [(1, 3)] by decide +kernel) ▸ spwithout_yes [(1, 5), (9, 9)] [(4, 9)] va vb w ra rb (by decide) (by decide) (spB_of _ (by decide)) (spB_of _ (by decide)) (by decide) (by decide)).lit
  exact h
theorem aw_others (va : Value) (w : World) (ra : SpRow w va [(1, 3)]) : Calls Tryz.prog 16 #[va] w fun e w' => ∃ p c, e = .returned (.tuple #[.slice p 2 c, .int .i64 0]) ∧ Hid (SpRow w' (.slice p 2 c) [(0, 0), (4, 4294967295)]) ∧ ∃ x : Ext w, w' = x.w := by
  have h := ((show othersL [(1, 3)] = [(0, 0), (4, 4294967295)] by decide +kernel) ▸ spothers_yes [(1, 3)] va w ra (by decide) (spB_of _ (by decide)) (by decide)).lit
  exact h
theorem aw_others0  (w : World)  : Calls Tryz.prog 16 #[.slice none 0 0] w fun e w' => ∃ p c, e = .returned (.tuple #[.slice p 1 c, .int .i64 0]) ∧ Hid (SpRow w' (.slice p 1 c) [(0, 4294967295)]) ∧ ∃ x : Ext w, w' = x.w := by
  have h := ((show othersL [] = [(0, 4294967295)] by decide +kernel) ▸ spothers_yes [] (.slice none 0 0) w (RowOf.nil w) (by decide) (spB_of _ (by decide)) (by decide)).lit
  exact h
theorem aw_prefixes (va : Value) (w : World) (ra : SpRow w va [(1, 6)]) : Calls Tryz.prog 20 #[va] w fun e w' => ∃ p c, e = .returned (.tuple #[.slice p 4 c, .int .i64 0]) ∧ ∃ x : Ext w, w' = x.w :=
  (spprefixes_yes [(1, 6)] va w ra (spB_of _ (by decide)) (by decide) (by decide)).mono fun e w' ⟨u, he, ho, hx⟩ => by
    rw [show (prefixesL [(1, 6)]).length = 4 by decide +kernel] at ho
    obtain ⟨p, c, rfl⟩ := owns_sliceN ho
    exact ⟨p, c, he, hx⟩
theorem aw_text (va : Value) (w : World) (g : Good w) (ra : SpRow w va [(1, 3), (7, 7)]) : Gives Tryz.prog 21 #[va] w (.tuple #[.string ⟨#[49, 45, 51, 44, 55]⟩, .int .i64 0]) := (sptext_yes [(1, 3), (7, 7)] va w g ra (spB_of _ (by decide)) (by decide) (by decide)).cast (by rw [show textS [(1, 3), (7, 7)] = [49, 45, 51, 44, 55] by decide +kernel])
theorem aw_read (t : List UInt8) (hne : t ≠ []) (hl : t.length ≤ 100) (h : readS t = none) (w : World) (g : Good w) : Gives Tryz.prog 28 #[.string ⟨t.toArray⟩] w (.tuple #[.slice none 0 0, .int .i64 40]) :=
  (spread_some t hne w g (by omega)).mono fun e w' ⟨h1, h2⟩ => ⟨by unfold ReadPost at h1; rw [h] at h1; exact h1, h2⟩
theorem aw_next4 (va : Value) (w : World) (ra : SpRow w va [(1, 3), (7, 7)]) : Gives Tryz.prog 24 #[va, .int .u32 4] w (.tuple #[.int .u32 7, .bool true]) := (spnext_any [(1, 3), (7, 7)] 4 va w ra (spB_of _ (by decide)) (by decide) (by decide) (by decide)).cast (by rw [show nextL [(1, 3), (7, 7)] 4 = (7, true) by decide])
theorem aw_next8 (va : Value) (w : World) (ra : SpRow w va [(1, 3), (7, 7)]) : Gives Tryz.prog 24 #[va, .int .u32 8] w (.tuple #[.int .u32 0, .bool false]) := (spnext_any [(1, 3), (7, 7)] 8 va w ra (spB_of _ (by decide)) (by decide) (by decide) (by decide)).cast (by rw [show nextL [(1, 3), (7, 7)] 8 = (0, false) by decide])
def badTexts : List (List UInt8) := [[51, 45, 49], [49, 45, 50, 44, 51], [55, 44, 49], [49, 45, 49], [48, 49], [49, 44]]
theorem badTexts_no : ∀ t ∈ badTexts, t ≠ [] ∧ t.length ≤ 100 ∧ readS t = none := by decide +kernel
set_option maxHeartbeats 64000000 in
set_option maxRecDepth 100000 in
theorem spawake_any (w : World) (g : Good w) : Gives Tryz.prog 11 #[] w (.bool true) := by
  unfold Gives
  go_enter Tryz.func11, Tryz.ntmps11
  go_wp2_with (first
    | (go_at_call 34; (with_reducible refine (spl_A _).mono ?_); rintro e w' ⟨pA, cA, rfl, HA, xA, rfl⟩)
    | (go_at_call 34; (with_reducible refine (spl_B _).mono ?_); rintro e w' ⟨pB, cB, rfl, HB, xB, rfl⟩)
    | (go_at_call 34; (with_reducible refine (spl_C _).mono ?_); rintro e w' ⟨pC, cC, rfl, HC, xC, rfl⟩)
    | (go_at_call 34; (with_reducible refine (spl_D _).mono ?_); rintro e w' ⟨pD, cD, rfl, HD, xD, rfl⟩)
    | (go_at_call 34; (with_reducible refine (spl_E _).mono ?_); rintro e w' ⟨pE, cE, rfl, HE, xE, rfl⟩)
    | (go_at_call 34; (with_reducible refine (spl_F _).mono ?_); rintro e w' ⟨pF, cF, rfl, HF, xF, rfl⟩)
    | (go_at_call 34; (with_reducible refine (spl_G _).mono ?_); rintro e w' ⟨pG, cG, rfl, HG, xG, rfl⟩)
    | (go_at_call 34; (with_reducible refine (spl_H _).mono ?_); rintro e w' ⟨pH, cH, rfl, HH, xH, rfl⟩)
    | (go_at_call 34; (with_reducible refine (spl_I _).mono ?_); rintro e w' ⟨pI, cI, rfl, HI, xI, rfl⟩)
    | (go_at_call 34; (with_reducible refine (spl_J _).mono ?_); rintro e w' ⟨pJ, cJ, rfl, HJ, xJ, rfl⟩)
    | (go_at_call 34; (with_reducible refine (spl_K _).mono ?_); rintro e w' ⟨pK, cK, rfl, HK, xK, rfl⟩)
    | (go_at_call 22; (with_reducible refine (aw_of _ xA.w HA.out).mono ?_); rintro e w' ⟨pa, ca, rfl, Ha, ya, rfl⟩)
    | (go_at_call 17; (with_reducible refine (aw_count _ ya.w Ha.out).mono ?_); rintro e w' ⟨rfl, yn, rfl⟩)
    | (go_at_call 13; (with_reducible refine (aw_union _ _ xC.w (HB.out.up upI) HC.out).mono ?_); rintro e w' ⟨pb, cb, rfl, Hb, yb, rfl⟩)
    | (go_at_call 14; (with_reducible refine (aw_common _ _ xE.w (HD.out.up upI) HE.out).mono ?_); rintro e w' ⟨pc, cc, rfl, Hc, yc, rfl⟩)
    | (go_at_call 15; (with_reducible refine (aw_without _ _ xE.w (HD.out.up upI) HE.out).mono ?_); rintro e w' ⟨pd, cd, rfl, Hd, yd, rfl⟩)
    | (go_at_call 16; (with_reducible refine (aw_others _ xB.w HB.out).mono ?_); rintro e w' ⟨pf, cf, rfl, Hf, yf, rfl⟩)
    | (go_at_call 16; (with_reducible refine (aw_others0 _).mono ?_); rintro e w' ⟨pg, cg, rfl, Hgg, yg, rfl⟩)
    | (go_at_call 20; (with_reducible refine (aw_prefixes _ xF.w HF.out).mono ?_); rintro e w' ⟨pp, cp, rfl, yp, rfl⟩)
    | (go_at_call 21; (with_reducible refine (aw_text _ xG.w (g.up upI) HG.out).mono ?_); rintro e w' ⟨rfl, yt, rfl⟩)
    | (go_at_call 26; (with_reducible refine (same_yes [(1, 3), (5, 9)] _ _ xH.w (Ha.out.up upI) HH.out (by decide) ).mono ?_); rintro e w' ⟨rfl, sH, rfl⟩)
    | (go_at_call 26; (with_reducible refine (same_yes [(1, 6)] _ _ xF.w (Hb.out.up upI) HF.out (by decide) ).mono ?_); rintro e w' ⟨rfl, sF, rfl⟩)
    | (go_at_call 26; (with_reducible refine (same_yes [(4, 5), (9, 9)] _ _ xI.w (Hc.out.up upI) HI.out (by decide) ).mono ?_); rintro e w' ⟨rfl, sI, rfl⟩)
    | (go_at_call 26; (with_reducible refine (same_yes [(1, 3)] _ _ xB.w (Hd.out.up upI) HB.out (by decide) ).mono ?_); rintro e w' ⟨rfl, sB, rfl⟩)
    | (go_at_call 26; (with_reducible refine (same_yes [(0, 0), (4, 4294967295)] _ _ xJ.w (Hf.out.up upI) HJ.out (by decide) ).mono ?_); rintro e w' ⟨rfl, sJ, rfl⟩)
    | (go_at_call 26; (with_reducible refine (same_yes [(0, 4294967295)] _ _ xK.w (Hgg.out.up upI) HK.out (by decide) ).mono ?_); rintro e w' ⟨rfl, sK, rfl⟩))
  obtain ⟨B, hB⟩ : ∃ B, sK.w.heap.size = B := ⟨_, rfl⟩
  refine wp_letterS (fun Z => Up w Z ∧ B < Z.heap.size ∧ ∀ (j : Nat) t, badTexts[j]? = some t → Z.cell? ⟨B, j, none⟩ = some (.string ⟨t.toArray⟩)) ?hst ?_
  case hst =>
    subst hB
    refine ⟨upI, by simp, fun j t h => ?_⟩
    rw [World.cell?_alloc_at _ _ _ _ rfl]
    show ((badTexts.map fun t => Value.string ⟨t.toArray⟩).toArray)[j]? = _
    simp [h]
  rw [hB]
  rintro Z ⟨uZ, hBZ, hcs⟩
  haveI : UpI w Z := ⟨uZ⟩
  clear hB HA HB HC HD HE HF HG HH HI HJ HK Ha Hb Hc Hd Hf Hgg
  go_loopw [162] (fun i wr => ∃ k : Nat, k ≤ 6 ∧ i = .int .i64 (k : Int) ∧ Up Z wr) (fun i _ => 6 - (intOf i).toNat)
  case atStart => exact ⟨0, Nat.zero_le _, rfl, Up.refl _⟩
  case round =>
    obtain ⟨k, hk, rfl, hup⟩ := hrel
    haveI : UpI Z wr := ⟨hup⟩
    haveI : UpI w wr := ⟨uZ.trans hup⟩
    by_cases hlt : k < 6
    · have hlt' : (k : Int) < 6 := by omega
      have k0 : (0 : Int) ≤ (k : Int) := by omega
      obtain ⟨t, ht⟩ : ∃ t, badTexts[k]? = some t := ⟨_, List.getElem?_eq_getElem hlt⟩
      have c0 := hup.cell_some (hcs k t ht)
      haveI : LtSize B wr := ⟨Nat.lt_of_lt_of_le hBZ hup.size⟩
      obtain ⟨t1, t2, t3⟩ := badTexts_no t (List.mem_of_getElem? ht)
      have HR := Lib.hid (fun W (u : UpI w W) => aw_read t t1 t2 t3 W (g.up u.up))
      clear ht t1 t2 t3 hcs
      go_wp2_with (go_at_call 28; refine (HR.out _ inferInstance).mono ?_; clear HR; rintro e w' ⟨rfl, y, rfl⟩)
      go_roundw
      case rel => exact ⟨k + 1, by omega, by go_num, upI⟩
      case measure => simp [intOf]; omega
    · obtain rfl : k = 6 := by omega
      go_wp2_with (first
        | (go_at_call 34; (with_reducible refine (spl_G _).mono ?_); rintro e w' ⟨pG, cG, rfl, HG, xG, rfl⟩)
        | (go_at_call 24; (with_reducible refine (aw_next4 _ xG.w HG.out).mono ?_); rintro e w' ⟨rfl, yn4, rfl⟩)
        | (go_at_call 24; (with_reducible refine (aw_next8 _ xG.w HG.out).mono ?_); rintro e w' ⟨rfl, yn8, rfl⟩))
      go_ret
      exact ⟨rfl, mkI⟩
end Go.Proofs.YtgfkcbflnkpogaaGreatDoor
