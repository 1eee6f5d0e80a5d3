/- Sets out of their bounds, and sets compared: the statements' own helpers. -/
import Derived.Test.YtgfkcbflnkpogaaGreatDoorSp12
import Derived.Test.YtgfkcbflnkpogaaGreatDoorStructEq
import Derived.Deep.RegionLaw
import Derived.Deep.RegionLawGrows
set_option linter.unusedSimpArgs false
set_option linter.unusedVariables false
namespace Go.Proofs.YtgfkcbflnkpogaaGreatDoor
open Go.RowKit Go.Ab
attribute [local go_sem high] wrapI64 wrapK64
theorem eq_span (w : World) (p M q N : Int) : (Op.equalIn 10000 39 (.agg #[.int .u32 p, .int .u32 M]) (.agg #[.int .u32 q, .int .u32 N])).run Tryz.prog w = .ok (p == q && M == N) w := by
  cases h : (p == q) <;> cases h2 : (M == N) <;> simp_all [go_sem]
attribute [local go_sem high] eq_span
set_option maxHeartbeats 8000000 in
set_option maxRecDepth 100000 in
theorem same_any (a b : List Sp) (va vb : Value) (w : World) (ra : SpRow w va a) (rb : SpRow w vb b) (la : a.length ≤ 1000000000) (lb : b.length ≤ 1000000000) : Gives Tryz.prog 26 #[va, vb] w (.bool (decide (a = b))) := by
  have Hca := Lib.hid (fun k x (h : a[k]? = some x) (p : Option Addr) (n cap : Nat) (e : va = .slice p n cap) => sp_at ra e h)
  have Hcb := Lib.hid (fun k x (h : b[k]? = some x) (p : Option Addr) (n cap : Nat) (e : vb = .slice p n cap) => sp_at rb e h)
  obtain ⟨p, cap, rfl, hle, _⟩ := ra
  obtain ⟨q, cbp, rfl, hlb, _⟩ := rb
  obtain ⟨N, hN⟩ : ∃ N, a.length = N := ⟨_, rfl⟩
  obtain ⟨M, hM⟩ : ∃ M, b.length = M := ⟨_, rfl⟩
  rw [hN] at hle la Hca ⊢
  rw [hM] at hlb lb Hcb ⊢
  have HN := Lib.hid hN; have HM := Lib.hid hM
  clear hN hM
  unfold Gives
  by_cases hl : N = M
  · have hl' : ((N : Int) != (M : Int)) = false := by subst hl; simp
    go_enter Tryz.func26, Tryz.ntmps26
    go_wp2_with fail
    go_loopw [13] (fun i wr => ∃ k : Nat, k ≤ N ∧ i = .int .i64 (k : Int) ∧ Hid (∀ j : Nat, j < k → a[j]? = b[j]?) ∧ ∃ x : Ext w, wr = x.w) (fun i _ => N - (intOf i).toNat)
    case atStart => exact ⟨0, Nat.zero_le _, rfl, Lib.hid (fun j hj => absurd hj (Nat.not_lt_zero j)), mkI⟩
    case round =>
      obtain ⟨k, hk, rfl, Hk, x0, rfl⟩ := hrel
      by_cases hlt : k < N
      · have hlt' : (k : Int) < (N : Int) := by omega
        have hltM : (k : Int) < (M : Int) := by omega
        have k0 : (0 : Int) ≤ (k : Int) := by omega
        obtain ⟨x, hx⟩ : ∃ x, a[k]? = some x := ⟨_, List.getElem?_eq_getElem (by rw [HN.out]; exact hlt)⟩
        obtain ⟨y, hy⟩ : ∃ y, b[k]? = some y := ⟨_, List.getElem?_eq_getElem (by rw [HM.out]; omega)⟩
        obtain ⟨b1, o1, rfl, hb1, c0, c1⟩ := Hca.out k x hx _ _ _ rfl
        obtain ⟨b2, o2, rfl, hb2, d0, d1⟩ := Hcb.out k y hy _ _ _ rfl
        haveI : LtSize b1 w := ⟨hb1⟩
        haveI : LtSize b2 w := ⟨hb2⟩
        have HX := Lib.hid hx; have HY := Lib.hid hy
        clear hx hy
        by_cases he : x = y
        · have hb : (x.1 == y.1 && x.2 == y.2) = true := by subst he; simp
          have Hk' : Hid (∀ j : Nat, j < k + 1 → a[j]? = b[j]?) := Lib.hid (fun j hj => by
            rcases Nat.lt_or_eq_of_le (Nat.le_of_lt_succ hj) with h | h
            · exact Hk.out j h
            · subst h; rw [HX.out, HY.out, he])
          clear he Hk
          go_wp2_with fail
          (refine wp_region_ext (by kernel_rfl) (by kernel_rfl) ?_; (repeat (go_big_quiet_step (fail))); refine wpQuiet_nil ?_; rintro _ ⟨y1, rfl⟩)
          go_wp2_with fail
          go_roundw
          case rel => exact ⟨k + 1, by omega, by go_num, Hk', mkI⟩
          case measure => simp [intOf]; omega
        · have hb : (x.1 == y.1 && x.2 == y.2) = false := by
            rw [Bool.eq_false_iff]
            intro h
            rw [Bool.and_eq_true, beq_iff_eq, beq_iff_eq] at h
            exact he (Prod.ext h.1 h.2)
          have E := Lib.hid (show decide (a = b) = false from decide_eq_false (fun e => he (by have := HX.out; rw [e, HY.out] at this; exact (Option.some.inj this).symm)))
          clear he Hk
          go_wp2_with fail
          (refine wp_region_ext (by kernel_rfl) (by kernel_rfl) ?_; (repeat (go_big_quiet_step (fail))); refine wpQuiet_nil ?_; rintro _ ⟨y1, rfl⟩)
          go_wp2_with fail
          go_ret
          exact ⟨ret_bool E.out.symm, mkI⟩
      · obtain rfl : k = N := by omega
        have E := Lib.hid (show decide (a = b) = true from decide_eq_true (List.ext_getElem? (fun j => by
          by_cases hj : j < k
          · exact Hk.out j hj
          · rw [List.getElem?_eq_none (by rw [HN.out]; omega), List.getElem?_eq_none (by rw [HM.out]; omega)])))
        go_wp2_with fail
        go_ret
        exact ⟨ret_bool E.out.symm, mkI⟩
  · have hl' : ((N : Int) != (M : Int)) = true := by simp; omega
    have E := Lib.hid (show decide (a = b) = false from decide_eq_false (fun e => hl (by rw [← HN.out, ← HM.out, e])))
    go_enter Tryz.func26, Tryz.ntmps26
    go_wp2_with fail
    go_ret
    exact ⟨ret_bool E.out.symm, mkI⟩
set_option maxHeartbeats 8000000 in
set_option maxRecDepth 100000 in
theorem spans_any (l : List Sp) (b n cap : Nat) (w : World) (hn : n = l.length * 2) (hnc : n ≤ cap) (hb : ∀ x ∈ l, SpB x) (hl : l.length ≤ 1000000) (hc : ∀ j u, (l.flatMap spCells)[j]? = some u → w.cell? ⟨b, j, none⟩ = some u) (hbw : b < w.heap.size) :
    Calls Tryz.prog 34 #[.slice (some ⟨b, 0, none⟩) n cap] w fun e w' => ∃ u, e = .returned u ∧ w'.ownsRow w.heap.size 39 2 u l.length (l.flatMap spCells) ∧ ∃ x : Ext w, w' = x.w := by
  obtain ⟨N, hN⟩ : ∃ N, l.length = N := ⟨_, rfl⟩
  rw [hN] at hl hn ⊢
  have HN := Lib.hid hN
  have Hc := Lib.hid hc
  have Hb := Lib.hid hb
  haveI : LtSize b w := ⟨hbw⟩
  obtain ⟨i0, hi, hy0, hy1, hy2⟩ := info_parts infoSpan
  have Hi := Lib.hid hi; have Hy0 := Lib.hid hy0; have Hy1 := Lib.hid hy1; have Hy2 := Lib.hid hy2
  have Hn := Lib.hid hn
  clear hi hy0 hy1 hy2 hN hc hb hn
  go_enter Tryz.func34, Tryz.ntmps34
  go_wp2_with fail
  go_loopw [3, 4] (fun v i wr => ∃ (k : Nat) (m : Int), k ≤ N ∧ i = .int .i64 m ∧ Hid (m = 2 * (k : Int)) ∧ Hid (wr.ownsRow w.heap.size 39 2 v k ((l.take k).flatMap spCells)) ∧ Up w wr) (fun _ i _ => 2 * N - (intOf i).toNat)
  case atStart => exact ⟨0, 0, Nat.zero_le _, rfl, Lib.hid rfl, Lib.hid (World.ownsRow_nil _ _ _ _), Up.refl _⟩
  case round =>
    obtain ⟨k, m, hk, rfl, Hm, Hown, hup⟩ := hrel
    have hm := Hm.out
    have hn := Hn.out
    haveI : UpI w wr := ⟨hup⟩
    by_cases hlt : k < N
    · obtain ⟨x, hx⟩ : ∃ x, l[k]? = some x := ⟨_, List.getElem?_eq_getElem (by rw [HN.out]; exact hlt)⟩
      obtain ⟨M, hM⟩ : ∃ M : Nat, k * 2 = M := ⟨_, rfl⟩
      have hmM : m = (M : Int) := by omega
      have c0 : wr.cell? ⟨b, M, none⟩ = some (.int .u32 x.1) := hup.cell_some (Hc.out _ _ (by rw [← hM]; have := flat_at (cells := spCells) (k := 2) (fun x => rfl) l k 0 x _ hx rfl; exact this))
      have c1 : wr.cell? ⟨b, M + 1, none⟩ = some (.int .u32 x.2) := hup.cell_some (Hc.out _ _ (by rw [← hM]; exact flat_at (cells := spCells) (k := 2) (fun x => rfl) l k 1 x _ hx rfl))
      haveI : LtSize b wr := ⟨Nat.lt_of_lt_of_le hbw hup.size⟩
      have HF := Lib.hid (show (l.take (k + 1)).flatMap spCells = (l.take k).flatMap spCells ++ spCells x by rw [List.take_add_one, hx]; simp)
      have hm2 : M + 1 < n := by omega
      have HmM := Lib.hid (show (M : Int) = 2 * (k : Int) by omega)
      subst hmM
      have M0 : (0 : Int) ≤ (M : Int) := by omega
      have hM1 : (M : Int) < (n : Int) := by omega
      have hM2 : (M : Int) + 1 < (n : Int) := by omega
      have hM3 : (0 : Int) ≤ (M : Int) + 1 := by omega
      have htn : ((M : Int) + 1).toNat = M + 1 := by omega
      haveI : In64 ((M : Int) + 1) := ⟨by omega⟩
      haveI : In64 ((M : Int) + 2) := ⟨by omega⟩
      clear hx hm hn hM Hm
      go_wp2_with fail
      go_region_law (refine step_append_own rfl _ _ 25 rfl w.heap.size 39 i0 (.agg #[.int .u32 0, .int .u32 0]) 2 8 Tryz.underlying25 Hi.out Hy0.out Hy1.out Hy2.out rfl (by decide) _ _ _ rfl (owns_up Hown.out ((Up.refl wr).drew.alloc _)) ⟨wr.heap.size, 0, none⟩ 1 1 (spCells x) rfl rfl (sp_atM wr.drew x _) (sp_one x) (by unfold maxLen; omega) (by omega) (by have := hup.size; simp; omega) ?_; intro v' w1 hown' hgrow; have HO := Lib.hid hown'; have HG := Lib.hid hgrow; clear hown' hgrow)
      all_goals
        have hup1 : Up w w1 := (((Up.refl w).trans hup).drew.alloc _).grown HG.out (owns_row Hown.out)
        have HO2 : Hid (w1.ownsRow w.heap.size 39 2 v' (k + 1) ((l.take (k + 1)).flatMap spCells)) := by rw [HF.out]; exact HO.out
        clear HG Hown HO
        go_wp2_with fail
        go_roundw
        case rel => exact ⟨k + 1, (M : Int) + 2, by omega, rfl, Lib.hid (by have := HmM.out; omega), HO2, hup1⟩
        case measure => have := HmM.out; simp [intOf]; omega
    · obtain rfl : k = N := by omega
      have e1 : l.take k = l := List.take_of_length_le (by rw [HN.out]; exact Nat.le_refl _)
      rw [e1] at Hown
      haveI : In64 (m + 1) := ⟨by omega⟩
      have hge : ¬ m + 1 < (n : Int) := by omega
      clear hm hn Hm
      go_wp2_with fail
      go_ret
      exact ⟨_, rfl, Hown.out, mkI⟩
end Go.Proofs.YtgfkcbflnkpogaaGreatDoor
