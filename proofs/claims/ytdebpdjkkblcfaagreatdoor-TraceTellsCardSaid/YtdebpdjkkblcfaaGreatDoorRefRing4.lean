/- The reference's ring of layer 41: an event put behind others. -/
import Derived.Test.YtdebpdjkkblcfaaGreatDoorRefRing3
namespace Go.Ab
theorem evCells_len (l : List Ev) : (evCells l).length = l.length * 8 := by
  induction l with
  | nil => rfl
  | cons x t ih => rw [evCells, List.flatMap_cons, List.length_append, ← evCells, ih, List.length_cons]; simp [Ev.cells]; omega
theorem addr_add (g j : Nat) : (⟨g, 0, none⟩ : Addr).add j = ⟨g, j, none⟩ := by
  unfold Addr.add
  split <;> simp_all
end Go.Ab
namespace Go.Proofs.YtdebpdjkkblcfaaGreatDoor
open Go.RowKit Go.Ab
set_option maxHeartbeats 32000000 in
set_option maxRecDepth 100000 in
theorem rput_more (w : World) (size : Int) (base t g0 cap : Nat) (E : List Ev) (ho : w.ownsRow base 37 8 (.slice (some ⟨g0, 0, none⟩) (t + 1) cap) (t + 1) (evCells E)) (hN : E.length = t + 1) (hl : t ≤ 900000) (e : Ev) (eb : EvB e) (hri : e.right = true) (q : Ev) (hq : E[t]? = some q) (hqe : q.n ≤ e.n) :
    Calls Tryz.prog 30 #[.agg #[.int .i64 size, .slice (some ⟨g0, 0, none⟩) (t + 1) cap], e.val] w fun en w' => ∃ u, en = .returned (.tuple #[.agg #[.int .i64 size, u], .int .i64 ((t : Int) + 1), .int .i64 0]) ∧
      w'.ownsRow w.heap.size 37 8 u (t + 1 + 1) (evCells E ++ e.cells) ∧ ∃ x : Ext w, w' = x.w := by
  obtain ⟨i0, hi, hy0, hy1, hy2⟩ := info_parts infoREvent
  have Hi := Lib.hid hi; have Hy0 := Lib.hid hy0; have Hy1 := Lib.hid hy1; have Hy2 := Lib.hid hy2
  clear hi hy0 hy1 hy2
  obtain ⟨_, _, hge, _, hglt, _, hcells⟩ := owns_cells ho (by omega)
  simp only [Value.slice.injEq, Option.some.injEq, Addr.mk.injEq, and_true, true_and] at hge
  obtain ⟨rfl, rfl⟩ := hge
  have c0 := hcells _ _ (evCells_at E t 0 q _ hq rfl)
  rw [Nat.add_zero] at c0
  have Hc := Lib.hid hcells
  have Hl := Lib.hid (evCells_len E)
  rw [hN] at Hl
  haveI : LtSize g0 w := ⟨hglt⟩
  generalize q.n = qn at *
  have hbk : decide (e.n < qn) = false := by simp; omega
  have t0 : (0 : Int) ≤ (t : Int) := by omega
  have t1 : (t : Int) ≤ 900000 := by omega
  have t2 : (t : Int) + 1 - 1 = (t : Int) := by omega
  clear hcells ho hN hq hqe
  obtain ⟨n, sd, r, pr, s, d, sp, dp⟩ := e
  have hrt : ∀ w', Gives Tryz.prog 24 #[.agg #[.int .i64 n, .int .u8 sd, .int .u8 r, .int .u8 pr, .int .u32 s, .int .u32 d, .int .u16 sp, .int .u16 dp]] w' (.bool true) := fun w' => (rright_any n sd r pr s d sp dp w' eb.sd0 eb.sd1 eb.r0 eb.r1).cast (by rw [show rightEv n sd r pr s d sp dp = true from hri])
  clear hri eb
  unfold Ev.val
  simp only at hbk ⊢
  go_enter Tryz.func30, Tryz.ntmps30
  go_wp2_with (first
    | (go_at_call 24; refine (hrt _).mono ?_; rintro e w' ⟨rfl, x, rfl⟩))
  (refine wp_region_ext (by kernel_rfl) (by kernel_rfl) ?_; (repeat (go_big_quiet_step (fail))); refine wpQuiet_nil ?_; rintro _ ⟨y, rfl⟩)
  go_upto_region 6 with fail
  have f0 : y.w.cell? ⟨w.heap.size, 0, none⟩ = some (.int .i64 size) := by simp [go_sem]
  have f1 : y.w.cell? ⟨w.heap.size, 1, none⟩ = some (.slice (some ⟨g0, 0, none⟩) (t + 1) cap) := by simp [go_sem]
  have f2 : y.w.frozen? ⟨w.heap.size, 1, none⟩ = false := by simp [go_sem]
  have e0 : y.w.cell? ⟨w.heap.size + 1, 0, none⟩ = some (.int .i64 n) := by simp [go_sem]
  have e1 : y.w.cell? ⟨w.heap.size + 1, 1, none⟩ = some (.int .u8 sd) := by simp [go_sem]
  have e2 : y.w.cell? ⟨w.heap.size + 1, 2, none⟩ = some (.int .u8 r) := by simp [go_sem]
  have e3 : y.w.cell? ⟨w.heap.size + 1, 3, none⟩ = some (.int .u8 pr) := by simp [go_sem]
  have e4 : y.w.cell? ⟨w.heap.size + 1, 4, none⟩ = some (.int .u32 s) := by simp [go_sem]
  have e5 : y.w.cell? ⟨w.heap.size + 1, 5, none⟩ = some (.int .u32 d) := by simp [go_sem]
  have e6 : y.w.cell? ⟨w.heap.size + 1, 6, none⟩ = some (.int .u16 sp) := by simp [go_sem]
  have e7 : y.w.cell? ⟨w.heap.size + 1, 7, none⟩ = some (.int .u16 dp) := by simp [go_sem]
  have k0 : y.w.cell? ⟨w.heap.size + 1 + 1, 0, none⟩ = some (.int .i64 0) := by simp [go_sem]
  have k1 : y.w.cell? ⟨w.heap.size + 1 + 1, 1, none⟩ = some (.slice none 0 0) := by simp [go_sem]
  have k2 : y.w.frozen? ⟨w.heap.size + 1 + 1, 0, none⟩ = false := by simp [go_sem]
  have k3 : y.w.frozen? ⟨w.heap.size + 1 + 1, 1, none⟩ = false := by simp [go_sem]
  have uY : UpI w y.w := inferInstance
  generalize y.w = Y at *
  obtain ⟨B, hB⟩ : ∃ B, w.heap.size = B := ⟨_, rfl⟩
  have geB : GeSize w B := ⟨by omega⟩
  have hWY := uY.up.size
  rw [hB] at f0 f1 f2 e0 e1 e2 e3 e4 e5 e6 e7 k0 k1 k2 k3 ⊢
  have Hcy : Hid (∀ j u, (evCells E)[j]? = some u → Y.cell? ⟨g0, j, none⟩ = some u) := fun j u hu => uY.up.cell_some' (Hc.out j u hu)
  haveI : LtSize B Y := ⟨cell_lt' f0⟩
  haveI : LtSize (B + 1) Y := ⟨cell_lt' e0⟩
  haveI : LtSize (B + 1 + 1) Y := ⟨cell_lt' k0⟩
  go_cut [36] (fun v36 wx => ∃ g1 c1, Hid (wx.ownsRow Y.heap.size 37 8 (.slice (some ⟨g1, 0, none⟩) (t + 1 + 1) c1) (t + 1 + 1) (evCells E ++ Ev.cells ⟨n, sd, r, pr, s, d, sp, dp⟩)) ∧ UpI w wx ∧ B + 1 + 1 < Y.heap.size ∧ Y.heap.size ≤ wx.heap.size ∧
    wx.cell? ⟨B, 0, none⟩ = some (.int .i64 size) ∧ wx.cell? ⟨B, 1, none⟩ = some (.slice (some ⟨g1, 0, none⟩) (t + 1 + 1) c1) ∧ wx.cell? ⟨B + 1 + 1, 0, none⟩ = some (.int .i64 0) ∧ wx.cell? ⟨B + 1 + 1, 1, none⟩ = some (.slice none 0 0) ∧ wx.frozen? ⟨B + 1 + 1, 0, none⟩ = false ∧ wx.frozen? ⟨B + 1 + 1, 1, none⟩ = false)
  case first =>
    go_region_law (first
      | (refine step_append_mine rfl _ _ 67 rfl Y.heap.size 37 i0 Ev.zero.val 8 32 Tryz.underlying67 Hi.out Hy0.out Hy1.out Hy2.out rfl (by decide) _ (t + 1) (evCells E) rfl (owns_up HO1.out upI) ⟨_, 0, none⟩ 1 _ (Ev.cells ⟨n, sd, r, pr, s, d, sp, dp⟩) rfl rfl (fun j u hj => by rcases ev8 _ j u hj with ⟨rfl, rfl⟩ | ⟨rfl, rfl⟩ | ⟨rfl, rfl⟩ | ⟨rfl, rfl⟩ | ⟨rfl, rfl⟩ | ⟨rfl, rfl⟩ | ⟨rfl, rfl⟩ | ⟨rfl, rfl⟩ <;> simp [Addr.add, go_sem]) (ev8_one _) (by unfold maxLen; omega) (by omega) (upI : Up Y _).size ?_; intro v1 w1 hown hgrow; replace hown : w1.ownsRow Y.heap.size 37 8 v1 (t + 1 + 1) (evCells E ++ (Ev.cells ⟨n, sd, r, pr, s, d, sp, dp⟩)) := (by simpa using hown); obtain ⟨g1, c1, rfl, hg1⟩ := owns_slice hown; obtain ⟨x2, rfl⟩ := (Up.grown (upI : Up Y _) hgrow (own_ge (by omega))).mk; have HO2 := Lib.hid hown; clear hown hgrow)
      | (refine step_append_grows rfl _ _ 67 rfl 37 i0 Ev.zero.val 8 32 Tryz.underlying67 Hi.out Hy0.out Hy1.out Hy2.out rfl (by decide) (some ⟨_, 0, none⟩) 0 0 [] rfl (by simp) rfl (by intro b _ j u h; simp at h) ⟨g0, 0, none⟩ (t + 1) _ (evCells E) rfl Hl.out (fun j u hj => by rw [addr_add]; exact (upI : Up Y _).cell_some' (Hcy.out j u hj)) (evCells_one _) (by omega) (by unfold maxLen; omega) (by omega) ?_; intro v1 w1 hown hgrow; replace hown := owns_base hown (show Y.heap.size ≤ _ from (upI : Up Y _).size); rw [Nat.zero_add, List.nil_append] at hown; obtain ⟨g0', c0', rfl, hg0'⟩ := owns_slice hown; obtain ⟨x1, rfl⟩ := (Up.grown (Up.refl _) hgrow (fun k hk => by cases hk)).mk; have HO1 := Lib.hid hown; clear hown hgrow))
    all_goals (go_wp2_with fail; go_meet; exact ⟨g1, c1, Lib.hid (owns_setBlock HO2.out (show B < Y.heap.size from cell_lt' f0) _), inferInstance, cell_lt' k0, by rw [World.size_setCell]; exact (upI : Up Y x2.w).size, by simp [go_sem, f0], by simp [go_sem, f1], by simp [go_sem, k0], by simp [go_sem, k1], by simp [go_sem, k2], by simp [go_sem, k3]⟩)
  case rest =>
    obtain ⟨g1, c1, HO, hu, hlt, hge, d0, d1, d2, d3, d4, d5⟩ := hcut
    haveI := hu
    go_wp2_with fail
    refine bodyPost_ret (v := Value.tuple #[.agg #[.int .i64 size, .slice (some ⟨g1, 0, none⟩) (t + 1 + 1) c1], .int .i64 ((t : Int) + 1), .int .i64 0]) (by simp [results, Tryz.results30, go_sem, d2, d3]) rfl ?_
    refine ⟨_, rfl, ?_, (upI : Up w _).mk⟩
    have h2 := owns_base (owns_setBlock (owns_setBlock HO.out (a := ⟨B + 1 + 1, 0, none⟩) hlt (.int .i64 size)) (a := ⟨B + 1 + 1, 1, none⟩) hlt (.slice (some ⟨g1, 0, none⟩) (t + 1 + 1) c1)) hWY
    exact h2
end Go.Proofs.YtdebpdjkkblcfaaGreatDoor
