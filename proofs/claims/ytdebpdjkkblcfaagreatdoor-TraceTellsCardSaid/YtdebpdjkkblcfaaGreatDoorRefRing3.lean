/- The reference's ring of layer 41: an event put that is taken. -/
import Derived.Test.YtdebpdjkkblcfaaGreatDoorRefRing2
namespace Go.Ab
open Go.RowKit
theorem step_append_mine {P : Program} {ops : Array Oper} {o : Oper} {a : Act} {w : World} {K : Act → World → Prop} {Q : Exit → Act → World → Prop} {E : Prop} (hgd : o.guard = none) (s x : Operand) (t : TypeId)
    (ho : o.op = .call { callee := .builtin .append, args := #[s, x], argTypes := #[t, t] })
    (base : Nat) (e : TypeId) (i : TypeInfo) (z : Value) (size bytes : Nat) (ht : P.underlying t = some (.slice e)) (hi : P.info? e = some i) (hz : i.zero = some z)
    (hsize : i.size = size) (hby : i.bytes = bytes) (hzs : z.cells.size = size) (hsz : 0 < size)
    (v : Value) (n : Nat) (xs : List Value) (hs : a.eval s = v) (hown : w.ownsRow base e size v n xs)
    (ad : Addr) (m c : Nat) (news : List Value) (hx : a.eval x = .slice (some ad) m c) (hl : news.length = m * size) (hnews : ∀ j u, news[j]? = some u → w.cell? (ad.add j) = some u) (h1 : ∀ u ∈ news, u.oneCell' = true)
    (h63 : n + m ≤ maxLen) (hbytes : (n + m) * bytes ≤ 140737488355328) (hbase : base ≤ w.heap.size)
    (h : ∀ v' w', w'.ownsRow base e size v' (n + m) (xs ++ news) → w.grownBy w' v.ownBlock → K (a.put o.dst v') w') :
    if Region.wanted o (yielded ops a.tmps) = true then Oper.wp P o a w K Q else E := by
  have hw : Region.wanted o (yielded ops a.tmps) = true := by simp [Region.wanted, hgd]
  rw [if_pos hw]
  exact wp_append_own w s x t ho base e i z size bytes ht hi hz hsize hby hzs hsz v n xs hs hown ad m c news hx hl hnews h1 h63 hbytes hbase fun v' w' h2 h3 _ => h v' w' h2 h3
theorem own_ge {base g n c : Nat} (h : base ≤ g) : ∀ k, Value.ownBlock (.slice (some ⟨g, 0, none⟩) n c) = some k → base ≤ k := fun k hk => by cases hk; exact h
theorem fresh_row (W : World) (t : TypeId) (size : Nat) (W' : World) (h : UpI (W.alloc (.cells #[] t)) W') (base g : Nat) (hg : W.heap.size = g) (hb : base ≤ g) : W'.ownsRow base t size (.slice (some ⟨g, 0, none⟩) 0 0) 0 [] := by
  subst hg
  exact owns_up (World.ownsRow_made W #[] 0 hb (by decide) (by simp)) h.up
end Go.Ab
namespace Go.Ab
theorem ev8 (e : Ev) (j : Nat) (u : Value) (h : e.cells[j]? = some u) : (j = 0 ∧ u = .int .i64 e.n) ∨ (j = 1 ∧ u = .int .u8 e.sd) ∨ (j = 2 ∧ u = .int .u8 e.r) ∨ (j = 3 ∧ u = .int .u8 e.pr) ∨ (j = 4 ∧ u = .int .u32 e.s) ∨ (j = 5 ∧ u = .int .u32 e.d) ∨ (j = 6 ∧ u = .int .u16 e.sp) ∨ (j = 7 ∧ u = .int .u16 e.dp) := by
  have hj8 : j < 8 := (List.getElem?_eq_some_iff.1 h).1
  rcases (by omega : j = 0 ∨ j = 1 ∨ j = 2 ∨ j = 3 ∨ j = 4 ∨ j = 5 ∨ j = 6 ∨ j = 7) with rfl | rfl | rfl | rfl | rfl | rfl | rfl | rfl
  all_goals (simp [Ev.cells] at h; simp [h])
theorem ev8_one (e : Ev) : ∀ u ∈ e.cells, u.oneCell' = true := by
  intro u hu
  simp [Ev.cells] at hu
  rcases hu with rfl | rfl | rfl | rfl | rfl | rfl | rfl | rfl <;> rfl
theorem evCells_one (l : List Ev) : ∀ u ∈ evCells l, u.oneCell' = true := by
  intro u hu
  obtain ⟨e, _, he⟩ := List.mem_flatMap.1 hu
  exact ev8_one e u he
end Go.Ab
namespace Go.Proofs.YtdebpdjkkblcfaaGreatDoor
open Go.RowKit Go.Ab
set_option maxHeartbeats 32000000 in
set_option maxRecDepth 100000 in
theorem rput_first (w : World) (size : Int) (e : Ev) (eb : EvB e) (hri : e.right = true) :
    Calls Tryz.prog 30 #[.agg #[.int .i64 size, .slice none 0 0], e.val] w fun en w' => ∃ u, en = .returned (.tuple #[.agg #[.int .i64 size, u], .int .i64 0, .int .i64 0]) ∧
      w'.ownsRow w.heap.size 37 8 u 1 e.cells ∧ ∃ x : Ext w, w' = x.w := by
  obtain ⟨i0, hi, hy0, hy1, hy2⟩ := info_parts infoREvent
  have Hi := Lib.hid hi; have Hy0 := Lib.hid hy0; have Hy1 := Lib.hid hy1; have Hy2 := Lib.hid hy2
  clear hi hy0 hy1 hy2
  obtain ⟨n, sd, r, pr, s, d, sp, dp⟩ := e
  have hrt : ∀ w', Gives Tryz.prog 24 #[.agg #[.int .i64 n, .int .u8 sd, .int .u8 r, .int .u8 pr, .int .u32 s, .int .u32 d, .int .u16 sp, .int .u16 dp]] w' (.bool true) := fun w' => (rright_any n sd r pr s d sp dp w' eb.sd0 eb.sd1 eb.r0 eb.r1).cast (by rw [show rightEv n sd r pr s d sp dp = true from hri])
  clear hri eb
  unfold Ev.val
  simp only
  go_enter Tryz.func30, Tryz.ntmps30
  go_wp2_with (first
    | (go_at_call 24; refine (hrt _).mono ?_; rintro e w' ⟨rfl, x, rfl⟩))
  (refine wp_region_ext (by kernel_rfl) (by kernel_rfl) ?_; (repeat (go_big_quiet_step (fail))); refine wpQuiet_nil ?_; rintro _ ⟨y, rfl⟩)
  go_upto_region 6 with fail
  have f0 : y.w.cell? ⟨w.heap.size, 0, none⟩ = some (.int .i64 size) := by simp [go_sem]
  have f1 : y.w.cell? ⟨w.heap.size, 1, none⟩ = some (.slice none 0 0) := by simp [go_sem]
  have f2 : y.w.frozen? ⟨w.heap.size, 1, none⟩ = false := by simp [go_sem]
  have e0 : y.w.cell? ⟨w.heap.size + 1, 0, none⟩ = some (.int .i64 n) := by simp [go_sem]
  have e1 : y.w.cell? ⟨w.heap.size + 1, 1, none⟩ = some (.int .u8 sd) := by simp [go_sem]
  have e2 : y.w.cell? ⟨w.heap.size + 1, 2, none⟩ = some (.int .u8 r) := by simp [go_sem]
  have e3 : y.w.cell? ⟨w.heap.size + 1, 3, none⟩ = some (.int .u8 pr) := by simp [go_sem]
  have e4 : y.w.cell? ⟨w.heap.size + 1, 4, none⟩ = some (.int .u32 s) := by simp [go_sem]
  have e5 : y.w.cell? ⟨w.heap.size + 1, 5, none⟩ = some (.int .u32 d) := by simp [go_sem]
  have e6 : y.w.cell? ⟨w.heap.size + 1, 6, none⟩ = some (.int .u16 sp) := by simp [go_sem]
  have e7 : y.w.cell? ⟨w.heap.size + 1, 7, none⟩ = some (.int .u16 dp) := by simp [go_sem]
  have k0 : y.w.cell? ⟨w.heap.size + 1 + 1, 0, none⟩ = some (.int .i64 0) := by simp [go_sem]
  have k1 : y.w.cell? ⟨w.heap.size + 1 + 1, 1, none⟩ = some (.slice none 0 0) := by simp [go_sem]
  have k2 : y.w.frozen? ⟨w.heap.size + 1 + 1, 0, none⟩ = false := by simp [go_sem]
  have k3 : y.w.frozen? ⟨w.heap.size + 1 + 1, 1, none⟩ = false := by simp [go_sem]
  have uY : UpI w y.w := inferInstance
  generalize y.w = Y at *
  obtain ⟨B, hB⟩ : ∃ B, w.heap.size = B := ⟨_, rfl⟩
  have geB : GeSize w B := ⟨by omega⟩
  have hWY := uY.up.size
  rw [hB] at f0 f1 f2 e0 e1 e2 e3 e4 e5 e6 e7 k0 k1 k2 k3 ⊢
  haveI : LtSize B Y := ⟨cell_lt' f0⟩
  haveI : LtSize (B + 1) Y := ⟨cell_lt' e0⟩
  haveI : LtSize (B + 1 + 1) Y := ⟨cell_lt' k0⟩
  go_cut [36] (fun v36 wx => ∃ g1 c1, Hid (wx.ownsRow Y.heap.size 37 8 (.slice (some ⟨g1, 0, none⟩) (0 + 1) c1) (0 + 1) ([] ++ Ev.cells ⟨n, sd, r, pr, s, d, sp, dp⟩)) ∧ UpI w wx ∧ B + 1 + 1 < Y.heap.size ∧ Y.heap.size ≤ wx.heap.size ∧
    wx.cell? ⟨B, 0, none⟩ = some (.int .i64 size) ∧ wx.cell? ⟨B, 1, none⟩ = some (.slice (some ⟨g1, 0, none⟩) (0 + 1) c1) ∧ wx.cell? ⟨B + 1 + 1, 0, none⟩ = some (.int .i64 0) ∧ wx.cell? ⟨B + 1 + 1, 1, none⟩ = some (.slice none 0 0) ∧ wx.frozen? ⟨B + 1 + 1, 0, none⟩ = false ∧ wx.frozen? ⟨B + 1 + 1, 1, none⟩ = false)
  case first =>
    go_region_law (first
      | (refine step_append_mine rfl _ _ 67 rfl Y.heap.size 37 i0 Ev.zero.val 8 32 Tryz.underlying67 Hi.out Hy0.out Hy1.out Hy2.out rfl (by decide) _ 0 [] rfl (fresh_row Y _ 8 _ inferInstance Y.heap.size _ (by simp [go_sem]) (Nat.le_refl _)) ⟨_, 0, none⟩ 1 _ (Ev.cells ⟨n, sd, r, pr, s, d, sp, dp⟩) rfl rfl (fun j u hj => by rcases ev8 _ j u hj with ⟨rfl, rfl⟩ | ⟨rfl, rfl⟩ | ⟨rfl, rfl⟩ | ⟨rfl, rfl⟩ | ⟨rfl, rfl⟩ | ⟨rfl, rfl⟩ | ⟨rfl, rfl⟩ | ⟨rfl, rfl⟩ <;> simp [Addr.add, go_sem]) (ev8_one _) (by decide) (by decide) (upI : Up Y _).size ?_; intro v1 w1 hown hgrow; obtain ⟨g1, c1, rfl, hg1⟩ := owns_slice hown; obtain ⟨x2, rfl⟩ := (Up.grown (upI : Up Y _) hgrow (own_ge (by omega))).mk; have HO2 := Lib.hid hown; clear hown hgrow)
      | (refine step_append_mine rfl _ _ 67 rfl Y.heap.size 37 i0 Ev.zero.val 8 32 Tryz.underlying67 Hi.out Hy0.out Hy1.out Hy2.out rfl (by decide) _ 0 [] rfl (fresh_row (Y.alloc (.cells #[.int .i64 n, .int .u8 sd, .int .u8 r, .int .u8 pr, .int .u32 s, .int .u32 d, .int .u16 sp, .int .u16 dp] 37)) _ 8 _ inferInstance Y.heap.size _ (by simp [go_sem]) (by omega)) ⟨_, 0, none⟩ 1 _ (Ev.cells ⟨n, sd, r, pr, s, d, sp, dp⟩) rfl rfl (fun j u hj => by rcases ev8 _ j u hj with ⟨rfl, rfl⟩ | ⟨rfl, rfl⟩ | ⟨rfl, rfl⟩ | ⟨rfl, rfl⟩ | ⟨rfl, rfl⟩ | ⟨rfl, rfl⟩ | ⟨rfl, rfl⟩ | ⟨rfl, rfl⟩ <;> simp [Addr.add, go_sem]) (ev8_one _) (by decide) (by decide) (upI : Up Y _).size ?_; intro v1 w1 hown hgrow; obtain ⟨g1, c1, rfl, hg1⟩ := owns_slice hown; obtain ⟨x2, rfl⟩ := (Up.grown (upI : Up Y _) hgrow (own_ge (by omega))).mk; have HO2 := Lib.hid hown; clear hown hgrow))
    all_goals (go_wp2_with fail; go_meet; exact ⟨g1, c1, Lib.hid (owns_setBlock HO2.out (show B < Y.heap.size from cell_lt' f0) _), inferInstance, cell_lt' k0, by rw [World.size_setCell]; exact (upI : Up Y x2.w).size, by simp [go_sem, f0], by simp [go_sem, f1], by simp [go_sem, k0], by simp [go_sem, k1], by simp [go_sem, k2], by simp [go_sem, k3]⟩)
  case rest =>
    obtain ⟨g1, c1, HO, hu, hlt, hge, d0, d1, d2, d3, d4, d5⟩ := hcut
    haveI := hu
    go_wp2_with fail
    refine bodyPost_ret (v := Value.tuple #[.agg #[.int .i64 size, .slice (some ⟨g1, 0, none⟩) (0 + 1) c1], .int .i64 0, .int .i64 0]) (by simp [results, Tryz.results30, go_sem, d2, d3]) rfl ?_
    refine ⟨_, rfl, ?_, (upI : Up w _).mk⟩
    have h2 := owns_base (owns_setBlock (owns_setBlock HO.out (a := ⟨B + 1 + 1, 0, none⟩) hlt (.int .i64 size)) (a := ⟨B + 1 + 1, 1, none⟩) hlt (.slice (some ⟨g1, 0, none⟩) (0 + 1) c1)) hWY
    exact h2
end Go.Proofs.YtdebpdjkkblcfaaGreatDoor
