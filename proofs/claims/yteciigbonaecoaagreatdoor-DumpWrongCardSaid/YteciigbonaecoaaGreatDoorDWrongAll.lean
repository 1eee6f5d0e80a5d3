/- DumpWrong, walked. -/
import Derived.Test.YteciigbonaecoaaGreatDoorFast
import Derived.Test.YteciigbonaecoaaGreatDoorDBuild
import Derived.Maps.RangeWalk
namespace Go.Proofs.YteciigbonaecoaaGreatDoor
open Go.RowKit Go.Ab
theorem icA_zero (j : Nat) (h : j < 31) : (icA zeroC)[j]? = some (.int .i64 0) := by
  unfold icA zeroC
  rw [List.map_replicate, List.getElem?_toArray, List.getElem?_replicate, if_pos h]
set_option maxHeartbeats 32000000 in
set_option maxRecDepth 100000 in
theorem dwrong_any (l : List Wd) (u : Wd) (way n x : Int) (v : Value) (w : World) (g : GoodD w) (hv : WdRow w v l) (hb : ∀ x ∈ l, WdB x) (hl : l.length ≤ 9223372036854775807) (hu : WdB u) (w0 : 0 ≤ way) (_ : way < 256) (n0 : 0 ≤ n) (n1 : n < 256) (x0 : -9223372036854775808 ≤ x) (x1 : x ≤ 9223372036854775807) :
    Gives Tryz.prog 8 #[v, .agg u.cells.toArray, .int .u8 way, .int .u8 n, .int .i64 x] w (.bool true) := by
  have hL : ∀ W, UpI w W → Calls Tryz.prog 18 #[v] W fun e w' => ∃ q, e = .returned q ∧ w'.ownsRow W.heap.size 44 11 q (listL l).length ((listL l).flatMap Ln.cells) ∧ ∃ x : Ext W, w' = x.w := fun W hW => dlist_any l v W (hv.up hW.up) hb hl
  have hM := fun W => dmade_any u W hu
  have hM2 := hM
  have hyb := madeL_b u hu
  have hyr := madeL_right u hu
  have hyd : (madeL u).d ≠ 0 := by have := hu.d0; simp only [madeL]; omega
  have hab := listL_b l hb
  have hal := listL_len l
  generalize listL l = a at *
  obtain ⟨uc, huc⟩ : ∃ uc, u.cells = uc := ⟨_, rfl⟩
  obtain ⟨pr, s, d, dp, sd, cl, fl, dl, sn⟩ := u
  unfold Wd.cells at hM hM2 ⊢
  unfold Ln.cells at hM
  simp only at hM hM2 ⊢
  generalize madeL _ = y at *
  clear huc hu
  unfold Gives
  go_enter Tryz.func8, Tryz.ntmps8
  go_upto_region 3 with (go_at_call 11; refine (dawake_any _ (g.up upI)).mono ?_; rintro e w' ⟨rfl, xa, rfl⟩)
  obtain ⟨A, hA⟩ : ∃ A, w.heap.size = A := ⟨_, rfl⟩
  rw [hA]
  have hz : ∀ j, (w.alloc (.cells #[Value.int .u8 pr, .int .u8 s, .int .u8 d, .int .u8 dp, .int .u8 sd, .int .u8 cl, .int .u8 fl, .int .u16 dl, .int .u16 sn] 77)).cell? ⟨A, j, none⟩ = #[Value.int .u8 pr, .int .u8 s, .int .u8 d, .int .u8 dp, .int .u8 sd, .int .u8 cl, .int .u8 fl, .int .u16 dl, .int .u16 sn][j]? := fun j => World.cell?_alloc_at _ _ _ _ hA.symm
  refine wp_letter (fun W => UpI w W ∧ A < W.heap.size ∧ (∀ j, W.cell? ⟨A, j, none⟩ = #[Value.int .u8 pr, .int .u8 s, .int .u8 d, .int .u8 dp, .int .u8 sd, .int .u8 cl, .int .u8 fl, .int .u16 dl, .int .u16 sn][j]?))
    ⟨inferInstance, Nat.lt_of_lt_of_le (by rw [World.size_alloc]; omega) xa.up.size, fun j => (xa.cell (by rw [World.size_alloc]; show A < _; omega)).trans (hz j)⟩ ?_
  rintro W ⟨uW, hAW, hc⟩
  haveI := uW
  haveI : LtSize A W := ⟨hAW⟩
  have f0 : W.cell? ⟨A, 0, none⟩ = some (.int .u8 pr) := hc 0; have f1 : W.cell? ⟨A, 1, none⟩ = some (.int .u8 s) := hc 1; have f2 : W.cell? ⟨A, 2, none⟩ = some (.int .u8 d) := hc 2; have f3 : W.cell? ⟨A, 3, none⟩ = some (.int .u8 dp) := hc 3; have f4 : W.cell? ⟨A, 4, none⟩ = some (.int .u8 sd) := hc 4; have f5 : W.cell? ⟨A, 5, none⟩ = some (.int .u8 cl) := hc 5; have f6 : W.cell? ⟨A, 6, none⟩ = some (.int .u8 fl) := hc 6; have f7 : W.cell? ⟨A, 7, none⟩ = some (.int .u16 dl) := hc 7; have f8 : W.cell? ⟨A, 8, none⟩ = some (.int .u16 sn) := hc 8
  have hwA : w.heap.size ≤ A := by omega
  have hcA : Hid (W.rangeAt A 0 [Value.int .u8 pr, .int .u8 s, .int .u8 d, .int .u8 dp, .int .u8 sd, .int .u8 cl, .int .u8 fl, .int .u16 dl, .int .u16 sn]) := Lib.hid (fun j v hj => by rw [Nat.zero_add, hc j]; simpa using hj)
  clear hc hz hA xa
  go_cut [11, 12] (fun v11 v12 wx => ∃ p, v12 = .pointer (some ⟨p, 0, none⟩) ∧ UpI W wx ∧ W.heap.size ≤ p ∧ Away p wx v11 a ∧ LnAt wx p y ∧ ∀ i, wx.frozen? ⟨p, i, none⟩ = false)
  case first =>
    go_region_held3 (fun w' => UpI W w' ∧ w'.cell? ⟨A, 0, none⟩ = some (.int .u8 pr) ∧ w'.cell? ⟨A, 1, none⟩ = some (.int .u8 s) ∧ w'.cell? ⟨A, 2, none⟩ = some (.int .u8 d) ∧ w'.cell? ⟨A, 3, none⟩ = some (.int .u8 dp) ∧ w'.cell? ⟨A, 4, none⟩ = some (.int .u8 sd) ∧ w'.cell? ⟨A, 5, none⟩ = some (.int .u8 cl) ∧ w'.cell? ⟨A, 6, none⟩ = some (.int .u8 fl) ∧ w'.cell? ⟨A, 7, none⟩ = some (.int .u16 dl) ∧ w'.cell? ⟨A, 8, none⟩ = some (.int .u16 sn))
      (exact ⟨inferInstance, (upI : Up W _).cell_some' f0, (upI : Up W _).cell_some' f1, (upI : Up W _).cell_some' f2, (upI : Up W _).cell_some' f3, (upI : Up W _).cell_some' f4, (upI : Up W _).cell_some' f5, (upI : Up W _).cell_some' f6, (upI : Up W _).cell_some' f7, (upI : Up W _).cell_some' f8⟩)
      (first
        | (go_at_call 27; refine (hM _).mono ?_; rintro e w' ⟨rfl, z, rfl⟩)
        | (go_at_call 18; refine (hL _ inferInstance).mono ?_; rintro e w' ⟨q, rfl, hrow, z, rfl⟩))
    all_goals
      go_wp2_with fail
      go_meet
      exact ⟨_, rfl, inferInstance, (upI : Up W _).size, by first | exact Away.of_up (RowOf.of_owns Ln.cells_length hrow) upI GeSize.ge | exact Away.of_owns (row_own11 hrow upI (by simp) _ _ _ _ _ _ _ _ _ _ _) (by simp), ⟨by simp [go_sem], by simp [go_sem], by simp [go_sem], by simp [go_sem], by simp [go_sem], by simp [go_sem], by simp [go_sem], by simp [go_sem], by simp [go_sem], by simp [go_sem], by simp [go_sem]⟩, fun i => by simp [go_sem]⟩
  case rest =>
    obtain ⟨p, rfl, hux, hWp, hrow, hat, hfz⟩ := hcut
    haveI := hat.lt
    haveI := hux
    have hwp : w.heap.size ≤ p := Nat.le_trans uW.up.size hWp
    haveI : GeSize W p := ⟨hWp⟩
    have htm : way.tmod 5 = way % 5 := Int.tmod_eq_emod_of_nonneg w0
    obtain ⟨d5, hd5⟩ : ∃ d5, way % 5 = d5 := ⟨_, rfl⟩
    have hd : d5 = 0 ∨ d5 = 1 ∨ d5 = 2 ∨ d5 = 3 ∨ d5 = 4 := by omega
    rw [hd5] at htm
    clear hd5 w0 hL hM
    go_upto_block 0 with fail
    go_cut [35] (fun _ wx => UpI W wx ∧ LnRow wx u11 a ∧ ∃ b : Ln, LnAt wx p b ∧ b.right = false ∧ LnB b)
    case first =>
      have hfz5 := hfz 5; have hfz6 := hfz 6; have hfz7 := hfz 7; have hfz8 := hfz 8; have hfz9 := hfz 9; have hfz10 := hfz 10
      obtain ⟨c0, c1, c2, c3, c4, c5, c6, c7, c8, c9, c10⟩ := hat
      rcases hd with rfl | rfl | rfl | rfl | rfl
      · go_wp2_with fail
        go_meet
        obtain ⟨e1, e2⟩ := y.wrong_sd n hyb n0 n1
        exact ⟨inferInstance, hrow.2.1 _ _, _, ⟨by first | (simp [go_sem]; done) | simp [go_sem, c0], by first | (simp [go_sem]; done) | simp [go_sem, c1], by first | (simp [go_sem]; done) | simp [go_sem, c2], by first | (simp [go_sem]; done) | simp [go_sem, c3], by first | (simp [go_sem]; done) | simp [go_sem, c4], by first | (simp [go_sem]; done) | simp [go_sem, c5], by first | (simp [go_sem]; done) | simp [go_sem, c6], by first | (simp [go_sem]; done) | simp [go_sem, c7], by first | (simp [go_sem]; done) | simp [go_sem, c8], by first | (simp [go_sem]; done) | simp [go_sem, c9], by first | (simp [go_sem]; done) | simp [go_sem, c10]⟩, e1, e2⟩
      · go_wp2_with fail
        go_meet
        obtain ⟨e1, e2⟩ := y.wrong_cl n hyb n0 n1
        exact ⟨inferInstance, hrow.2.1 _ _, _, ⟨by first | (simp [go_sem]; done) | simp [go_sem, c0], by first | (simp [go_sem]; done) | simp [go_sem, c1], by first | (simp [go_sem]; done) | simp [go_sem, c2], by first | (simp [go_sem]; done) | simp [go_sem, c3], by first | (simp [go_sem]; done) | simp [go_sem, c4], by first | (simp [go_sem]; done) | simp [go_sem, c5], by first | (simp [go_sem]; done) | simp [go_sem, c6], by first | (simp [go_sem]; done) | simp [go_sem, c7], by first | (simp [go_sem]; done) | simp [go_sem, c8], by first | (simp [go_sem]; done) | simp [go_sem, c9], by first | (simp [go_sem]; done) | simp [go_sem, c10]⟩, e1, e2⟩
      · go_wp2_with fail
        go_meet
        obtain ⟨e1, e2⟩ := y.wrong_ss hyb
        exact ⟨inferInstance, hrow.2.2 _ _ _ _, _, ⟨by first | (simp [go_sem]; done) | simp [go_sem, c0], by first | (simp [go_sem]; done) | simp [go_sem, c1], by first | (simp [go_sem]; done) | simp [go_sem, c2], by first | (simp [go_sem]; done) | simp [go_sem, c3], by first | (simp [go_sem]; done) | simp [go_sem, c4], by first | (simp [go_sem]; done) | simp [go_sem, c5], by first | (simp [go_sem]; done) | simp [go_sem, c6], by first | (simp [go_sem]; done) | simp [go_sem, c7], by first | (simp [go_sem]; done) | simp [go_sem, c8], by first | (simp [go_sem]; done) | simp [go_sem, c9], by first | (simp [go_sem]; done) | simp [go_sem, c10]⟩, e1, e2⟩
      · go_wp2_with fail
        go_meet
        obtain ⟨e1, e2⟩ := y.wrong_dl x hyb x0 x1
        exact ⟨inferInstance, hrow.2.1 _ _, _, ⟨by first | (simp [go_sem]; done) | simp [go_sem, c0], by first | (simp [go_sem]; done) | simp [go_sem, c1], by first | (simp [go_sem]; done) | simp [go_sem, c2], by first | (simp [go_sem]; done) | simp [go_sem, c3], by first | (simp [go_sem]; done) | simp [go_sem, c4], by first | (simp [go_sem]; done) | simp [go_sem, c5], by first | (simp [go_sem]; done) | simp [go_sem, c6], by first | (simp [go_sem]; done) | simp [go_sem, c7], by first | (simp [go_sem]; done) | simp [go_sem, c8], by first | (simp [go_sem]; done) | simp [go_sem, c9], by first | (simp [go_sem]; done) | simp [go_sem, c10]⟩, e1, e2⟩
      · go_wp2_with fail
        go_meet
        obtain ⟨e1, e2⟩ := y.wrong_sn x hyb x0 x1
        exact ⟨inferInstance, hrow.2.1 _ _, _, ⟨by first | (simp [go_sem]; done) | simp [go_sem, c0], by first | (simp [go_sem]; done) | simp [go_sem, c1], by first | (simp [go_sem]; done) | simp [go_sem, c2], by first | (simp [go_sem]; done) | simp [go_sem, c3], by first | (simp [go_sem]; done) | simp [go_sem, c4], by first | (simp [go_sem]; done) | simp [go_sem, c5], by first | (simp [go_sem]; done) | simp [go_sem, c6], by first | (simp [go_sem]; done) | simp [go_sem, c7], by first | (simp [go_sem]; done) | simp [go_sem, c8], by first | (simp [go_sem]; done) | simp [go_sem, c9], by first | (simp [go_sem]; done) | simp [go_sem, c10]⟩, e1, e2⟩
    case rest =>
      clear hrow hfz hat hd htm
      obtain ⟨hux2, hrow, b, hat, hbr, hbb⟩ := hcut
      haveI := hat.lt
      haveI := hux2
      have hbo := ordered_one hbr
      have hb1 : ∀ z ∈ [b], LnB z := fun z hz => by obtain rfl := List.mem_singleton.1 hz; exact hbb
      have hT : ∀ W', UpI W W' → Gives Tryz.prog 28 #[.agg b.cells.toArray] W' (.tuple #[.string ⟨#[]⟩, .int .i64 381]) := fun W' h => Gives.cast (show Gives _ 28 #[.agg b.cells.toArray] _ _ from dtext_any b W' (g.up (uW.up.trans h.up)) hbb) (by unfold textE; rw [hbr]; rfl)
      have hR : ∀ W', Gives Tryz.prog 30 #[.agg b.cells.toArray] W' (.bool false) := fun W' => Gives.cast (show Gives _ 30 #[.agg b.cells.toArray] _ _ from dright_any b W' hbb) (by rw [hbr])
      have hrow1 : ∀ W' : World, LnRow (W'.alloc (.cells (lnBlk [b]) 44)) (.slice (some ⟨W'.heap.size, 0, none⟩) 1 1) [b] := fun W' => RowOf.of_block Ln.cells_length (alloc_new rfl) (Nat.le_refl 1)
      have hTs : ∀ W' : World, Gives Tryz.prog 24 #[.slice (some ⟨W'.heap.size, 0, none⟩) 1 1] (W'.alloc (.cells (lnBlk [b]) 44)) (.tuple #[.slice none 0 0, .int .i64 383]) := fun W' => dtexts_no [b] _ _ (hrow1 W') hb1 (by simp) hbo
      have hOr : ∀ W' : World, Gives Tryz.prog 26 #[.slice (some ⟨W'.heap.size, 0, none⟩) 1 1] (W'.alloc (.cells (lnBlk [b]) 44)) (.bool false) := fun W' => (dordered_any [b] _ _ (hrow1 W') hb1 (by simp)).cast (by rw [hbo])
      have hD1 : ∀ W' : World, Gives Tryz.prog 19 #[.slice (some ⟨W'.heap.size, 0, none⟩) 1 1, .slice none 0 0] (W'.alloc (.cells (lnBlk [b]) 44)) (.tuple #[.slice none 0 0, .int .i64 383]) := fun W' => ddiff_no [b] [] _ _ _ (hrow1 W') (RowOf.nil _) hb1 (by simp) (by simp) (by simp) (by rw [hbo]; rfl)
      have hD2 : ∀ W' : World, Gives Tryz.prog 19 #[.slice none 0 0, .slice (some ⟨W'.heap.size, 0, none⟩) 1 1] (W'.alloc (.cells (lnBlk [b]) 44)) (.tuple #[.slice none 0 0, .int .i64 383]) := fun W' => ddiff_no [] [b] _ _ _ (RowOf.nil _) (hrow1 W') (by simp) hb1 (by simp) (by simp) (by rw [hbo]; simp)
      clear hrow1
      go_upto_region 20 with (first
        | ((with_reducible refine held ?_); refine H_load_mid rfl 44 _ rfl p 0 rfl b.cells _ (hat.up upI).range Tryz.underlying44 rfl lnSize ?_)
        | ((with_reducible refine held ?_); refine H_load_midG 44 _ rfl p 0 rfl (by kernel_rfl) b.cells _ (hat.up upI).range Tryz.underlying44 rfl lnSize ?_)
        | ((with_reducible refine held ?_); refine H_sliceRun rfl 22 1 _ rfl #[(0, .agg b.cells.toArray)] (by kernel_rfl) _ _ (slice_line b _) ?_)
        | ((with_reducible refine held ?_); refine H_sliceRunG 22 1 _ rfl (by kernel_rfl) #[(0, .agg b.cells.toArray)] (by kernel_rfl) _ _ (slice_line b _) ?_)
        | (go_at_call 28; refine (hT _ inferInstance).mono ?_; rintro e w' ⟨rfl, z1, rfl⟩)
        | (go_at_call 30; refine (hR _).mono ?_; rintro e w' ⟨rfl, z2, rfl⟩)
        | (go_at_call 24; refine (hTs _).mono ?_; rintro e w' ⟨rfl, z3, rfl⟩)
        | (go_at_call 26; refine (hOr _).mono ?_; rintro e w' ⟨rfl, z4, rfl⟩)
        | (go_at_call 19; (first | with_reducible refine (hD1 _).mono ?_ | with_reducible refine (hD2 _).mono ?_); rintro e w' ⟨rfl, z5, rfl⟩))
      have hcA2 := hcA
      go_upto_region 21 with (first
        | ((with_reducible refine held ?_); refine H_load_mid rfl 77 _ rfl A 0 rfl [Value.int .u8 pr, .int .u8 s, .int .u8 d, .int .u8 dp, .int .u8 sd, .int .u8 cl, .int .u8 fl, .int .u16 dl, .int .u16 sn] _ (fun j v hj => (upI : Up W _).cell_some' (hcA.out j v hj)) Tryz.underlying77 rfl infoWord ?_)
        | ((with_reducible refine held ?_); refine H_store_row rfl 44 _ _ rfl _ y.cells.toArray rfl rfl 44 _ (alloc_new rfl) lnSize rfl (ln_all y) ?_)
        | (go_at_call 27; refine (hM2 _).mono ?_; rintro e w' ⟨rfl, z6, rfl⟩))
      obtain ⟨q, hq⟩ : ∃ q, z6.w.heap.size = q := ⟨_, rfl⟩
      rw [hq]
      refine wp_letter (fun V => UpI W V ∧ LnAt V p b ∧ LnRow V u11 a ∧ V.heap[q]? = some (.cells y.cells.toArray 44 (0, 0)))
        ⟨⟨UpI.row hq _⟩, hat.up (UpI.row hq _), RowOf.up hrow (UpI.row hq _), setRow_heap _ _ _ _ _ _ (alloc_new hq)⟩ ?_
      rintro V ⟨uV, hat3, hrow3, hrq⟩
      haveI := uV
      clear hT hR hTs hOr hD1 hD2 hM2 hq hcA hcA2 hat hrow hux2
      refine wp_region_lit ?_
      (with_reducible refine held ?_); refine H_load_mid rfl 44 _ rfl p 0 rfl b.cells _ hat3.range Tryz.underlying44 rfl lnSize ?_
      go_frame
      (with_reducible refine held ?_); refine H_buildRun rfl 71 _ rfl #[(0, .int .u8 1), (2, .agg b.cells.toArray)] (by kernel_rfl) _ _ (build_new 1 b _) ?_
      go_frame
      (with_reducible refine held ?_); refine H_load_row rfl 44 _ rfl q rfl 44 y.cells.toArray (0, 0) _ hrq Tryz.underlying44 rfl lnSize ?_
      go_frame
      (with_reducible refine held ?_); refine H_buildRun rfl 71 _ rfl #[(0, .int .u8 0), (2, .agg y.cells.toArray)] (by kernel_rfl) _ _ (build_new 0 y _) ?_
      go_frame
      refine wpList_step (fun K hK => ?_)
      go_simp
      refine hK _ _ ?_; clear hK K
      refine wpList_step (fun K hK => ?_)
      go_simp
      refine hK _ _ ?_; clear hK K
      (with_reducible refine held ?_); refine H_load_row rfl 44 _ rfl q rfl 44 y.cells.toArray (0, 0) _ hrq Tryz.underlying44 rfl lnSize ?_
      go_frame
      (with_reducible refine held ?_); refine H_load_row rfl 44 _ rfl q rfl 44 y.cells.toArray (0, 0) _ hrq Tryz.underlying44 rfl lnSize ?_
      go_frame
      (with_reducible refine held ?_); refine H_buildRun rfl 71 _ rfl #[(0, .int .u8 (max n 4)), (1, .agg y.cells.toArray), (2, .agg y.cells.toArray)] (by kernel_rfl) _ _ (build_both (max n 4) y y _) ?_
      go_frame
      (with_reducible refine held ?_); refine H_load_row rfl 44 _ rfl q rfl 44 y.cells.toArray (0, 0) _ hrq Tryz.underlying44 rfl lnSize ?_
      go_frame
      (with_reducible refine held ?_); refine H_load_row rfl 44 _ rfl q rfl 44 y.cells.toArray (0, 0) _ hrq Tryz.underlying44 rfl lnSize ?_
      go_frame
      (with_reducible refine held ?_); refine H_buildRun rfl 71 _ rfl #[(0, .int .u8 3), (1, .agg y.cells.toArray), (2, .agg y.cells.toArray)] (by kernel_rfl) _ _ (build_both 3 y y _) ?_
      go_frame
      (with_reducible refine held ?_); refine H_load_mid rfl 44 _ rfl p 0 rfl b.cells _ hat3.range Tryz.underlying44 rfl lnSize ?_
      go_frame
      (with_reducible refine held ?_); refine H_buildRun rfl 71 _ rfl #[(0, .int .u8 2), (1, .agg b.cells.toArray)] (by kernel_rfl) _ _ (build_old 2 b _) ?_
      go_frame
      (with_reducible refine held ?_); refine H_load_row rfl 44 _ rfl q rfl 44 y.cells.toArray (0, 0) _ hrq Tryz.underlying44 rfl lnSize ?_
      go_frame
      (with_reducible refine held ?_); refine H_load_row rfl 44 _ rfl q rfl 44 y.cells.toArray (0, 0) _ hrq Tryz.underlying44 rfl lnSize ?_
      go_frame
      (with_reducible refine held ?_); refine H_buildRun rfl 71 _ rfl #[(0, .int .u8 1), (1, .agg y.cells.toArray), (2, .agg y.cells.toArray)] (by kernel_rfl) _ _ (build_both 1 y y _) ?_
      go_frame
      (with_reducible refine held ?_); refine H_load_row rfl 44 _ rfl q rfl 44 y.cells.toArray (0, 0) _ hrq Tryz.underlying44 rfl lnSize ?_
      go_frame
      (with_reducible refine held ?_); refine H_load_row rfl 44 _ rfl q rfl 44 y.cells.toArray (0, 0) _ hrq Tryz.underlying44 rfl lnSize ?_
      go_frame
      (with_reducible refine held ?_); refine H_buildRun rfl 71 _ rfl #[(0, .int .u8 2), (1, .agg y.cells.toArray), (2, .agg y.cells.toArray)] (by kernel_rfl) _ _ (build_both 2 y y _) ?_
      go_frame
      (with_reducible refine held ?_); refine H_sliceRun rfl 61 7 _ rfl #[(0, .agg (Ch.mk 1 Ln.zero b).cells.toArray), (1, .agg (Ch.mk 0 Ln.zero y).cells.toArray), (2, .agg (Ch.mk (max n 4) y y).cells.toArray), (3, .agg (Ch.mk 3 y y).cells.toArray), (4, .agg (Ch.mk 2 b Ln.zero).cells.toArray), (5, .agg (Ch.mk 1 y y).cells.toArray), (6, .agg (Ch.mk 2 y y).cells.toArray)] (by kernel_rfl) _ _ (slice_seven (Ch.mk 1 Ln.zero b) (Ch.mk 0 Ln.zero y) (Ch.mk (max n 4) y y) (Ch.mk 3 y y) (Ch.mk 2 b Ln.zero) (Ch.mk 1 y y) (Ch.mk 2 y y) _) ?_
      go_frame
      go_wp2_with fail
      obtain ⟨S, hS⟩ : ∃ S, V.heap.size = S := ⟨_, rfl⟩
      rw [hS]
      have hno := seven_no b y n hbr hbb hyb hyd
      refine wp_letter (fun X => ∃ cs : List Ch, UpI W X ∧ LnRow X u11 a ∧ ChRow X (.slice (some ⟨S, 0, none⟩) 7 7) cs ∧ cs.length = 7 ∧ ∀ c ∈ cs, NoCh c)
        ⟨_, inferInstance, RowOf.up hrow3 upI, RowOf.of_block Ch.cells_length (alloc_new hS) (Nat.le_refl 7), rfl, hno⟩ ?_
      rintro X ⟨cs, uX, hrowX, hch, hlen, hno2⟩
      haveI := uX
      have HC := Lib.hid hch; have HR := Lib.hid hrowX; have HN := Lib.hid hno2; have HL := Lib.hid hlen; have HAB := Lib.hid hab
      clear hch hrowX hno2 hlen hno hab hat3 hrow3 hrq hS
      go_loopw [145] (fun i wr => ∃ k : Nat, k ≤ 7 ∧ i = .int .i64 (k : Int) ∧ Up X wr) (fun i _ => 7 - (intOf i).toNat)
      case atStart => exact ⟨0, by omega, rfl, Up.refl _⟩
      case round =>
        obtain ⟨k, hk, rfl, hu⟩ := hrel
        haveI : UpI X wr := ⟨hu⟩
        haveI : UpI W wr := ⟨uX.up.trans hu⟩
        by_cases hlt : k < 7
        · have hlt' : (k : Int) < 7 := by omega
          have k0 : (0 : Int) ≤ (k : Int) := by omega
          obtain ⟨c, hx⟩ : ∃ c, cs[k]? = some c := ⟨_, List.getElem?_eq_getElem (by rw [HL.out]; exact hlt)⟩
          obtain ⟨hb1, hc1⟩ := ChRow.cell HC.out k c hx
          have hXr : wr.rangeAt S (k * 23) c.cells := fun j u hj => by have := hu.cell_some' (hc1 j u hj); rwa [Nat.zero_add] at this
          have HCN := Lib.hid (HN.out c (List.mem_of_getElem? hx))
          clear hc1 hx
          go_upto_region 24 with (first
            | ((with_reducible refine held ?_); refine H_load_mid rfl 71 _ rfl S (k * 23) rfl c.cells _ hXr Tryz.underlying71 rfl chSize ?_)
            | ((with_reducible refine held ?_); refine H_store_row rfl 71 _ _ rfl _ c.cells.toArray rfl rfl 71 _ (alloc_new rfl) chSize rfl (Array.all_eq_true_iff_forall_mem.2 (fun u hu => chg_one c u (by simpa using hu))) ?_))
          obtain ⟨D, hD⟩ : ∃ D, wr.heap.size = D := ⟨_, rfl⟩
          rw [hD]
          refine wp_letter (fun Z => UpI X Z ∧ D < Z.heap.size ∧ Z.heap[D]? = some (.cells c.cells.toArray 71 (0, 0)))
            ⟨⟨UpI.row hD _⟩, by rw [size_setRow, World.size_alloc]; omega, setRow_heap _ _ _ _ _ _ (alloc_new hD)⟩ ?_
          rintro Z ⟨uZ, hDZ, hrD⟩
          haveI := uZ
          haveI : LtSize D Z := ⟨hDZ⟩
          have hAp : ∀ (W' : World) (hX : UpI X W'), Calls Tryz.prog 20 #[u11, .slice (some ⟨W'.heap.size, 0, none⟩) 1 1] (W'.alloc (.cells (chBlk [c]) 71)) fun e w' => e = .returned (.tuple #[.slice none 0 0, .int .i64 383]) ∧ ∃ x : Ext (W'.alloc (.cells (chBlk [c]) 71)), w' = x.w := fun W' hX =>
            (apply_any a [c] u11 (.slice (some ⟨W'.heap.size, 0, none⟩) 1 1) (W'.alloc (.cells (chBlk [c]) 71)) (RowOf.up HR.out (hX.up.alloc _)) (show ChRow _ (.slice (some ⟨W'.heap.size, 0, none⟩) [c].length 1) [c] from RowOf.of_block (l := [c]) Ch.cells_length (alloc_new (w := W') (o := .cells (chBlk [c]) 71) rfl) (Nat.le_refl 1)) HAB.out (fun d hd => by obtain rfl := List.mem_singleton.1 hd; exact HCN.out.2) (by omega) (by simp)).mono fun e w' ⟨⟨L, _, _, h⟩, hx⟩ => by
              rcases h with ⟨h1, _⟩ | ⟨_, h2⟩
              · exfalso; rw [apply_one_no a L c HCN.out.1] at h1; cases h1
              · exact ⟨h2, hx⟩
          clear hD hXr
          go_wp2_with (first
            | ((with_reducible refine held ?_); refine H_load_row rfl 71 _ rfl D rfl 71 c.cells.toArray (0, 0) _ hrD Tryz.underlying71 rfl chSize ?_)
            | ((with_reducible refine held ?_); refine H_sliceRun rfl 61 1 _ rfl #[(0, .agg c.cells.toArray)] (by kernel_rfl) _ _ (slice_change c _) ?_)
            | (go_at_call 20; refine (hAp _ inferInstance).mono ?_; rintro e w' ⟨rfl, z7, rfl⟩))
          go_roundw
          case rel => exact ⟨k + 1, by omega, by go_num, upI⟩
          case measure => simp [intOf]; omega
        · obtain rfl : k = 7 := by omega
          have hnk : n % 31 = ((n % 31).toNat : Int) := by omega
          have hk31 : (n % 31).toNat < 31 := by omega
          have htm : n.tmod 31 = n % 31 := Int.tmod_eq_emod_of_nonneg n0
          rw [hnk] at htm
          generalize (n % 31).toNat = j at *
          have j0 : (0 : Int) ≤ (j : Int) := by omega
          have j1 : (j : Int) < 31 := by omega
          have hwn : wrap64 n = n := IntWalk.wrap64_in _ ⟨by omega, by omega⟩
          have hm0 : min x (-1) < 0 := by omega
          have hm1 : -9223372036854775808 ≤ min x (-1) := by omega
          clear hnk
          go_upto_region 29 with fail
          obtain ⟨E, hE⟩ : ∃ E, wr.heap.size = E := ⟨_, rfl⟩
          rw [hE]
          refine wp_letter (fun Z => UpI w Z ∧ E < Z.heap.size ∧ w.heap.size ≤ E ∧ Z.heap[E]? = some (.cells (icA zeroC) 89 (0, 0)))
            ⟨⟨(uW.up.trans upI).alloc _⟩, by rw [World.size_alloc]; omega, by rw [← hE]; exact (uW.up.trans (upI : Up W wr)).size, alloc_new hE⟩ ?_
          rintro Z ⟨uZ, hEZ, hwE, hrE⟩
          haveI := uZ
          have cc : Z.cell? ⟨E, j, none⟩ = some (.int .i64 0) := by rw [cell_of_row Z E j _ _ _ hrE]; exact icA_zero j hk31
          have cf : Z.frozen? ⟨E, j, none⟩ = false := frozen_of_row Z E j _ _ hrE
          have HrE := Lib.hid hrE
          clear hrE hE
          go_upto_region 30 with fail
          refine wp_letter (fun Z2 => UpI w Z2 ∧ Z2.heap[E]? = some (.cells (icA (zeroC.set j (min x (-1)))) 89 (0, 0)))
            ⟨⟨uZ.up.setCell hwE _⟩, by rw [heap_setCell_same Z E j _ _ _ HrE.out, icA_set]⟩ ?_
          rintro Z2 ⟨uZ2, hrE2⟩
          haveI := uZ2
          have hcn : ∀ W' : World, UpI w W' → Calls Tryz.prog 31 #[.agg (icA (zeroC.set j (min x (-1))))] W' fun e w' => e = .returned (.tuple #[.slice none 0 0, .int .i64 2]) ∧ ∃ x : Ext W', w' = x.w := fun W' h => (dcounts_any _ W' (g.up h.up) (by simp [zeroC]) (fun m hm => by
              rcases List.mem_or_eq_of_mem_set hm with h | rfl
              · obtain rfl := List.eq_of_mem_replicate h; omega
              · omega)).mono fun e w' ⟨h1, h2⟩ => by
            unfold countsE at h1
            rw [counts_neg hk31 hm0] at h1
            exact ⟨h1, h2⟩
          have hsz : (Tryz.prog.info? 89).map (·.size) = some (icA (zeroC.set j (min x (-1)))).size := by rw [infoArr31, icA_size]; simp [zeroC]
          clear cc cf HrE
          generalize icA (zeroC.set j (min x (-1))) = ic at *
          go_wp2_with (first
            | ((with_reducible refine held ?_); refine H_load_row rfl 89 _ rfl E rfl 89 ic (0, 0) _ hrE2 Tryz.underlying89 rfl hsz ?_)
            | (go_at_call 31; refine (hcn _ inferInstance).mono ?_; rintro e w' ⟨rfl, z8, rfl⟩))
          go_ret
          exact ⟨rfl, mkI⟩
end Go.Proofs.YteciigbonaecoaaGreatDoor
