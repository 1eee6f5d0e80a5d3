/- DumpFlows, walked: Of and All of package dump against the reference. The card of DumpFlows. -/
import Derived.Test.YteciigbonaecoaaGreatDoorFlB
import Derived.Test.YteciigbonaecoaaGreatDoorFlC
import Derived.Test.YteciigbonaecoaaGreatDoorFast
import Derived.Test.YteciigbonaecoaaGreatDoorFlA
import Derived.Test.YteciigbonaecoaaGreatDoorDAw
set_option linter.unusedSimpArgs false
set_option linter.unusedVariables false
namespace Go.Ab
open Go.RowKit Go.Proofs.YteciigbonaecoaaGreatDoor
def flLns (l : List Fl) : List Ln := l.map fun f => f.of.getD Ln.zero
def wrongL (l : List Fl) : Int := if l.all (fun f => f.of.isSome) then 0 else 380
theorem allL_eq : ∀ l : List Fl, allL l = if l.all (fun f => f.of.isSome) then some (flLns l) else none
  | [] => rfl
  | f :: t => by
    rw [allL]
    cases h : f.of with
    | none => simp [h]
    | some x =>
      rw [allL_eq t]
      simp only [List.all_cons, h, Option.isSome_some, Bool.true_and]
      split <;> simp [flLns, h]
theorem wrongL_02 (l : List Fl) : wrongL l = 0 ∨ wrongL l = 380 := by unfold wrongL; split <;> simp
theorem ofE_02 (r : Option Ln) : ofE r = 0 ∨ ofE r = 380 := by unfold ofE; split <;> simp
theorem wrongL_snoc (l : List Fl) (k : Nat) (f : Fl) (h : l[k]? = some f) : wrongL (l.take (k + 1)) = if wrongL (l.take k) = 0 ∧ ofE f.of = 0 then 0 else 380 := by
  unfold wrongL ofE
  rw [take_snoc3 l k f h, List.all_append]
  cases (l.take k).all (fun f => f.of.isSome) <;> cases hf : f.of.isSome <;> simp [hf]
theorem flLns_snoc (l : List Fl) (k : Nat) (f : Fl) (h : l[k]? = some f) : flLns (l.take (k + 1)) = flLns (l.take k) ++ [f.of.getD Ln.zero] := by
  unfold flLns
  rw [take_snoc3 l k f h]; simp
end Go.Ab
namespace Go.Proofs.YteciigbonaecoaaGreatDoor
open Go.RowKit Go.Ab
theorem infoFlow : (Tryz.prog.info? 42).map (fun i => (i.zero, i.size, i.bytes)) = some (some (.agg flowZ.cells.toArray), 23, 96) := by kernel_rfl
theorem slice_eF (w : World) : (Instr.buildSlice 26 0 #[]).run Tryz.prog w = .ok (.slice (some ⟨w.heap.size, 0, none⟩) 0 0) (w.alloc (.cells #[] 42)) := by kernel_rfl
theorem eq_sideS (s a : Bool) (n k z : Int) (w : World) : (Op.equalIn 9997 36 (.agg #[.bool s, .bool a, .int .u32 n, .int .u32 k, .int .i64 z]) (.agg #[.bool s, .bool a, .int .u32 n, .int .u32 k, .int .i64 z])).run Tryz.prog w = .ok true w := by
  cases s <;> cases a <;> simp [go_sem]
theorem eq_trackS (a b : TSd) (w : World) : (Op.equalIn 9998 38 (.agg (trackA a b)) (.agg (trackA a b))).run Tryz.prog w = .ok true w := by
  obtain ⟨s1, a1, n1, k1, z1⟩ := a
  obtain ⟨s2, a2, n2, k2, z2⟩ := b
  have h1 := fun W => eq_sideS s1 a1 n1 k1 z1 W
  have h2 := fun W => eq_sideS s2 a2 n2 k2 z2 W
  unfold trackA
  refine (run_equalIn_array (P := Tryz.prog) (w := w) 9997 (t := 38) (e := 36) (n := 2) (i := (Tryz.prog.info? 36).getD default) _ _ Tryz.underlying38 (by kernel_rfl)).trans ?_
  rw [show Tryz.prog.cellsOf 36 = 5 by kernel_rfl, show List.range 2 = [0, 1] from rfl]
  dsimp only
  simp [Op.eqItems, go_sem, h1, h2]
set_option maxHeartbeats 8000000 in
set_option maxRecDepth 100000 in
theorem eq_flowS (f : Fl) (w : World) : (Op.equalIn 10000 42 (.agg f.cells.toArray) (.agg f.cells.toArray)).run Tryz.prog w = .ok true w := by
  have h := fun W => eq_trackS f.ph.a f.ph.b W
  unfold trackA at h
  unfold Fl.cells
  simp [go_sem, h]
attribute [local go_sem high] eq_rln
set_option maxHeartbeats 32000000 in
set_option maxRecDepth 100000 in
theorem dflows_any (l : List Fl) (v : Value) (w : World) (g : GoodF w) (hv : FlRow w v l) (hn : ∀ n c, v = .slice none n c → c = 0) (hb : ∀ f ∈ l, FlB f) :
    Gives Tryz.prog 4 #[v] w (.bool true) := by
  have hrow := hv
  obtain ⟨p, cap, rfl, hle, hc⟩ := hv
  obtain ⟨N, hN⟩ : ∃ N, l.length = N := ⟨_, rfl⟩
  rw [hN] at hle hrow hn ⊢
  have HN := Lib.hid hN; have Hc := Lib.hid hc; have Hb := Lib.hid hb; have HR := Lib.hid hrow
  clear hN hc hb hrow
  unfold Gives
  go_enter Tryz.func4, Tryz.ntmps4
  by_cases h100 : 100 < N
  · have h100' : (100 : Int) < (N : Int) := by omega
    go_wp2_with fail
    go_ret
    exact ⟨rfl, mkI⟩
  have h100' : ¬ (100 : Int) < (N : Int) := by omega
  have hN100 : N ≤ 100 := by omega
  obtain ⟨i1, hi, hy0, hy1, hy2⟩ := info_parts infoFlow
  have Hi1 := Lib.hid hi; have Hy01 := Lib.hid hy0; have Hy11 := Lib.hid hy1; have Hy21 := Lib.hid hy2
  obtain ⟨i2, hi, hy0, hy1, hy2⟩ := info_parts infoRLine
  have Hi := Lib.hid hi; have Hy0 := Lib.hid hy0; have Hy1 := Lib.hid hy1; have Hy2 := Lib.hid hy2
  clear hi hy0 hy1 hy2
  have hk1 : N ≤ maxLen ∧ N * 96 ≤ 140737488355328 := by unfold maxLen; omega
  obtain ⟨e1, e2⟩ := hk1
  go_upto_region 4 with (first
    | ((with_reducible refine held ?_); refine H_sliceRun rfl 26 0 _ rfl #[] (by kernel_rfl) _ _ (slice_eF _) ?_)
    | (at_builtin; refine wpList_append_fresh rfl _ _ 26 rfl 42 i1 (.agg flowZ.cells.toArray) 23 96 Tryz.underlying26 Hi1.out Hy01.out Hy11.out Hy21.out rfl (by decide) Fl.cells_length _ rfl _ l rfl (RowOf.up HR.out (upI : Up w _)) hn (by rw [HN.out]; exact e1) (by rw [HN.out]; exact e2) ?_; rw [HN.out]; intro p3 c3 w3 u3 r3; haveI : UpI w w3 := ⟨(upI : Up w _).trans u3⟩))
  refine wp_letter (fun W => UpI w W ∧ FlRow W (.slice p3 N c3) l) ⟨inferInstance, r3⟩ ?_
  clear r3 u3 hn Hi1 Hy01 Hy11 Hy21 e1 e2 h100 h100'
  rintro X ⟨uX, hP⟩
  haveI := uX
  have HP := Lib.hid hP
  clear hP
  obtain ⟨AL, AN, EA, hAN, hAy, hAll⟩ : ∃ (AL : List Ln) (AN : Nat) (EA : Int), AL.length = AN ∧ (if wrongL l = 0 then AL = flLns l ∧ EA = 0 else AN = 0 ∧ EA = 380) ∧ ∀ W, UpI X W → Calls Tryz.prog 12 #[.slice p3 N c3] W fun e w' => ∃ q c, e = .returned (.tuple #[.slice q AN c, .int .i64 EA]) ∧ LnRow w' (.slice q AN c) AL ∧ ∃ x : Ext W, w' = x.w := by
    have hA := fun W (h : UpI X W) => dall_any l (.slice p3 N c3) W (g.up (uX.up.trans h.up)) (RowOf.up HP.out h.up) Hb.out (by rw [HN.out]; exact Nat.le_trans hN100 (by decide))
    rw [allL_eq] at hA
    unfold wrongL
    cases hall : l.all (fun f => f.of.isSome)
    · rw [hall] at hA
      exact ⟨[], 0, 380, rfl, ⟨rfl, rfl⟩, fun W h => (hA W h).mono fun e w' ⟨h1, h2⟩ => ⟨none, 0, h1, RowOf.nil _, h2⟩⟩
    · rw [hall] at hA
      refine ⟨flLns l, (flLns l).length, 0, rfl, ⟨rfl, rfl⟩, fun W h => (hA W h).mono fun e w' ⟨h1, h2⟩ => ?_⟩
      obtain ⟨u, h3, h4⟩ := h1
      have h5 : LnRow w' u (flLns l) := RowOf.of_owns Ln.cells_length h4
      have h6 := h5
      obtain ⟨q, c, rfl, _⟩ := h6
      exact ⟨q, c, h3, h5, h2⟩
  have HAN := Lib.hid hAN; have HAy := Lib.hid hAy
  clear hAN hAy
  go_upto_region 5 with (go_at_call 12; (with_reducible refine (hAll _ inferInstance).mono ?_); rintro e w' ⟨q4, c4, rfl, h4, z4, rfl⟩)
  refine wp_letter (fun W => UpI X W ∧ LnRow W (.slice q4 AN c4) AL) ⟨inferInstance, h4⟩ ?_
  clear h4 hAll
  rintro Y ⟨uY, h4⟩
  haveI := uY
  haveI : UpI w Y := ⟨uX.up.trans uY.up⟩
  have H4 := Lib.hid h4
  clear h4
  go_wp2_with fail
  go_loopw [6, 7, 27] (fun out wg i wr => ∃ k : Nat, k ≤ N ∧ i = .int .i64 (k : Int) ∧ wg = .int .i64 (wrongL (l.take k)) ∧ Hid (wr.ownsRow Y.heap.size 47 11 out k ((flLns (l.take k)).flatMap Ln.cells)) ∧ Up Y wr) (fun _ _ i _ => N - (intOf i).toNat)
  case atStart => exact ⟨0, Nat.zero_le _, rfl, rfl, Lib.hid (World.ownsRow_nil _ _ _ _), Up.refl _⟩
  case round =>
    obtain ⟨k, hk, rfl, rfl, Hown, hu⟩ := hrel
    haveI : UpI Y wr := ⟨hu⟩
    haveI : UpI X wr := ⟨uY.up.trans hu⟩
    haveI : UpI w wr := ⟨uX.up.trans (uY.up.trans hu)⟩
    by_cases hlt : k < N
    · have hlt' : (k : Int) < (N : Int) := by omega
      have k0 : (0 : Int) ≤ (k : Int) := by omega
      obtain ⟨f, hf⟩ : ∃ f, l[k]? = some f := ⟨_, List.getElem?_eq_getElem (by rw [HN.out]; exact hlt)⟩
      obtain ⟨b1, o1, rfl, hb1, hc1⟩ := Hc.out k f hf
      have hX : wr.rangeAt b1 (o1 + k * 23) f.cells := fun t u hj => (upI : Up w wr).cell_some (hc1 t u hj)
      haveI : LtSize b1 wr := ⟨Nat.lt_of_lt_of_le hb1 (upI : Up w wr).size⟩
      obtain ⟨p', c', he3, hle3, hc3⟩ := HP.out
      rw [HN.out] at he3 hle3
      simp only [Value.slice.injEq, true_and] at he3
      obtain ⟨rfl, rfl⟩ := he3
      obtain ⟨b3, o3, rfl, hb3, hq3⟩ := hc3 k f hf
      have hfb := Hb.out f (List.mem_of_getElem? hf)
      have hOf := fun W (h : UpI w W) => dof_any f hfb W (g.up h.up)
      have hLf := fun W => lflow_any f hfb W
      have hRo := fun W => rof_any f hfb W
      have hES := fun W => eq_flowS f W
      have HWs := Lib.hid (wrongL_snoc l k f hf)
      have hw02 := wrongL_02 (l.take k)
      have he02 := ofE_02 f.of
      have HLs := Lib.hid (show (flLns (l.take (k + 1))).flatMap Ln.cells = (flLns (l.take k)).flatMap Ln.cells ++ (f.of.getD Ln.zero).cells by rw [flLns_snoc l k f hf]; simp)
      have Hq3 := Lib.hid hq3
      have hrcS : f.rcells.toArray.all (·.oneCell') = true := rcells_one f
      clear hc1 hf hc3 hq3 hfb
      generalize (flLns (l.take k)).flatMap Ln.cells = cs at *
      generalize ofE f.of = ev at *
      generalize f.of.getD Ln.zero = x at *
      generalize wrongL (l.take k) = wv at *
      generalize f.rcells.toArray = rfc at *
      go_upto_region 10 with (first
        | ((with_reducible refine held ?_); refine H_load_mid rfl 42 _ rfl b1 (o1 + k * 23) rfl f.cells _ hX Tryz.underlying42 rfl flowSize ?_)
        | ((with_reducible refine held ?_); refine H_store_row rfl 42 _ _ rfl _ f.cells.toArray rfl rfl 42 _ (alloc_new rfl) flowSize rfl (fl_one f) ?_))
      obtain ⟨D, hD⟩ : ∃ D, wr.heap.size = D := ⟨_, rfl⟩
      rw [hD]
      refine wp_letter (fun Z => UpI wr Z ∧ Z.heap[D]? = some (.cells f.cells.toArray 42 (0, 0))) ⟨⟨UpI.row hD _⟩, setRow_heap _ _ _ _ _ _ (alloc_new hD)⟩ ?_
      rintro Z ⟨uZ, hZ⟩
      haveI := uZ
      haveI : UpI w Z := ⟨(upI : Up w wr).trans uZ.up⟩
      haveI : LtSize D Z := ⟨(Array.getElem?_eq_some_iff.1 hZ).1⟩
      clear hX hD
      go_upto_region 11 with (first
        | ((with_reducible refine held ?_); refine H_load_row rfl 42 _ rfl D rfl 42 f.cells.toArray (0, 0) _ hZ Tryz.underlying42 rfl flowSize ?_)
        | ((with_reducible refine held ?_); refine H_store_row rfl 44 _ _ rfl _ x.cells.toArray rfl rfl 44 _ (alloc_new rfl) lnSize rfl (ln_all x) ?_)
        | (go_at_call 13; (with_reducible refine (hOf _ inferInstance).mono ?_); rintro e w' ⟨rfl, z1, rfl⟩))
      obtain ⟨E1, hE1⟩ : ∃ E, z1.w.heap.size = E := ⟨_, rfl⟩
      rw [hE1]
      refine wp_letter (fun V => UpI Z V ∧ V.heap[E1]? = some (.cells x.cells.toArray 44 (0, 0))) ⟨⟨UpI.row hE1 _⟩, setRow_heap _ _ _ _ _ _ (alloc_new hE1)⟩ ?_
      clear hE1 hOf
      rintro V ⟨uV, hVE⟩
      haveI := uV
      haveI : UpI w V := ⟨(upI : Up w Z).trans uV.up⟩
      haveI : LtSize E1 V := ⟨(Array.getElem?_eq_some_iff.1 hVE).1⟩
      haveI : LtSize D V := ⟨Nat.lt_of_lt_of_le (LtSize.lt (b := D) (w := Z)) uV.up.size⟩
      have hVD : V.heap[D]? = some (.cells f.cells.toArray 42 (0, 0)) := (uV.up.block D (LtSize.lt (b := D) (w := Z))).trans hZ
      go_upto_region 12 with (first
        | ((with_reducible refine held ?_); refine H_load_row rfl 42 _ rfl D rfl 42 f.cells.toArray (0, 0) _ hVD Tryz.underlying42 rfl flowSize ?_)
        | ((with_reducible refine held ?_); refine H_store_row rfl 47 _ _ rfl _ x.cells.toArray rfl rfl 47 _ (alloc_new rfl) rlnSizeF rfl (ln_all x) ?_)
        | (go_at_call 15; (with_reducible refine (hLf _).mono ?_); rintro e w' ⟨rfl, z2, rfl⟩)
        | (go_at_call 14; (with_reducible refine (hRo _).mono ?_); rintro e w' ⟨rfl, z3, rfl⟩))
      obtain ⟨E2, hE2⟩ : ∃ E, z3.w.heap.size = E := ⟨_, rfl⟩
      rw [hE2]
      refine wp_letter (fun U => UpI V U ∧ U.heap[E2]? = some (.cells x.cells.toArray 47 (0, 0))) ⟨⟨UpI.row hE2 _⟩, setRow_heap _ _ _ _ _ _ (alloc_new hE2)⟩ ?_
      clear hE2 hLf hRo hZ
      rintro U ⟨uU, hUE⟩
      haveI := uU
      haveI : UpI Z U := ⟨uV.up.trans uU.up⟩
      haveI : UpI wr U := ⟨uZ.up.trans (upI : Up Z U)⟩
      haveI : UpI Y U := ⟨hu.trans (upI : Up wr U)⟩
      haveI : LtSize E2 U := ⟨(Array.getElem?_eq_some_iff.1 hUE).1⟩
      have r1 : U.rangeAt E1 0 x.cells := fun j u hj => by rw [Nat.zero_add]; exact uU.up.cell_some' (row_cellF hVE j u (by simpa using hj))
      have r2 : U.rangeAt E2 0 x.cells := fun j u hj => by rw [Nat.zero_add]; exact row_cellF hUE j u (by simpa using hj)
      have r3 : U.rangeAt D 0 f.cells := fun j u hj => by rw [Nat.zero_add]; exact uU.up.cell_some' (row_cellF hVD j u (by simpa using hj))
      have r4 : U.rangeAt b3 (o3 + k * 23) f.cells := fun t u hj => ((upI : Up X wr).trans (upI : Up wr U)).cell_some (Hq3.out t u hj)
      clear hVE hVD
      (try go_frame)
      refine wp_region_ext (by kernel_rfl) (by kernel_rfl) ?_
      repeat (first
        | go_big_quiet_skip
        | ((with_reducible refine held ?_); refine HQ_load_mid (by kernel_rfl) 44 _ rfl E1 (0) rfl x.cells _ (range_ext r1) Tryz.underlying44 rfl lnSize ?_; simp only [Act.put, List.setIfInBounds_toArray, List.set_cons_succ, List.set_cons_zero])
        | ((with_reducible refine held ?_); refine HQ_load_mid (by kernel_rfl) 47 _ rfl E2 (0) rfl x.cells _ (range_ext r2) Tryz.underlying47 rfl rlnSizeF ?_; simp only [Act.put, List.setIfInBounds_toArray, List.set_cons_succ, List.set_cons_zero])
        | ((with_reducible refine held ?_); refine HQ_load_mid (by kernel_rfl) 42 _ rfl D (0) rfl f.cells _ (range_ext r3) Tryz.underlying42 rfl flowSize ?_; simp only [Act.put, List.setIfInBounds_toArray, List.set_cons_succ, List.set_cons_zero])
        | ((with_reducible refine held ?_); refine HQ_load_mid (by kernel_rfl) 42 _ rfl b3 (o3 + k * 23) rfl f.cells _ (range_ext r4) Tryz.underlying42 rfl flowSize ?_; simp only [Act.put, List.setIfInBounds_toArray, List.set_cons_succ, List.set_cons_zero])
        | go_big_quiet_step (fail))
      refine wpQuiet_nil ?_
      rintro _ ⟨z12, rfl⟩
      clear r1 r2 r3 r4 hES
      have hUE2 : z12.w.heap[E2]? = some (.cells x.cells.toArray 47 (0, 0)) := (z12.up.block E2 (LtSize.lt (b := E2))).trans hUE
      obtain ⟨wn, HWn⟩ : ∃ n, Hid (wrongL (l.take (k + 1)) = n) := ⟨_, Lib.hid rfl⟩
      rcases hw02 with h | h <;> rcases he02 with h2 | h2
      all_goals subst h; subst h2
      all_goals
        go_wp2_with (first
          | ((with_reducible refine held ?_); refine H_load_row rfl 47 _ rfl E2 rfl 47 x.cells.toArray (0, 0) _ hUE2 Tryz.underlying47 rfl rlnSizeF ?_)
          | ((with_reducible refine held ?_); refine H_sliceRun rfl 30 1 _ rfl #[(0, .agg x.cells.toArray)] (by kernel_rfl) _ _ (slice_rline x _) ?_)
          | (at_builtin; (with_reducible refine held ?_); refine H_append_own rfl _ _ 30 rfl Y.heap.size 47 i2 Ln.zero.val 11 40 Tryz.underlying30 Hi.out Hy0.out Hy1.out Hy2.out rfl (by decide) _ _ _ rfl (owns_up Hown.out (upI : Up wr _)) ⟨_, 0, none⟩ 1 1 x.cells rfl rfl (by intro j u hj; first | exact ln_atF z12.w x _ j u hj | (rw [lnBlk_one]; exact ln_atF z12.w x _ j u hj)) (fun u h => x.one u h) (Nat.le_trans (Nat.succ_le_of_lt (Nat.lt_of_lt_of_le hlt hN100)) (by unfold maxLen; decide)) (Nat.le_trans (Nat.mul_le_mul_right 40 (Nat.succ_le_of_lt (Nat.lt_of_lt_of_le hlt hN100))) (by decide)) (upI : Up Y _).size ?_; intro v' w1 hown' hgrow _; have hu1 : Up Y w1 := Up.grown (upI : Up Y _) hgrow (owns_row Hown.out)))
        go_roundw
        case rel => exact ⟨k + 1, Nat.succ_le_of_lt hlt, by go_num, by rw [HWs.out]; rfl, by rw [HLs.out]; exact Lib.hid hown', hu1⟩
        case measure => simp [intOf]; omega
    · obtain rfl : k = N := by omega
      have hown2 := Hown.out
      have hlt0 : l.take k = l := List.take_of_length_le (by rw [HN.out]; exact Nat.le_refl _)
      rw [hlt0] at hown2
      have hk2 : (flLns l).length = k := by unfold flLns; rw [List.length_map]; exact HN.out
      have hrow2 := hown2
      rw [← hk2] at hrow2
      have hout : LnRow wr _ (flLns l) := RowOf.of_owns Ln.cells_length hrow2
      have Hout := Lib.hid hout
      have hwr : wrongL (l.take k) = wrongL l := by rw [hlt0]
      rw [hwr]
      clear hown2 hrow2 hlt0 hk2 hout hwr Hown
      have hw02 := wrongL_02 l
      have hAw := fun W (h : UpI w W) => dawake_any W (g.goodD.up h.up)
      rcases hw02 with h | h
      · obtain ⟨hAL, hEA⟩ : AL = flLns l ∧ EA = 0 := by have h2 := HAy.out; rwa [if_pos h] at h2
        rw [h]
        subst hEA
        have hE := fun W (h : UpI wr W) => (equals_any AL (flLns l) _ _ W (RowOf.up H4.out (hu.trans h.up)) (RowOf.up Hout.out h.up) (by rw [hAL]; unfold flLns; rw [List.length_map, HN.out]; exact Nat.le_trans hN100 (by decide)) (by unfold flLns; rw [List.length_map, HN.out]; exact Nat.le_trans hN100 (by decide))).cast (by rw [hAL, beq_self_eq_true])
        clear h HAy hAL
        go_wp2_with (first
          | (go_at_call 16; (with_reducible refine (hE _ inferInstance).mono ?_); rintro e w' ⟨rfl, s1, rfl⟩)
          | (go_at_call 11; (with_reducible refine (hAw _ inferInstance).mono ?_); rintro e w' ⟨rfl, s2, rfl⟩))
        go_ret
        exact ⟨rfl, mkI⟩
      · obtain ⟨hAN, hEA⟩ : AN = 0 ∧ EA = 380 := by have h2 := HAy.out; rwa [if_neg (by rw [h]; decide)] at h2
        rw [h]
        subst hEA
        subst hAN
        clear h HAy
        go_wp2_with (go_at_call 11; (with_reducible refine (hAw _ inferInstance).mono ?_); rintro e w' ⟨rfl, s2, rfl⟩)
        go_ret
        exact ⟨rfl, mkI⟩
end Go.Proofs.YteciigbonaecoaaGreatDoor
namespace Go.Proofs.YteciigbonaecoaaGreatDoor.dumpFlows
open Go.ChangeShapes Go.WideShapes Go.ChangeAt Go.RowKit Go.Ab
def args0 : Array Value := #[.slice none 0 0]
theorem hts : ∀ t ∈ Tryz.f4.params.toList, Tryz.prog.readableRec t = true ∧ t < Tryz.prog.types.size := of_decide_eq_true (by kernel_rfl)
set_option maxRecDepth 100000 in
theorem contract (H : Type) (enc : TypeId × Value → H) (W : World) (base : Nat) (args : Array Value) (ds gs : List (DataW H)) (before : List MemPlace)
    (hval : ∀ (j : Nat) t v, Tryz.f4.params[j]? = some t → args[j]? = some v → Value.okWide Tryz.prog W .any base t v)
    (hW : DataW.Whole enc Tryz.prog Tryz.f4.params.toList Rows.dumpFlowsSpec.vars false W args.toList ds gs before) (hL : laidMetH Tryz.prog LF.laidList W) (hsh : W.ShapedOpen Tryz.prog) :
    Calls Tryz.prog 4 args W fun e W' => ∃ v, e = .returned v ∧ Rows.dumpFlowsSpec.post enc Tryz.prog Tryz.f4 false true false false W args v W' := by
  have g := LF.goodF_of hL hsh
  clear hL hsh
  have hW' := hW
  obtain ⟨p, q, hA0, hV, rfl, hfz, hnd⟩ := hW
  have hA : DataW.TrodAll enc Tryz.prog W 0 (fun _ => true) true Tryz.f4.params.toList args.toList ds p := hA0
  rw [Tryz.params4] at hA hval
  obtain ⟨v0, vs0, d0, ds0, p0, q0, hargs, rfl, rfl, h0, t0⟩ := trodAll_cons hA
  obtain ⟨rfl, rfl, rfl⟩ := trodAll_nil t0
  obtain rfl : args = #[v0] := by cases args; simp_all
  obtain ⟨rfl, rfl⟩ := trodVars_none hV
  have n0 := nilok_slice Tryz.underlying26 (hval 0 26 v0 rfl rfl) h0
  obtain ⟨l0, r0, b0, m0⟩ := open_flows (hval 0 26 v0 rfl rfl) h0
  clear hA0 hval
  refine (dflows_any l0 v0 W g r0 n0 b0).mono fun e W' ⟨he, x, hx⟩ => ?_
  subst he
  have hb' : Below W.heap.size W W' := hx ▸ x.up
  exact ⟨_, rfl, post_true laidOut 4 Tryz.underlying4 rfl hts hW' rfl rfl rfl rfl hb'⟩
theorem reads (os : Os) {H : Type} (enc : TypeId × Value → H) : ∃ places, DataW.whole enc Tryz.prog ((LF.laidWorld os).forCall (fun _ _ => 0) ⟨#[], args0, []⟩).memory Tryz.f4.params.toList Rows.dumpFlowsSpec.vars false args0.toList 8 = some ([.nil], [], places) :=
  ⟨[], by kernel_rfl⟩
set_option maxRecDepth 100000 in
theorem lifted (os : Os) (started : os.Started) (H : Type) (enc : TypeId × Value → H) (F : Stop.Interp) :
    ReturnsInHanded {} Tryz.checked os 4 .any ((OpenSpec.ofChange Rows.dumpFlowsSpec).preRow enc Tryz.prog Tryz.f4 Rows.dumpFlowsRow.domain false Rows.dumpFlowsRow.laid) (((OpenSpec.ofChange Rows.dumpFlowsSpec).at F).post enc Tryz.prog Tryz.f4 false true false false) := by
  obtain ⟨places, hx⟩ := reads os enc
  refine returnsInHanded_of_row (C := Tryz.checked) (s := (OpenSpec.ofChange Rows.dumpFlowsSpec)) own started (by kernel_rfl) Tryz.func4
    (witness_row_atRef (enc := enc) (C := Tryz.checked) false (LF.laidWorld os) args0 rfl (by kernel_rfl) (by kernel_rfl) (by kernel_rfl)
      (OpenSpec.preRow_of_cond 8 hx (by kernel_rfl) (fun k hk => by cases hk) (by kernel_rfl) (LF.laid_met os _))) ?_
  intro W base args ds gs before hval hW _ hcond _ hL hsh _
  exact contract H enc W base args ds gs before hval hW hL hsh
theorem said : Rows.DumpFlowsSaid :=
  OpenClaim.holds_of_cond 4 Tryz.f4 rfl rfl rfl rfl rfl rfl rfl ⟨rfl, rfl, rfl, rfl, rfl⟩ rfl rfl rfl rfl rfl (by kernel_rfl) Tryz.func4 (by kernel_rfl)
    (of_decide_eq_true (by kernel_rfl)) (by unfold Func.isWrapper; first | (rw [if_pos (by decide +kernel)]; kernel_rfl) | (rw [if_neg (by decide +kernel)]; exact ⟨rfl, rfl⟩))
    (fun os started H enc _ F => by rw [OpenClaim.pre_eq_preRow]; exact lifted os started H enc F)
theorem plain (f : FuncId) (fn : Func) (hf : Tryz.pinned.checked.prog.funcNamed "baffle/bafflelaw38.DumpFlows" = some f) (hfn : Tryz.pinned.checked.prog.funcs[f]? = some fn) :
    true = Tryz.pinned.checked.prog.looks [] ∧ ∀ (j : Nat) t, fn.params[j]? = some t → Tryz.pinned.checked.prog.wantsStandIn t = false := by
  obtain rfl : f = 4 := Option.some.inj ((show Tryz.prog.funcNamed "baffle/bafflelaw38.DumpFlows" = some 4 by kernel_rfl).symm.trans hf) |>.symm
  obtain rfl : fn = Tryz.f4 := (Option.some.inj (Tryz.func4.symm.trans hfn)).symm
  refine ⟨by kernel_rfl, fun j t ht => ?_⟩
  have hm : t ∈ Tryz.f4.params.toList := by simpa using Array.mem_of_getElem? ht
  exact (show ∀ t ∈ Tryz.f4.params.toList, Tryz.prog.wantsStandIn t = false from of_decide_eq_true (by kernel_rfl)) t hm
theorem dumpFlows_card : Rows.DumpFlowsCardSaid :=
  Claim7.holds_tied_plain_at .later [] _ _ _ _ said (fun _ h => by cases h) (by kernel_rfl) (fun _ h => by cases h) dumpFlows_row_tie rfl ⟨rfl, rfl⟩ (by kernel_rfl) rfl plain (by kernel_rfl)
end Go.Proofs.YteciigbonaecoaaGreatDoor.dumpFlows
