/- DumpApplies, walked: Apply of package dump against the reference. -/
import Derived.Test.YtlbbepgfjigjpaaGreatDoorApC
set_option linter.unusedSimpArgs false
set_option linter.unusedVariables false
namespace Go.Proofs.YtlbbepgfjigjpaaGreatDoor
open Go.RowKit Go.Ab
theorem infoDCh : (Tryz.prog.info? 44).map (fun i => (i.zero, i.size, i.bytes)) = some (some (Ch.mk 0 Ln.zero Ln.zero).val, 23, 88) := by kernel_rfl
theorem slice_e2 (w : World) : (Instr.buildSlice 37 0 #[]).run Tryz.prog w = .ok (.slice (some ⟨w.heap.size, 0, none⟩) 0 0) (w.alloc (.cells #[] 44)) := by kernel_rfl
theorem apFrom_len : ∀ (l : List Ch) (prev : Option Ch) (out rest M : List Ln), apFrom prev out rest l = some M → M.length ≤ out.length + rest.length + l.length
  | [], prev, out, rest, M, h => by
    rw [apFrom] at h
    obtain rfl := Option.some.inj h
    simp
  | c :: t, prev, out, rest, M, h => by
    rw [apFrom_cons] at h
    split at h
    · cases h
    · split at h
      · have h1 := apFrom_len t _ _ _ M h
        have h2 : (apStep out rest c).1.length + (apStep out rest c).2.length ≤ out.length + rest.length + 1 := by
          have h3 : ((rest.takeWhile fun x => decide (x.cmp (chLn c) < 0)) ++ (rest.dropWhile fun x => decide (x.cmp (chLn c) < 0))).length = rest.length := by rw [List.takeWhile_append_dropWhile]
          rw [List.length_append] at h3
          unfold apStep
          simp only [List.length_append]
          split <;> split <;> simp <;> omega
        simp only [List.length_cons]
        omega
      · cases h
theorem apFrom_len' {a : List Ln} {l : List Ch} {M : List Ln} (h : refApplyL a l = some M) (ha : a.length ≤ 40) (hl : l.length ≤ 40) : M.length ≤ 1000000 := by
  unfold refApplyL at h
  split at h
  · have := apFrom_len l _ _ _ M h
    simp at this
    omega
  · cases h
theorem flat_snocC (l : List Ch) (k : Nat) (y : Ch) (h : l[k]? = some y) : (l.take (k + 1)).flatMap Ch.cells = (l.take k).flatMap Ch.cells ++ y.cells := by
  rw [take_snoc3 l k y h, List.flatMap_append]; simp
attribute [local go_sem high] eq_ch
set_option maxHeartbeats 32000000 in
set_option maxRecDepth 100000 in
theorem applies_any (a : List Ln) (l : List Ch) (va vl : Value) (w : World) (ha : LnRow w va a) (hl : ChRow w vl l) (na : ∀ n c, va = .slice none n c → c = 0) (nl : ∀ n c, vl = .slice none n c → c = 0) (ba : ∀ x ∈ a, LnB x) (bl : ∀ c ∈ l, ChB c) (la : a.length ≤ 9223372036854775807) (ll : l.length ≤ 9223372036854775807) :
    Gives Tryz.prog 10 #[va, vl] w (.bool true) := by
  have hrowA := ha
  have hrowL := hl
  obtain ⟨pa, capa, rfl, hlea, hca⟩ := ha
  obtain ⟨pl, capl, rfl, hlel, hcl⟩ := hl
  obtain ⟨A, hA⟩ : ∃ N, a.length = N := ⟨_, rfl⟩
  obtain ⟨N, hN⟩ : ∃ N, l.length = N := ⟨_, rfl⟩
  rw [hA] at hlea la hrowA na ⊢
  rw [hN] at hlel ll hrowL nl ⊢
  have HA := Lib.hid hA; have HN := Lib.hid hN; have HCA := Lib.hid hca; have HCL := Lib.hid hcl; have Hba := Lib.hid ba; have Hbl := Lib.hid bl; have HRA := Lib.hid hrowA; have HRL := Lib.hid hrowL
  clear hA hN hca hcl ba bl hrowA hrowL
  unfold Gives
  go_enter Tryz.func10, Tryz.ntmps10
  by_cases ha40 : 40 < A
  · have ha40' : (40 : Int) < (A : Int) := by omega
    go_wp2_with fail
    go_ret
    exact ⟨rfl, mkI⟩
  have ha40' : ¬ (40 : Int) < (A : Int) := by omega
  by_cases hl40 : 40 < N
  · have hl40' : (40 : Int) < (N : Int) := by omega
    go_wp2_with fail
    go_ret
    exact ⟨rfl, mkI⟩
  have hl40' : ¬ (40 : Int) < (N : Int) := by omega
  have hA40 : A ≤ 40 := by omega
  have hN40 : N ≤ 40 := by omega
  obtain ⟨i1, hi, hy0, hy1, hy2⟩ := info_parts infoLine
  have Hi1 := Lib.hid hi; have Hy01 := Lib.hid hy0; have Hy11 := Lib.hid hy1; have Hy21 := Lib.hid hy2
  clear hi hy0 hy1 hy2
  obtain ⟨i2, hi, hy0, hy1, hy2⟩ := info_parts infoDCh
  have Hi2 := Lib.hid hi; have Hy02 := Lib.hid hy0; have Hy12 := Lib.hid hy1; have Hy22 := Lib.hid hy2
  clear hi hy0 hy1 hy2
  have hk1 : 0 + A ≤ maxLen ∧ (0 + A) * 40 ≤ 140737488355328 ∧ 0 + N ≤ maxLen ∧ (0 + N) * 88 ≤ 140737488355328 := by unfold maxLen; omega
  have hk1 : A ≤ maxLen ∧ A * 40 ≤ 140737488355328 ∧ N ≤ maxLen ∧ N * 88 ≤ 140737488355328 := by unfold maxLen; omega
  obtain ⟨e1, e2, e3, e4⟩ := hk1
  go_upto_region 4 with (first
    | (at_builtin; refine wpList_append_fresh rfl _ _ 22 rfl 31 i1 Ln.zero.val 11 40 Tryz.underlying22 Hi1.out Hy01.out Hy11.out Hy21.out rfl (by decide) Ln.cells_length _ rfl _ a rfl (RowOf.up HRA.out (upI : Up w _)) na (by rw [HA.out]; exact e1) (by rw [HA.out]; exact e2) ?_; rw [HA.out]; intro p5 c5 w5 u5 r5; haveI : UpI w w5 := ⟨(upI : Up w _).trans u5⟩)
    | ((with_reducible refine held ?_); refine H_sliceRun rfl 37 0 _ rfl #[] (by kernel_rfl) _ _ (slice_e2 _) ?_)
    | (at_builtin; refine wpList_append_fresh rfl _ _ 37 rfl 44 i2 (Ch.mk 0 Ln.zero Ln.zero).val 23 88 Tryz.underlying37 Hi2.out Hy02.out Hy12.out Hy22.out rfl (by decide) Ch.cells_length _ rfl _ l rfl (RowOf.up HRL.out (upI : Up w _)) nl (by rw [HN.out]; exact e3) (by rw [HN.out]; exact e4) ?_; rw [HN.out]; intro q6 c6 w6 u6 r6; haveI : UpI w5 w6 := ⟨(upI : Up w5 _).trans u6⟩; haveI : UpI w w6 := ⟨(upI : Up w w5).trans upI⟩))
  refine wp_letter (fun W => UpI w W ∧ LnRow W (.slice p5 A c5) a ∧ ChRow W (.slice q6 N c6) l) ⟨inferInstance, RowOf.up r5 (upI : Up w5 w6), r6⟩ ?_
  clear r5 r6 u5 u6
  rintro X ⟨uX, hP, hQ⟩
  haveI := uX
  have HP := Lib.hid hP
  have HQ := Lib.hid hQ
  clear hP hQ na nl
  obtain ⟨M, E7, hME⟩ : ∃ (M : List Ln) (E7 : Int), Hid ((refApplyL a l = some M ∧ E7 = 0) ∨ (refApplyL a l = none ∧ M = [] ∧ E7 = 383)) := by
    cases refApplyL a l with
    | none => exact ⟨[], 383, Lib.hid (Or.inr ⟨rfl, rfl, rfl⟩)⟩
    | some M => exact ⟨M, 0, Lib.hid (Or.inl ⟨rfl, rfl⟩)⟩
  have hap : ∀ W, UpI X W → Calls Tryz.prog 33 #[.slice p5 A c5, .slice q6 N c6] W fun e w' => ∃ q n c, e = .returned (.tuple #[.slice q n c, .int .i64 E7]) ∧ LnRow w' (.slice q n c) M ∧ ∃ x : Ext W, w' = x.w := fun W h =>
    (apply_any a l _ _ W (RowOf.up HP.out h.up) (RowOf.up HQ.out h.up) Hba.out (fun c hc => (Hbl.out c hc).new) (by rw [HA.out]; exact Nat.le_trans hA40 (by decide)) (by rw [HN.out]; exact Nat.le_trans hN40 (by decide))).mono fun e w' ⟨⟨L, p1, p2, h⟩, hx⟩ => by
      have hr := refApply_eq a L l p1 p2
      rcases h with ⟨hB, u, h1, h2⟩ | ⟨hB, h1⟩
      · have h4 : LnRow w' u L := RowOf.of_owns Ln.cells_length h2
        have h5 := h4
        obtain ⟨q, c, rfl, _⟩ := h5
        rw [hB, if_pos rfl] at hr
        rcases hME.out with ⟨e1, e2⟩ | ⟨e1, _⟩
        · rw [hr] at e1
          obtain rfl := Option.some.inj e1
          subst e2
          exact ⟨q, _, c, h1, h4, hx⟩
        · rw [hr] at e1; cases e1
      · rw [hB, if_neg (by simp)] at hr
        rcases hME.out with ⟨e1, e2⟩ | ⟨_, e2, e3⟩
        · rw [hr] at e1; cases e1
        · subst e2; subst e3
          exact ⟨none, 0, 0, h1, RowOf.nil _, hx⟩
  have hrA : ∀ (u : Value) (base : Nat) (out : Value) (W : World), W.ownsRow base 60 11 u a.length (a.flatMap Ln.cells) → ChRow W out l → Calls Tryz.prog 34 #[u, out] W fun e w' => ∃ q n c, e = .returned (.tuple #[.slice q n c, .int .i64 E7]) ∧ LnRow w' (.slice q n c) M ∧ ∃ x : Ext W, w' = x.w := fun u base out W h1 h2 =>
    (rapply_any a l u out base W h1 h2 Hba.out (fun c hc => ⟨(Hbl.out c hc).old, (Hbl.out c hc).new⟩) (by rw [HA.out]; exact Nat.le_trans hA40 (by decide)) (by rw [HN.out]; exact Nat.le_trans hN40 (by decide))).mono fun e w' ⟨h, hx⟩ => by
      rcases hME.out with ⟨e1, e2⟩ | ⟨e1, e2, e3⟩
      · rw [e1] at h
        obtain ⟨v, h3, h4⟩ := h
        have h5 : LnRow w' v M := RowOf.of_owns Ln.cells_length h4
        have h6 := h5
        obtain ⟨q, c, rfl, _⟩ := h6
        subst e2
        exact ⟨q, _, c, h3, h5, hx⟩
      · rw [e1] at h
        subst e2; subst e3
        exact ⟨none, 0, 0, h, RowOf.nil _, hx⟩
  have HRf := Lib.hid hrA
  have hMl : M.length ≤ 1000000 := by
    rcases hME.out with ⟨e1, _⟩ | ⟨_, e2, _⟩
    · exact apFrom_len' e1 (by rw [HA.out]; exact hA40) (by rw [HN.out]; exact hN40)
    · rw [e2]; exact Nat.zero_le _
  have HMl := Lib.hid hMl
  clear hrA hMl hME
  go_upto_region 6 with (go_at_call 33; (with_reducible refine (hap _ inferInstance).mono ?_); rintro e w' ⟨q7, n7, c7, rfl, hM, x7, rfl⟩)
  obtain ⟨i3, hi, hy0, hy1, hy2⟩ := info_parts infoRCh
  have Hi3 := Lib.hid hi; have Hy03 := Lib.hid hy0; have Hy13 := Lib.hid hy1; have Hy23 := Lib.hid hy2
  clear hi hy0 hy1 hy2 hap
  refine wp_letter (fun Y => UpI X Y ∧ LnRow Y (.slice q7 n7 c7) M) ⟨inferInstance, hM⟩ ?_
  clear hM
  rintro Y ⟨uY, hM⟩
  haveI := uY
  haveI : UpI w Y := ⟨uX.up.trans uY.up⟩
  have HM := Lib.hid hM
  clear hM
  go_wp2_with fail
  go_loopw [9, 36] (fun out i wr => ∃ k : Nat, k ≤ N ∧ i = .int .i64 (k : Int) ∧ Hid (wr.ownsRow Y.heap.size 89 23 out k ((l.take k).flatMap Ch.cells)) ∧ Up Y wr) (fun _ i _ => N - (intOf i).toNat)
  case atStart => exact ⟨0, Nat.zero_le _, rfl, Lib.hid (World.ownsRow_nil _ _ _ _), Up.refl _⟩
  case round =>
    obtain ⟨k, hk, rfl, Hown, hu⟩ := hrel
    haveI : UpI Y wr := ⟨hu⟩
    haveI : UpI X wr := ⟨uY.up.trans hu⟩
    haveI : UpI w wr := ⟨uX.up.trans (uY.up.trans hu)⟩
    by_cases hlt : k < N
    · have hlt' : (k : Int) < (N : Int) := by omega
      have k0 : (0 : Int) ≤ (k : Int) := by omega
      obtain ⟨c, hx⟩ : ∃ c, l[k]? = some c := ⟨_, List.getElem?_eq_getElem (by rw [HN.out]; exact hlt)⟩
      obtain ⟨b1, o1, rfl, hb1, hc1⟩ := HCL.out k c hx
      have hX : wr.rangeAt b1 (o1 + k * 23) c.cells := fun t u hj => (upI : Up w wr).cell_some (hc1 t u hj)
      haveI : LtSize b1 wr := ⟨Nat.lt_of_lt_of_le hb1 (upI : Up w wr).size⟩
      obtain ⟨p', c', he6, hle6, hc6⟩ := HQ.out
      rw [HN.out] at he6 hle6
      simp only [Value.slice.injEq, true_and] at he6
      obtain ⟨rfl, rfl⟩ := he6
      obtain ⟨b6, o6, rfl, hb6, hq6⟩ := hc6 k c hx
      have HF := Lib.hid (flat_snocC l k c hx)
      have Hq6 := Lib.hid hq6
      clear hc1 hx hc6 hq6
      generalize (l.take k).flatMap Ch.cells = cs at *
      go_upto_region 9 with (first
        | ((with_reducible refine held ?_); refine H_load_mid rfl 44 _ rfl b1 (o1 + k * 23) rfl c.cells _ hX Tryz.underlying44 rfl chSize ?_)
        | ((with_reducible refine held ?_); refine H_store_row rfl 44 _ _ rfl _ c.cells.toArray rfl rfl 44 _ (alloc_new rfl) chSize rfl (Array.all_eq_true_iff_forall_mem.2 (fun u hu => chg_one c u (by simpa using hu))) ?_))
      obtain ⟨D, hD⟩ : ∃ D, wr.heap.size = D := ⟨_, rfl⟩
      rw [hD]
      refine wp_letter (fun Z => UpI wr Z ∧ Z.heap[D]? = some (.cells c.cells.toArray 44 (0, 0))) ⟨⟨UpI.row hD _⟩, setRow_heap _ _ _ _ _ _ (alloc_new hD)⟩ ?_
      rintro Z ⟨uZ, hZh⟩
      have hZ := range_heap hZh
      haveI := uZ
      haveI : UpI Y Z := ⟨hu.trans uZ.up⟩
      haveI : LtSize D Z := ⟨cell_lt (hZ 0 _ rfl)⟩
      have hQk : Z.rangeAt b6 (o6 + k * 23) c.cells := fun t u hj => ((upI : Up X wr).trans uZ.up).cell_some (Hq6.out t u hj)
      haveI : LtSize b6 Z := ⟨Nat.lt_of_lt_of_le hb6 ((upI : Up X wr).trans uZ.up).size⟩
      clear hX hD hZh
      have hEq : ∀ W, (Op.equalIn 10000 44 (.agg c.cells.toArray) (.agg c.cells.toArray)).run Tryz.prog W = .ok true W := fun W => by rw [eq_ch, decide_eq_true rfl]
      (try go_frame)
      refine wp_region_ext (by kernel_rfl) (by kernel_rfl) ?_
      repeat (first
        | go_big_quiet_skip
        | ((with_reducible refine held ?_); refine HQ_load_mid (by kernel_rfl) 44 _ rfl D (0) rfl c.cells _ (range_ext hZ) Tryz.underlying44 rfl chSize ?_; simp only [Act.put, List.setIfInBounds_toArray, List.set_cons_succ, List.set_cons_zero])
        | ((with_reducible refine held ?_); refine HQ_load_mid (by kernel_rfl) 44 _ rfl b6 (o6 + k * 23) rfl c.cells _ (range_ext hQk) Tryz.underlying44 rfl chSize ?_; simp only [Act.put, List.setIfInBounds_toArray, List.set_cons_succ, List.set_cons_zero])
        | go_big_quiet_step (fail))
      refine wpQuiet_nil ?_
      rintro _ ⟨z9, rfl⟩
      go_upto_region 11 with fail
      refine wp_letter (fun V => UpI Z V) (show UpI Z z9.w from inferInstance) ?_
      intro V uV
      haveI := uV
      haveI : UpI Y V := ⟨(upI : Up Y Z).trans uV.up⟩
      have hV : V.rangeAt D 0 c.cells := fun t u ht => uV.up.cell_some' (hZ t u ht)
      have c0 : V.cell? ⟨D, 0, none⟩ = some (.int .u8 c.kind) := hV 0 _ rfl
      have hOld := ch_old hV
      have hNew := ch_new hV
      rw [Nat.zero_add] at hOld hNew
      haveI : LtSize D V := ⟨cell_lt c0⟩
      clear hQk hZ hEq hV
      go_wp2_with (first
        | ((with_reducible refine held ?_); refine H_load_mid rfl 31 _ rfl D 1 rfl c.old.cells _ hOld Tryz.underlying31 rfl lnSize ?_)
        | ((with_reducible refine held ?_); refine H_load_mid rfl 31 _ rfl D 12 rfl c.new.cells _ hNew Tryz.underlying31 rfl lnSize ?_)
        | ((with_reducible refine held ?_); refine H_buildRun rfl 89 _ rfl #[(0, .int .u8 c.kind), (1, .agg c.old.cells.toArray), (2, .agg c.new.cells.toArray)] (by kernel_rfl) _ _ (build_rch c.kind c.old c.new _) ?_)
        | ((with_reducible refine held ?_); refine H_sliceRun rfl 86 1 _ rfl #[(0, .agg (Ch.mk c.kind c.old c.new).cells.toArray)] (by kernel_rfl) _ _ (slice_rch (Ch.mk c.kind c.old c.new) _) ?_)
        | (at_builtin; (with_reducible refine held ?_); refine H_append_own rfl _ _ 86 rfl Y.heap.size 89 i3 (Ch.mk 0 Ln.zero Ln.zero).val 23 88 Tryz.underlying86 Hi3.out Hy03.out Hy13.out Hy23.out rfl (by decide) _ _ _ rfl (owns_up (owns_up (owns_up Hown.out uZ.up) uV.up) (upI : Up V _)) ⟨_, 0, none⟩ 1 1 (Ch.mk c.kind c.old c.new).cells rfl rfl ?c1 ?c2 ?c3 ?c4 ?c5 ?_))
      case c1 => intro j u hj; exact ch_at V _ _ j u hj
      case c2 => exact fun u h => chg_one _ u h
      case c3 => exact Nat.le_trans (Nat.succ_le_of_lt (Nat.lt_of_lt_of_le hlt hN40)) (by unfold maxLen; decide)
      case c4 => exact Nat.le_trans (Nat.mul_le_mul_right 88 (Nat.succ_le_of_lt (Nat.lt_of_lt_of_le hlt hN40))) (by decide)
      case c5 => exact (upI : Up Y _).size
      intro v' w1 hown' hgrow _
      have hu1 : Up Y w1 := Up.grown (upI : Up Y _) hgrow (owns_row Hown.out)
      have Hown' := Lib.hid hown'
      clear hown' hgrow Hown
      go_wp2_with fail
      go_roundw
      case rel => exact ⟨k + 1, Nat.succ_le_of_lt hlt, by go_num, by rw [HF.out]; exact Hown', hu1⟩
      case measure => simp [intOf]; omega
    · obtain rfl : k = N := by omega
      have hown2 := Hown.out
      rw [List.take_of_length_le (by rw [HN.out]; exact Nat.le_refl _), ← HN.out] at hown2
      have hout : ChRow wr _ l := RowOf.of_owns (cells := Ch.cells) (fun x => x.cells_length) hown2
      clear hown2
      have Hout := Lib.hid hout
      have hTu := fun W (h : UpI wr W) => turned_any a _ W (RowOf.up HRA.out ((upI : Up w wr).trans h.up)) (by rw [HA.out]; exact Nat.le_trans hA40 (by decide))
      rw [HA.out] at hTu
      clear hout Hown HCL HCA Hbl Hba
      have hrA := HRf.out
      rw [HA.out] at hrA
      clear HRf
      go_upto_region 14 with (first
        | (go_at_call 24; (with_reducible refine (hTu _ inferInstance).mono ?_); rintro e w' ⟨u12, rfl, hown12, z12, rfl⟩; have hrA1 := fun W (h : UpI z12.w W) => hrA u12 _ _ W (owns_up hown12 h.up) (RowOf.up Hout.out ((upI : Up wr z12.w).trans h.up)))
        | (go_at_call 34; (with_reducible refine (hrA1 _ inferInstance).mono ?_); rintro e w' ⟨q13, n13, c13, rfl, hM13, z13, rfl⟩))
      refine wp_letter (fun V => UpI wr V ∧ LnRow V (.slice q13 n13 c13) M) ⟨inferInstance, hM13⟩ ?_
      clear hM13 hrA1 hown12 hTu hrA
      rintro V ⟨uV, hM13⟩
      haveI := uV
      haveI : UpI w V := ⟨(upI : Up w wr).trans uV.up⟩
      have hS : ∀ W, UpI V W → Gives Tryz.prog 30 #[.slice p5 A c5, .slice pa A capa] W (.bool true) := fun W h =>
        (dsame_any a a _ _ W (RowOf.up HP.out ((upI : Up X wr).trans (uV.up.trans h.up))) (RowOf.up HRA.out ((upI : Up w wr).trans (uV.up.trans h.up))) (by rw [HA.out]; exact Nat.le_trans hA40 (by decide)) (by rw [HA.out]; exact Nat.le_trans hA40 (by decide))).cast (by rw [beq_self_eq_true])
      have hE : ∀ W, UpI V W → Gives Tryz.prog 29 #[.slice q7 n7 c7, .slice q13 n13 c13] W (.bool true) := fun W h =>
        (equals_any M M _ _ W (RowOf.up HM.out (hu.trans (uV.up.trans h.up))) (RowOf.up hM13 h.up) HMl.out HMl.out).cast (by rw [beq_self_eq_true])
      clear hM13
      go_wp2_with (first
        | (go_at_call 30; (with_reducible refine (hS _ inferInstance).mono ?_); rintro e w' ⟨rfl, z14, rfl⟩)
        | (go_at_call 29; (with_reducible refine (hE _ inferInstance).mono ?_); rintro e w' ⟨rfl, z15, rfl⟩))
      go_ret
      exact ⟨rfl, mkI⟩
end Go.Proofs.YtlbbepgfjigjpaaGreatDoor
