/- The reference's Diff, walked. DumpLists, walked: Ordered, Texts, Reads and Diff of package dump against the reference. -/
import Derived.Test.YtlbbepgfjigjpaaGreatDoorRfB
import Derived.Test.YtlbbepgfjigjpaaGreatDoorDR
import Derived.Test.YtlbbepgfjigjpaaGreatDoorLF
import Derived.Test.YtlbbepgfjigjpaaGreatDoorDAw
set_option linter.unusedSimpArgs false
set_option linter.unusedVariables false
namespace Go.Proofs.YtlbbepgfjigjpaaGreatDoor
open Go.RowKit Go.Ab
attribute [local go_sem high] eq_rln
set_option maxHeartbeats 32000000 in
set_option maxRecDepth 100000 in
theorem rdiff_any (a b : List Ln) (va vb : Value) (w : World) (ha : LnRow w va a) (hb : LnRow w vb b) (hab : ∀ x ∈ a, LnB x) (hbb : ∀ x ∈ b, LnB x) (la : a.length ≤ 1000) (lb : b.length ≤ 1000) :
    Calls Tryz.prog 32 #[va, vb] w fun e w' => ∃ u, e = .returned u ∧ w'.ownsRow w.heap.size 89 23 u (refDiffL a b).length ((refDiffL a b).flatMap Ch.cells) ∧ ∃ x : Ext w, w' = x.w := by
  have hfB := fun (x : Ln) (W : World) (h : UpI w W) => rfind_any b x vb W (hb.up h.up) (by omega)
  have hfA := fun (x : Ln) (W : World) (h : UpI w W) => rfind_any a x va W (ha.up h.up) (by omega)
  obtain ⟨pa, capa, rfl, hlea, hca⟩ := ha
  obtain ⟨pb, capb, rfl, hleb, hcb⟩ := hb
  obtain ⟨NA, hNA⟩ : ∃ N, a.length = N := ⟨_, rfl⟩
  obtain ⟨NB, hNB⟩ : ∃ N, b.length = N := ⟨_, rfl⟩
  rw [hNA] at hlea la hfA ⊢
  rw [hNB] at hleb lb hfB ⊢
  have HNA := Lib.hid hNA; have HNB := Lib.hid hNB
  have HCA := Lib.hid hca; have HCB := Lib.hid hcb; have HAB := Lib.hid hab; have HBB := Lib.hid hbb
  obtain ⟨i0, hi, hy0, hy1, hy2⟩ := info_parts infoRCh
  have Hi := Lib.hid hi; have Hy0 := Lib.hid hy0; have Hy1 := Lib.hid hy1; have Hy2 := Lib.hid hy2
  clear hNA hNB hca hcb hab hbb hi hy0 hy1 hy2
  go_enter Tryz.func32, Tryz.ntmps32
  go_wp2_with fail
  go_loopw [5, 6] (fun out i wr => ∃ (k : Nat) (M : List Ch), k ≤ NA ∧ i = .int .i64 (k : Int) ∧ Hid (M = refD1 b (a.take k)) ∧ M.length ≤ k ∧ Hid (wr.ownsRow w.heap.size 89 23 out M.length (M.flatMap Ch.cells)) ∧ Up w wr) (fun _ i _ => NA - (intOf i).toNat)
  case atStart => exact ⟨0, [], Nat.zero_le _, rfl, Lib.hid rfl, Nat.le_refl _, Lib.hid (World.ownsRow_nil _ _ _ _), Up.refl w⟩
  case round =>
    obtain ⟨k, M, hk, rfl, HM, hMl, Hown, hu⟩ := hrel
    haveI : UpI w wr := ⟨hu⟩
    by_cases hlt : k < NA
    · have hlt' : (k : Int) < (NA : Int) := by omega
      have k0 : (0 : Int) ≤ (k : Int) := by omega
      obtain ⟨x, hx⟩ : ∃ x, a[k]? = some x := ⟨_, List.getElem?_eq_getElem (by rw [HNA.out]; exact hlt)⟩
      obtain ⟨b1, o1, rfl, hb1, hc1⟩ := HCA.out k x hx
      have hX : wr.rangeAt b1 (o1 + k * 11) x.cells := fun j u hj => hu.cell_some (hc1 j u hj)
      haveI : LtSize b1 wr := ⟨Nat.lt_of_lt_of_le hb1 hu.size⟩
      have hXk := range_key hX
      have HMs := Lib.hid (show refD1 b (a.take (k + 1)) = M ++ refD0 b x by rw [refD1_snoc b a k x hx, HM.out])
      have hfb := hfB x
      obtain ⟨F, ok, hF, hok, HD⟩ : ∃ (F : Ln) (ok : Bool), (findL b x).getD Ln.zero = F ∧ (findL b x).isSome = ok ∧ Hid (refD0 b x = if ok then (if F = x then [] else [⟨3, x, F⟩]) else [⟨2, x, Ln.zero⟩]) := ⟨_, _, rfl, rfl, Lib.hid (by unfold refD0; cases findL b x <;> rfl)⟩
      rw [hF, hok] at hfb
      clear hF hok hc1 hx
      go_upto_region 6 with (first
        | ((with_reducible refine held ?_); refine H_load_mid rfl 29 _ rfl b1 (o1 + k * 11) rfl x.kcells _ hXk Tryz.underlying29 rfl keySize ?_)
        | ((with_reducible refine held ?_); refine H_store_row rfl 60 _ _ rfl _ F.cells.toArray rfl rfl 60 _ (alloc_new rfl) rlnSize rfl (ln_all F) ?_)
        | (go_at_call 59; (with_reducible refine (hfb _ inferInstance).mono ?_); rintro e w' ⟨rfl, z1, rfl⟩))
      obtain ⟨D, hD⟩ : ∃ D, z1.w.heap.size = D := ⟨_, rfl⟩
      rw [hD]
      refine wp_letter (fun Z => UpI wr Z ∧ Z.heap[D]? = some (.cells F.cells.toArray 60 (0, 0))) ⟨⟨UpI.row hD _⟩, setRow_heap _ _ _ _ _ _ (alloc_new hD)⟩ ?_
      rintro Z ⟨uZ, hrD⟩
      haveI := uZ
      haveI : UpI w Z := ⟨hu.trans uZ.up⟩
      haveI : LtSize b1 Z := ⟨Nat.lt_of_lt_of_le (LtSize.lt (b := b1) (w := wr)) uZ.up.size⟩
      have hXZ : Z.rangeAt b1 (o1 + k * 11) x.cells := fun j u hj => uZ.up.cell_some' (hX j u hj)
      have hDZ : Z.rangeAt D 0 F.cells := range_heap hrD
      clear hX hXk hD hfb
      cases ok
      · have HE := Lib.hid (show refD1 b (a.take (k + 1)) = M ++ [⟨2, x, Ln.zero⟩] by rw [HMs.out, HD.out]; rfl)
        go_wp2_with (first
          | ((with_reducible refine held ?_); refine H_load_mid rfl 60 _ rfl b1 (o1 + k * 11) rfl x.cells _ hXZ Tryz.underlying60 rfl rlnSize ?_)
          | ((with_reducible refine held ?_); refine H_buildRun rfl 60 _ rfl #[] (by kernel_rfl) _ _ (build_rzero _) ?_)
          | ((with_reducible refine held ?_); refine H_buildRun rfl 89 _ rfl #[(0, .int .u8 2), (1, .agg x.cells.toArray), (2, .agg Ln.zero.cells.toArray)] (by kernel_rfl) _ _ (build_rch 2 x Ln.zero _) ?_)
          | ((with_reducible refine held ?_); refine H_sliceRun rfl 86 1 _ rfl #[(0, .agg (Ch.mk 2 x Ln.zero).cells.toArray)] (by kernel_rfl) _ _ (slice_rch (Ch.mk 2 x Ln.zero) _) ?_)
          | (at_builtin; (with_reducible refine held ?_); refine H_append_own rfl _ _ 86 rfl w.heap.size 89 i0 (Ch.mk 0 Ln.zero Ln.zero).val 23 88 Tryz.underlying86 Hi.out Hy0.out Hy1.out Hy2.out rfl (by decide) _ _ _ rfl (owns_up (owns_up Hown.out uZ.up) (upI : Up Z _)) ⟨_, 0, none⟩ 1 1 (Ch.mk 2 x Ln.zero).cells rfl rfl ?c1 ?c2 ?c3 ?c4 ?c5 ?_))
        case c1 => intro j u hj; exact ch_at Z _ _ j u hj
        case c2 => exact fun u h => chg_one _ u h
        case c3 => unfold maxLen; omega
        case c4 => omega
        case c5 => exact (upI : Up w _).size
        intro v' w1 hown' hgrow _
        have hu1 : Up w w1 := Up.grown (upI : Up w _) hgrow (owns_row Hown.out)
        have Hown' := Lib.hid hown'
        clear hown' hgrow Hown hrD
        go_wp2_with fail
        go_roundw
        case rel => exact ⟨k + 1, M ++ [⟨2, x, Ln.zero⟩], by omega, by go_num, Lib.hid HE.out.symm, by rw [List.length_append]; simp; omega, Lib.hid (by rw [List.length_append, List.flatMap_append]; simpa using Hown'.out), hu1⟩
        case measure => simp [intOf]; omega
      · obtain ⟨d, hd⟩ : ∃ d, decide (F = x) = d := ⟨_, rfl⟩
        go_upto_region 8 with fail
        refine wp_region_ext (by kernel_rfl) (by kernel_rfl) ?_
        repeat (first
          | ((with_reducible refine held ?_); refine HQ_load_mid (by kernel_rfl) 60 _ rfl b1 (o1 + k * 11) rfl x.cells _ (range_ext hXZ) Tryz.underlying60 rfl rlnSize ?_; simp only [Act.put, List.setIfInBounds_toArray, List.set_cons_succ, List.set_cons_zero])
          | ((with_reducible refine held ?_); refine HQ_load_mid (by kernel_rfl) 60 _ rfl D 0 rfl F.cells _ (range_ext hDZ) Tryz.underlying60 rfl rlnSize ?_; simp only [Act.put, List.setIfInBounds_toArray, List.set_cons_succ, List.set_cons_zero])
          | go_big_quiet_step (fail))
        refine wpQuiet_nil ?_
        rintro _ ⟨z2, rfl⟩
        cases d
        · have HE := Lib.hid (show refD1 b (a.take (k + 1)) = M ++ [⟨3, x, F⟩] by rw [HMs.out, HD.out, if_pos rfl, if_neg (of_decide_eq_false hd)])
          go_upto_region 9 with fail
          have HXZ : ∀ W, UpI z2.w W → W.rangeAt b1 (o1 + k * 11) x.cells := fun W h j u hj => ((upI : Up Z z2.w).trans h.up).cell_some' (hXZ j u hj)
          have HDZ : ∀ W, UpI z2.w W → W.rangeAt D 0 F.cells := fun W h j u hj => ((upI : Up Z z2.w).trans h.up).cell_some' (hDZ j u hj)
          have hmix : Tryz.prog.follows .mixedOrders = true := by kernel_rfl
          clear hXZ hDZ hrD
          refine wp_region_turn hmix ?_
          refine any_take (i := 0) (v := ?v1) rfl (by kernel_rfl) (by kernel_rfl) (by kernel_rfl) (Or.inl ⟨by kernel_rfl, ?hy1⟩) ?rest1
          case hy1 => (intro w; go_simp; (try with_reducible rfl))
          (try simp only [Act.put, List.setIfInBounds_toArray, List.set_cons_succ, List.set_cons_zero])
          refine any_take (i := 1) (v := ?v2) rfl (by kernel_rfl) (by kernel_rfl) (by kernel_rfl) (Or.inl ⟨by kernel_rfl, ?hy2⟩) ?rest2
          case hy2 => (intro w; go_simp; (try with_reducible rfl))
          (try simp only [Act.put, List.setIfInBounds_toArray, List.set_cons_succ, List.set_cons_zero])
          refine any_take (i := 2) (v := ?v3) rfl (by kernel_rfl) (by kernel_rfl) (by kernel_rfl) (Or.inl ⟨by kernel_rfl, ?hy3⟩) ?rest3
          case hy3 => (intro w; go_simp; (try with_reducible rfl))
          (try simp only [Act.put, List.setIfInBounds_toArray, List.set_cons_succ, List.set_cons_zero])
          refine any_take (i := 3) (v := ?v4) rfl (by kernel_rfl) (by kernel_rfl) (by kernel_rfl) (Or.inl ⟨by kernel_rfl, ?hy4⟩) ?rest4
          case hy4 => (intro w; go_simp; (try with_reducible rfl))
          (try simp only [Act.put, List.setIfInBounds_toArray, List.set_cons_succ, List.set_cons_zero])
          refine wpAny_ready (rs := [4, 5]) (by kernel_rfl) (by simp) ?_
          refine AllReady.cons rfl (fun K hK => ?_) ?_
          · skip
            (with_reducible refine held ?_); refine HS_load_mid (by kernel_rfl) 60 _ rfl b1 (o1 + k * 11) (by kernel_rfl) x.cells _ (HXZ _ inferInstance) Tryz.underlying60 rfl rlnSize ?_
            refine hK _ _ ?_; clear hK K; (try simp only [Act.put, List.setIfInBounds_toArray, List.set_cons_succ, List.set_cons_zero])
            refine wpAny_ready (rs := [5]) (by kernel_rfl) (by simp) ?_
            refine AllReady.cons rfl (fun K hK => ?_) ?_
            · skip
              (with_reducible refine held ?_); refine HS_load_mid (by kernel_rfl) 60 _ rfl D (0) (by kernel_rfl) F.cells _ (HDZ _ inferInstance) Tryz.underlying60 rfl rlnSize ?_
              refine hK _ _ ?_; clear hK K; (try simp only [Act.put, List.setIfInBounds_toArray, List.set_cons_succ, List.set_cons_zero])
              refine wpAny_ready (rs := [6]) (by kernel_rfl) (by simp) ?_
              refine AllReady.cons rfl (fun K hK => ?_) ?_
              · skip
                (with_reducible refine held ?_); refine HS_build (by kernel_rfl) 89 _ rfl #[(0, .int .u8 3), (1, .agg x.cells.toArray), (2, .agg F.cells.toArray)] (by kernel_rfl) _ _ (build_rch 3 x F _) ?_
                refine hK _ _ ?_; clear hK K; (try simp only [Act.put, List.setIfInBounds_toArray, List.set_cons_succ, List.set_cons_zero])
                refine wpAny_ready (rs := [7]) (by kernel_rfl) (by simp) ?_
                refine AllReady.cons rfl (fun K hK => ?_) ?_
                · skip
                  (with_reducible refine held ?_); refine HS_slice (by kernel_rfl) 86 1 _ rfl #[(0, .agg (Ch.mk 3 x F).cells.toArray)] (by kernel_rfl) _ _ (slice_rch (Ch.mk 3 x F) _) ?_
                  refine hK _ _ ?_; clear hK K; (try simp only [Act.put, List.setIfInBounds_toArray, List.set_cons_succ, List.set_cons_zero])
                  refine wpAny_ready (rs := [8]) (by kernel_rfl) (by simp) ?_
                  refine AllReady.cons rfl (fun K hK => ?_) ?_
                  · skip
                    (with_reducible refine held ?_); refine HS_append_own (by kernel_rfl) _ _ 86 rfl w.heap.size 89 i0 (Ch.mk 0 Ln.zero Ln.zero).val 23 88 Tryz.underlying86 Hi.out Hy0.out Hy1.out Hy2.out rfl (by decide) u5 _ _ (by kernel_rfl) (owns_up (owns_up Hown.out (upI : Up wr z2.w)) (upI : Up z2.w _)) ⟨z2.w.heap.size, 0, none⟩ 1 1 (Ch.mk 3 x F).cells (by kernel_rfl) rfl (fun j u hj => ch_at _ _ _ j u hj) (fun u h => chg_one _ u h) (by unfold maxLen; omega) (by omega) (upI : Up w _).size ?_
                    intro v' w1 hown' hgrow
                    have hu1 : Up w w1 := Up.grown (upI : Up w _) hgrow (owns_row Hown.out)
                    have Hown' := Lib.hid hown'
                    clear hown' hgrow
                    refine hK _ _ ?_; clear hK K; (try simp only [Act.put, List.setIfInBounds_toArray, List.set_cons_succ, List.set_cons_zero])
                    refine any_take (i := 9) (v := ?v5) rfl (by kernel_rfl) (by kernel_rfl) (by kernel_rfl) (Or.inl ⟨by kernel_rfl, ?hy5⟩) ?rest5
                    case hy5 => (intro w; go_simp; (try with_reducible rfl))
                    (try simp only [Act.put, List.setIfInBounds_toArray, List.set_cons_succ, List.set_cons_zero])
                    refine wpAny_done (by kernel_rfl) ?_ _
                    refine ⟨rfl, ?_⟩
                    go_wp2_with fail
                    go_roundw
                    case rel => exact ⟨k + 1, M ++ [⟨3, x, F⟩], by omega, by go_num, Lib.hid HE.out.symm, by rw [List.length_append]; simp; omega, Lib.hid (by rw [List.length_append, List.flatMap_append]; simpa using Hown'.out), hu1⟩
                    case measure => simp [intOf]; omega
                  exact AllReady.nil
                exact AllReady.nil
              exact AllReady.nil
            exact AllReady.nil
          refine AllReady.cons rfl (fun K hK => ?_) ?_
          · skip
            (with_reducible refine held ?_); refine HS_load_mid (by kernel_rfl) 60 _ rfl D (0) (by kernel_rfl) F.cells _ (HDZ _ inferInstance) Tryz.underlying60 rfl rlnSize ?_
            refine hK _ _ ?_; clear hK K; (try simp only [Act.put, List.setIfInBounds_toArray, List.set_cons_succ, List.set_cons_zero])
            refine wpAny_ready (rs := [4]) (by kernel_rfl) (by simp) ?_
            refine AllReady.cons rfl (fun K hK => ?_) ?_
            · skip
              (with_reducible refine held ?_); refine HS_load_mid (by kernel_rfl) 60 _ rfl b1 (o1 + k * 11) (by kernel_rfl) x.cells _ (HXZ _ inferInstance) Tryz.underlying60 rfl rlnSize ?_
              refine hK _ _ ?_; clear hK K; (try simp only [Act.put, List.setIfInBounds_toArray, List.set_cons_succ, List.set_cons_zero])
              refine wpAny_ready (rs := [6]) (by kernel_rfl) (by simp) ?_
              refine AllReady.cons rfl (fun K hK => ?_) ?_
              · skip
                (with_reducible refine held ?_); refine HS_build (by kernel_rfl) 89 _ rfl #[(0, .int .u8 3), (1, .agg x.cells.toArray), (2, .agg F.cells.toArray)] (by kernel_rfl) _ _ (build_rch 3 x F _) ?_
                refine hK _ _ ?_; clear hK K; (try simp only [Act.put, List.setIfInBounds_toArray, List.set_cons_succ, List.set_cons_zero])
                refine wpAny_ready (rs := [7]) (by kernel_rfl) (by simp) ?_
                refine AllReady.cons rfl (fun K hK => ?_) ?_
                · skip
                  (with_reducible refine held ?_); refine HS_slice (by kernel_rfl) 86 1 _ rfl #[(0, .agg (Ch.mk 3 x F).cells.toArray)] (by kernel_rfl) _ _ (slice_rch (Ch.mk 3 x F) _) ?_
                  refine hK _ _ ?_; clear hK K; (try simp only [Act.put, List.setIfInBounds_toArray, List.set_cons_succ, List.set_cons_zero])
                  refine wpAny_ready (rs := [8]) (by kernel_rfl) (by simp) ?_
                  refine AllReady.cons rfl (fun K hK => ?_) ?_
                  · skip
                    (with_reducible refine held ?_); refine HS_append_own (by kernel_rfl) _ _ 86 rfl w.heap.size 89 i0 (Ch.mk 0 Ln.zero Ln.zero).val 23 88 Tryz.underlying86 Hi.out Hy0.out Hy1.out Hy2.out rfl (by decide) u5 _ _ (by kernel_rfl) (owns_up (owns_up Hown.out (upI : Up wr z2.w)) (upI : Up z2.w _)) ⟨z2.w.heap.size, 0, none⟩ 1 1 (Ch.mk 3 x F).cells (by kernel_rfl) rfl (fun j u hj => ch_at _ _ _ j u hj) (fun u h => chg_one _ u h) (by unfold maxLen; omega) (by omega) (upI : Up w _).size ?_
                    intro v' w1 hown' hgrow
                    have hu1 : Up w w1 := Up.grown (upI : Up w _) hgrow (owns_row Hown.out)
                    have Hown' := Lib.hid hown'
                    clear hown' hgrow
                    refine hK _ _ ?_; clear hK K; (try simp only [Act.put, List.setIfInBounds_toArray, List.set_cons_succ, List.set_cons_zero])
                    refine any_take (i := 9) (v := ?v6) rfl (by kernel_rfl) (by kernel_rfl) (by kernel_rfl) (Or.inl ⟨by kernel_rfl, ?hy6⟩) ?rest6
                    case hy6 => (intro w; go_simp; (try with_reducible rfl))
                    (try simp only [Act.put, List.setIfInBounds_toArray, List.set_cons_succ, List.set_cons_zero])
                    refine wpAny_done (by kernel_rfl) ?_ _
                    refine ⟨rfl, ?_⟩
                    go_wp2_with fail
                    go_roundw
                    case rel => exact ⟨k + 1, M ++ [⟨3, x, F⟩], by omega, by go_num, Lib.hid HE.out.symm, by rw [List.length_append]; simp; omega, Lib.hid (by rw [List.length_append, List.flatMap_append]; simpa using Hown'.out), hu1⟩
                    case measure => simp [intOf]; omega
                  exact AllReady.nil
                exact AllReady.nil
              exact AllReady.nil
            exact AllReady.nil
          exact AllReady.nil
        · have HE := Lib.hid (show refD1 b (a.take (k + 1)) = M by rw [HMs.out, HD.out, if_pos rfl, if_pos (of_decide_eq_true hd), List.append_nil])
          go_wp2_with fail
          go_roundw
          case rel => exact ⟨k + 1, M, by omega, by go_num, Lib.hid HE.out.symm, by omega, Lib.hid (owns_up Hown.out (upI : Up wr _)), upI⟩
          case measure => simp [intOf]; omega
    · obtain rfl : k = NA := by omega
      have HM1 := Lib.hid (show M = refD1 b a by rw [HM.out, List.take_of_length_le (by rw [HNA.out]; exact Nat.le_refl _)])
      have HMb : Hid (∀ c ∈ M, LnB (chLn c)) := Lib.hid (fun c hc => by
        rw [HM1.out] at hc
        obtain ⟨x, hx, hc2⟩ := List.mem_flatMap.1 hc
        rw [(refD0_ln b x c hc2).1]
        exact HAB.out x hx)
      obtain ⟨M1, hM1⟩ : ∃ M1, M = M1 := ⟨_, rfl⟩
      have HM0 := Lib.hid (show refD1 b a = M1 by rw [← hM1, HM1.out])
      rw [hM1] at Hown HMb hMl
      clear HM HM1 hM1
      go_wp2_with fail
      go_loopw [5, 9] (fun out i wr => ∃ (q : Nat) (M : List Ch), q ≤ NB ∧ i = .int .i64 (q : Int) ∧ Hid (M = refD2 a M1 (b.take q)) ∧ M.length ≤ 1000 + q ∧ Hid (∀ c ∈ M, LnB (chLn c)) ∧ Hid (wr.ownsRow w.heap.size 89 23 out M.length (M.flatMap Ch.cells)) ∧ Up w wr) (fun _ i _ => NB - (intOf i).toNat)
      case atStart => exact ⟨0, M1, Nat.zero_le _, rfl, Lib.hid rfl, by omega, HMb, Hown, hu⟩
      case round =>
        clear Hown HMb hMl hu
        rename World => WR
        obtain ⟨q, M, hq, rfl, HM, hMl, HMb, Hown, hu⟩ := hrel
        haveI : UpI w WR := ⟨hu⟩
        by_cases hlt2 : q < NB
        · have hlt2' : (q : Int) < (NB : Int) := by omega
          have q0 : (0 : Int) ≤ (q : Int) := by omega
          obtain ⟨y, hy⟩ : ∃ y, b[q]? = some y := ⟨_, List.getElem?_eq_getElem (by rw [HNB.out]; exact hlt2)⟩
          obtain ⟨b1, o1, rfl, hb1, hc1⟩ := HCB.out q y hy
          have hY : WR.rangeAt b1 (o1 + q * 11) y.cells := fun j u hj => hu.cell_some (hc1 j u hj)
          haveI : LtSize b1 WR := ⟨Nat.lt_of_lt_of_le hb1 hu.size⟩
          have hYk := range_key hY
          have HMs := Lib.hid (show refD2 a M1 (b.take (q + 1)) = refD2s a M y by rw [refD2_snoc a M1 b q y hy, HM.out])
          have yb := HBB.out y (List.mem_of_getElem? hy)
          have hfa := hfA y
          obtain ⟨F, ok, hF, hok, HD⟩ : ∃ (F : Ln) (ok : Bool), (findL a y).getD Ln.zero = F ∧ (findL a y).isSome = ok ∧ Hid (refD2s a M y = if ok then M else insC M y) := ⟨_, _, rfl, rfl, Lib.hid rfl⟩
          rw [hF, hok] at hfa
          clear hF hok hc1 hy
          go_upto_region 14 with (first
            | ((with_reducible refine held ?_); refine H_load_mid rfl 29 _ rfl b1 (o1 + q * 11) rfl y.kcells _ hYk Tryz.underlying29 rfl keySize ?_)
            | ((with_reducible refine held ?_); refine H_store_row rfl 60 _ _ rfl _ F.cells.toArray rfl rfl 60 _ (alloc_new rfl) rlnSize rfl (ln_all F) ?_)
            | (go_at_call 59; (with_reducible refine (hfa _ inferInstance).mono ?_); rintro e w' ⟨rfl, z1, rfl⟩))
          obtain ⟨D, hD⟩ : ∃ D, z1.w.heap.size = D := ⟨_, rfl⟩
          rw [hD]
          refine wp_letter (fun Z => UpI WR Z) ⟨UpI.row hD _⟩ ?_
          rintro Z uZ
          haveI := uZ
          haveI : UpI w Z := ⟨hu.trans uZ.up⟩
          haveI : LtSize b1 Z := ⟨Nat.lt_of_lt_of_le (LtSize.lt (b := b1) (w := WR)) uZ.up.size⟩
          have hYZ : Z.rangeAt b1 (o1 + q * 11) y.cells := fun j u hj => uZ.up.cell_some' (hY j u hj)
          have hYkZ := range_key hYZ
          clear hY hYk hD hfa
          cases ok
          case true =>
            have HE := Lib.hid (show refD2 a M1 (b.take (q + 1)) = M by rw [HMs.out, HD.out]; rfl)
            go_wp2_with fail
            go_roundw
            case rel => exact ⟨q + 1, M, by omega, by go_num, Lib.hid HE.out.symm, by omega, HMb, Lib.hid (owns_up Hown.out (upI : Up WR _)), upI⟩
            case measure => simp [intOf]; omega
          case false =>
            have HE := Lib.hid (show refD2 a M1 (b.take (q + 1)) = insC M y by rw [HMs.out, HD.out]; rfl)
            clear HMs HD
            have HO := Lib.hid (owns_up Hown.out (upI : Up WR Z))
            obtain ⟨_, ⟨rfl, h0⟩ | ⟨g, cap3, cur, rfl, _, hg, hMc, _, hcs, _⟩⟩ := HO.out
            · obtain rfl := List.length_eq_zero_iff.1 h0
              go_wp2_with fail
              go_loopw [12] (fun i wr => i = .int .i64 0 ∧ wr = Z) (fun i _ => 0)
              case atStart => exact ⟨rfl, rfl⟩
              case round =>
                obtain ⟨rfl, hw⟩ := hrel
                rw [hw]
                clear hw
                go_upto_region 16 with fail
                refine wp_region_ext (by kernel_rfl) (by kernel_rfl) ?_
                repeat (go_big_quiet_step (fail))
                refine wpQuiet_nil ?_
                rintro _ ⟨z9, rfl⟩
                go_upto_region 18 with fail
                refine wp_letter (fun V => UpI WR V ∧ V.rangeAt b1 (o1 + q * 11) y.cells ∧ LtSize b1 V) ⟨inferInstance, fun j u hj => (upI : Up Z _).cell_some' (hYZ j u hj), inferInstance⟩ ?_
                clear HO hYZ hYkZ
                rintro V ⟨uV, hYV, hb1V⟩
                haveI := uV
                haveI : UpI w V := ⟨hu.trans uV.up⟩
                haveI := hb1V
                have HYV : ∀ W, UpI V W → W.rangeAt b1 (o1 + q * 11) y.cells := fun W h j u hj => h.up.cell_some' (hYV j u hj)
                have hmix : Tryz.prog.follows .mixedOrders = true := by kernel_rfl
                refine wp_region_turn hmix ?_
                refine any_take (i := 5) (v := .agg Ln.zero.cells.toArray) rfl (by kernel_rfl) (by kernel_rfl) (by kernel_rfl) (Or.inl ⟨by kernel_rfl, yields_build 60 _ rfl #[] (by kernel_rfl) _ (fun w => build_rzero w)⟩) ?_; (try simp only [Act.put, List.setIfInBounds_toArray, List.set_cons_succ, List.set_cons_zero])
                refine any_take (i := 1) (v := ?v131) rfl (by kernel_rfl) (by kernel_rfl) (by kernel_rfl) (Or.inl ⟨by kernel_rfl, ?hy131⟩) ?rest131
                case hy131 => (intro w; go_simp; (try with_reducible rfl))
                (try simp only [Act.put, List.setIfInBounds_toArray, List.set_cons_succ, List.set_cons_zero])
                refine any_take (i := 2) (v := ?v132) rfl (by kernel_rfl) (by kernel_rfl) (by kernel_rfl) (Or.inl ⟨by kernel_rfl, ?hy132⟩) ?rest132
                case hy132 => (intro w; go_simp; (try with_reducible rfl))
                (try simp only [Act.put, List.setIfInBounds_toArray, List.set_cons_succ, List.set_cons_zero])
                refine any_take (i := 3) (v := ?v133) rfl (by kernel_rfl) (by kernel_rfl) (by kernel_rfl) (Or.inl ⟨by kernel_rfl, ?hy133⟩) ?rest133
                case hy133 => (intro w; go_simp; (try with_reducible rfl))
                (try simp only [Act.put, List.setIfInBounds_toArray, List.set_cons_succ, List.set_cons_zero])
                refine any_take (i := 6) (v := ?v134) rfl (by kernel_rfl) (by kernel_rfl) (by kernel_rfl) (Or.inl ⟨by kernel_rfl, ?hy134⟩) ?rest134
                case hy134 => (intro w; go_simp; (try with_reducible rfl))
                (try simp only [Act.put, List.setIfInBounds_toArray, List.set_cons_succ, List.set_cons_zero])
                refine any_take (i := 7) (v := ?v135) rfl (by kernel_rfl) (by kernel_rfl) (by kernel_rfl) (Or.inl ⟨by kernel_rfl, ?hy135⟩) ?rest135
                case hy135 => (intro w; go_simp; (try with_reducible rfl))
                (try simp only [Act.put, List.setIfInBounds_toArray, List.set_cons_succ, List.set_cons_zero])
                refine any_take (i := 8) (v := ?v136) rfl (by kernel_rfl) (by kernel_rfl) (by kernel_rfl) (Or.inl ⟨by kernel_rfl, ?hy136⟩) ?rest136
                case hy136 => (intro w; go_simp; (try with_reducible rfl))
                (try simp only [Act.put, List.setIfInBounds_toArray, List.set_cons_succ, List.set_cons_zero])
                refine any_take (i := 13) (v := ?v137) rfl (by kernel_rfl) (by kernel_rfl) (by kernel_rfl) (Or.inl ⟨by kernel_rfl, ?hy137⟩) ?rest137
                case hy137 => (intro w; go_simp; (try with_reducible rfl))
                (try simp only [Act.put, List.setIfInBounds_toArray, List.set_cons_succ, List.set_cons_zero])
                refine any_take (i := 14) (v := ?v138) rfl (by kernel_rfl) (by kernel_rfl) (by kernel_rfl) (Or.inl ⟨by kernel_rfl, ?hy138⟩) ?rest138
                case hy138 => (intro w; go_simp; (try with_reducible rfl))
                (try simp only [Act.put, List.setIfInBounds_toArray, List.set_cons_succ, List.set_cons_zero])
                refine any_take (i := 15) (v := ?v139) rfl (by kernel_rfl) (by kernel_rfl) (by kernel_rfl) (Or.inl ⟨by kernel_rfl, ?hy139⟩) ?rest139
                case hy139 => (intro w; go_simp; (try with_reducible rfl))
                (try simp only [Act.put, List.setIfInBounds_toArray, List.set_cons_succ, List.set_cons_zero])
                refine wpAny_ready (rs := [0, 9]) (by kernel_rfl) (by simp) ?_
                refine AllReady.cons rfl (fun K hK => ?_) ?_
                · go_simp
                  refine hK _ _ ?_; clear hK K; (try simp only [Act.put, List.setIfInBounds_toArray, List.set_cons_succ, List.set_cons_zero])
                  refine wpAny_ready (rs := [4, 9]) (by kernel_rfl) (by simp) ?_
                  refine AllReady.cons rfl (fun K hK => ?_) ?_
                  · skip
                    (with_reducible refine held ?_); refine HS_append_none (by kernel_rfl) _ _ 86 rfl V.heap.size 89 i0 23 Tryz.underlying86 Hi.out _ 0 [] rfl (fresh_own V _ (by simp) (by simp)) rfl ?_
                    refine hK _ _ ?_; clear hK K; (try simp only [Act.put, List.setIfInBounds_toArray, List.set_cons_succ, List.set_cons_zero])
                    refine wpAny_ready (rs := [9]) (by kernel_rfl) (by simp) ?_
                    refine AllReady.cons rfl (fun K hK => ?_) ?_
                    · skip
                      (with_reducible refine held ?_); refine HS_load_mid (by kernel_rfl) 60 _ rfl b1 (o1 + q * 11) (by kernel_rfl) y.cells _ (HYV _ inferInstance) Tryz.underlying60 rfl rlnSize ?_
                      refine hK _ _ ?_; clear hK K; (try simp only [Act.put, List.setIfInBounds_toArray, List.set_cons_succ, List.set_cons_zero])
                      refine any_take (i := 10) (v := .agg (Ch.mk 1 Ln.zero y).cells.toArray) rfl (by kernel_rfl) (by kernel_rfl) (by kernel_rfl) (Or.inl ⟨by kernel_rfl, yields_build 89 _ rfl #[(0, .int .u8 1), (1, .agg Ln.zero.cells.toArray), (2, .agg y.cells.toArray)] (by kernel_rfl) _ (fun w => build_rch 1 Ln.zero y w)⟩) ?_; (try simp only [Act.put, List.setIfInBounds_toArray, List.set_cons_succ, List.set_cons_zero])
                      refine wpAny_ready (rs := [11]) (by kernel_rfl) (by simp) ?_
                      refine AllReady.cons rfl (fun K hK => ?_) ?_
                      · skip
                        (with_reducible refine held ?_); refine HS_slice (by kernel_rfl) 86 1 _ rfl #[(0, .agg (Ch.mk 1 Ln.zero y).cells.toArray)] (by kernel_rfl) _ _ (slice_rch (Ch.mk 1 Ln.zero y) _) ?_
                        refine hK _ _ ?_; clear hK K; (try simp only [Act.put, List.setIfInBounds_toArray, List.set_cons_succ, List.set_cons_zero])
                        refine wpAny_ready (rs := [12]) (by kernel_rfl) (by simp) ?_
                        refine AllReady.cons rfl (fun K hK => ?_) ?_
                        · skip
                          (with_reducible refine held ?_); refine HS_append_own (by kernel_rfl) _ _ 86 rfl V.heap.size 89 i0 (Ch.mk 0 Ln.zero Ln.zero).val 23 88 Tryz.underlying86 Hi.out Hy0.out Hy1.out Hy2.out rfl (by decide) _ 0 [] rfl (owns_up (fresh_own V _ (by simp) (by simp)) (((Up.refl _).alloc _).drew)) ⟨_, 0, none⟩ 1 1 (Ch.mk 1 Ln.zero y).cells rfl rfl (fun j u hj => ch_at _ _ _ j u hj) (fun u h => chg_one _ u h) (by unfold maxLen; omega) (by omega) (upI : Up V _).size ?_
                          intro v2 w2 hown2 hgrow
                          have hu2 : Up V w2 := Up.grown (upI : Up V _) hgrow (fun k' h => by have h' := Option.some.inj h; subst h'; first | exact Nat.le_refl _ | simp | omega)
                          obtain ⟨x2, rfl⟩ := hu2.mk
                          obtain ⟨g2, c2, rfl, hg2⟩ := owns_sliceK hown2
                          have Hown2 := Lib.hid hown2
                          clear hown2 hgrow hu2
                          refine hK _ _ ?_; clear hK K; (try simp only [Act.put, List.setIfInBounds_toArray, List.set_cons_succ, List.set_cons_zero])
                          refine wpAny_ready (rs := [16]) (by kernel_rfl) (by simp) ?_
                          refine AllReady.cons rfl (fun K hK => ?_) ?_
                          · skip
                            (with_reducible refine held ?_); refine HS_append_none (by kernel_rfl) _ _ 86 rfl V.heap.size 89 i0 23 Tryz.underlying86 Hi.out _ _ _ rfl Hown2.out rfl ?_
                            refine hK _ _ ?_; clear hK K; (try simp only [Act.put, List.setIfInBounds_toArray, List.set_cons_succ, List.set_cons_zero])
                            refine any_take (i := 17) (v := ?v140) rfl (by kernel_rfl) (by kernel_rfl) (by kernel_rfl) (Or.inl ⟨by kernel_rfl, ?hy140⟩) ?rest140
                            case hy140 => (intro w; go_simp; (try with_reducible rfl))
                            (try simp only [Act.put, List.setIfInBounds_toArray, List.set_cons_succ, List.set_cons_zero])
                            refine wpAny_done (by kernel_rfl) ?_ _
                            refine ⟨rfl, ?_⟩
                            go_wp2_with fail
                            go_roundw
                            case rel => exact ⟨q + 1, [⟨1, Ln.zero, y⟩], by omega, by go_num, Lib.hid (by rw [HE.out]; rfl), by show 1 ≤ _; omega, Lib.hid (fun c hc => by obtain rfl := List.mem_singleton.1 hc; exact yb), Lib.hid (owns_base (by simpa using Hown2.out) (upI : Up w V).size), upI⟩
                            case measure => simp [intOf]; omega
                          exact AllReady.nil
                        exact AllReady.nil
                      exact AllReady.nil
                    exact AllReady.nil
                  refine AllReady.cons rfl (fun K hK => ?_) ?_
                  · skip
                    (with_reducible refine held ?_); refine HS_load_mid (by kernel_rfl) 60 _ rfl b1 (o1 + q * 11) (by kernel_rfl) y.cells _ (HYV _ inferInstance) Tryz.underlying60 rfl rlnSize ?_
                    refine hK _ _ ?_; clear hK K; (try simp only [Act.put, List.setIfInBounds_toArray, List.set_cons_succ, List.set_cons_zero])
                    refine any_take (i := 10) (v := .agg (Ch.mk 1 Ln.zero y).cells.toArray) rfl (by kernel_rfl) (by kernel_rfl) (by kernel_rfl) (Or.inl ⟨by kernel_rfl, yields_build 89 _ rfl #[(0, .int .u8 1), (1, .agg Ln.zero.cells.toArray), (2, .agg y.cells.toArray)] (by kernel_rfl) _ (fun w => build_rch 1 Ln.zero y w)⟩) ?_; (try simp only [Act.put, List.setIfInBounds_toArray, List.set_cons_succ, List.set_cons_zero])
                    refine wpAny_ready (rs := [4, 11]) (by kernel_rfl) (by simp) ?_
                    refine AllReady.cons rfl (fun K hK => ?_) ?_
                    · skip
                      (with_reducible refine held ?_); refine HS_append_none (by kernel_rfl) _ _ 86 rfl V.heap.size 89 i0 23 Tryz.underlying86 Hi.out _ 0 [] rfl (fresh_own V _ (by simp) (by simp)) rfl ?_
                      refine hK _ _ ?_; clear hK K; (try simp only [Act.put, List.setIfInBounds_toArray, List.set_cons_succ, List.set_cons_zero])
                      refine wpAny_ready (rs := [11]) (by kernel_rfl) (by simp) ?_
                      refine AllReady.cons rfl (fun K hK => ?_) ?_
                      · skip
                        (with_reducible refine held ?_); refine HS_slice (by kernel_rfl) 86 1 _ rfl #[(0, .agg (Ch.mk 1 Ln.zero y).cells.toArray)] (by kernel_rfl) _ _ (slice_rch (Ch.mk 1 Ln.zero y) _) ?_
                        refine hK _ _ ?_; clear hK K; (try simp only [Act.put, List.setIfInBounds_toArray, List.set_cons_succ, List.set_cons_zero])
                        refine wpAny_ready (rs := [12]) (by kernel_rfl) (by simp) ?_
                        refine AllReady.cons rfl (fun K hK => ?_) ?_
                        · skip
                          (with_reducible refine held ?_); refine HS_append_own (by kernel_rfl) _ _ 86 rfl V.heap.size 89 i0 (Ch.mk 0 Ln.zero Ln.zero).val 23 88 Tryz.underlying86 Hi.out Hy0.out Hy1.out Hy2.out rfl (by decide) _ 0 [] rfl (owns_up (fresh_own V _ (by simp) (by simp)) (((Up.refl _).alloc _).drew)) ⟨_, 0, none⟩ 1 1 (Ch.mk 1 Ln.zero y).cells rfl rfl (fun j u hj => ch_at _ _ _ j u hj) (fun u h => chg_one _ u h) (by unfold maxLen; omega) (by omega) (upI : Up V _).size ?_
                          intro v2 w2 hown2 hgrow
                          have hu2 : Up V w2 := Up.grown (upI : Up V _) hgrow (fun k' h => by have h' := Option.some.inj h; subst h'; first | exact Nat.le_refl _ | simp | omega)
                          obtain ⟨x2, rfl⟩ := hu2.mk
                          obtain ⟨g2, c2, rfl, hg2⟩ := owns_sliceK hown2
                          have Hown2 := Lib.hid hown2
                          clear hown2 hgrow hu2
                          refine hK _ _ ?_; clear hK K; (try simp only [Act.put, List.setIfInBounds_toArray, List.set_cons_succ, List.set_cons_zero])
                          refine wpAny_ready (rs := [16]) (by kernel_rfl) (by simp) ?_
                          refine AllReady.cons rfl (fun K hK => ?_) ?_
                          · skip
                            (with_reducible refine held ?_); refine HS_append_none (by kernel_rfl) _ _ 86 rfl V.heap.size 89 i0 23 Tryz.underlying86 Hi.out _ _ _ rfl Hown2.out rfl ?_
                            refine hK _ _ ?_; clear hK K; (try simp only [Act.put, List.setIfInBounds_toArray, List.set_cons_succ, List.set_cons_zero])
                            refine any_take (i := 17) (v := ?v141) rfl (by kernel_rfl) (by kernel_rfl) (by kernel_rfl) (Or.inl ⟨by kernel_rfl, ?hy141⟩) ?rest141
                            case hy141 => (intro w; go_simp; (try with_reducible rfl))
                            (try simp only [Act.put, List.setIfInBounds_toArray, List.set_cons_succ, List.set_cons_zero])
                            refine wpAny_done (by kernel_rfl) ?_ _
                            refine ⟨rfl, ?_⟩
                            go_wp2_with fail
                            go_roundw
                            case rel => exact ⟨q + 1, [⟨1, Ln.zero, y⟩], by omega, by go_num, Lib.hid (by rw [HE.out]; rfl), by show 1 ≤ _; omega, Lib.hid (fun c hc => by obtain rfl := List.mem_singleton.1 hc; exact yb), Lib.hid (owns_base (by simpa using Hown2.out) (upI : Up w V).size), upI⟩
                            case measure => simp [intOf]; omega
                          exact AllReady.nil
                        exact AllReady.nil
                      exact AllReady.nil
                    refine AllReady.cons rfl (fun K hK => ?_) ?_
                    · skip
                      (with_reducible refine held ?_); refine HS_slice (by kernel_rfl) 86 1 _ rfl #[(0, .agg (Ch.mk 1 Ln.zero y).cells.toArray)] (by kernel_rfl) _ _ (slice_rch (Ch.mk 1 Ln.zero y) _) ?_
                      refine hK _ _ ?_; clear hK K; (try simp only [Act.put, List.setIfInBounds_toArray, List.set_cons_succ, List.set_cons_zero])
                      refine wpAny_ready (rs := [4]) (by kernel_rfl) (by simp) ?_
                      refine AllReady.cons rfl (fun K hK => ?_) ?_
                      · skip
                        (with_reducible refine held ?_); refine HS_append_none (by kernel_rfl) _ _ 86 rfl V.heap.size 89 i0 23 Tryz.underlying86 Hi.out _ 0 [] rfl (owns_up (fresh_own V _ (by simp) (by simp)) (((Up.refl _).alloc _).drew)) rfl ?_
                        refine hK _ _ ?_; clear hK K; (try simp only [Act.put, List.setIfInBounds_toArray, List.set_cons_succ, List.set_cons_zero])
                        refine wpAny_ready (rs := [12]) (by kernel_rfl) (by simp) ?_
                        refine AllReady.cons rfl (fun K hK => ?_) ?_
                        · skip
                          (with_reducible refine held ?_); refine HS_append_own (by kernel_rfl) _ _ 86 rfl V.heap.size 89 i0 (Ch.mk 0 Ln.zero Ln.zero).val 23 88 Tryz.underlying86 Hi.out Hy0.out Hy1.out Hy2.out rfl (by decide) _ 0 [] rfl (owns_up (fresh_own V _ (by simp) (by simp)) (((Up.refl _).alloc _).drew)) ⟨_, 0, none⟩ 1 1 (Ch.mk 1 Ln.zero y).cells rfl rfl (fun j u hj => ch_at _ _ _ j u hj) (fun u h => chg_one _ u h) (by unfold maxLen; omega) (by omega) (upI : Up V _).size ?_
                          intro v2 w2 hown2 hgrow
                          have hu2 : Up V w2 := Up.grown (upI : Up V _) hgrow (fun k' h => by have h' := Option.some.inj h; subst h'; first | exact Nat.le_refl _ | simp | omega)
                          obtain ⟨x2, rfl⟩ := hu2.mk
                          obtain ⟨g2, c2, rfl, hg2⟩ := owns_sliceK hown2
                          have Hown2 := Lib.hid hown2
                          clear hown2 hgrow hu2
                          refine hK _ _ ?_; clear hK K; (try simp only [Act.put, List.setIfInBounds_toArray, List.set_cons_succ, List.set_cons_zero])
                          refine wpAny_ready (rs := [16]) (by kernel_rfl) (by simp) ?_
                          refine AllReady.cons rfl (fun K hK => ?_) ?_
                          · skip
                            (with_reducible refine held ?_); refine HS_append_none (by kernel_rfl) _ _ 86 rfl V.heap.size 89 i0 23 Tryz.underlying86 Hi.out _ _ _ rfl Hown2.out rfl ?_
                            refine hK _ _ ?_; clear hK K; (try simp only [Act.put, List.setIfInBounds_toArray, List.set_cons_succ, List.set_cons_zero])
                            refine any_take (i := 17) (v := ?v142) rfl (by kernel_rfl) (by kernel_rfl) (by kernel_rfl) (Or.inl ⟨by kernel_rfl, ?hy142⟩) ?rest142
                            case hy142 => (intro w; go_simp; (try with_reducible rfl))
                            (try simp only [Act.put, List.setIfInBounds_toArray, List.set_cons_succ, List.set_cons_zero])
                            refine wpAny_done (by kernel_rfl) ?_ _
                            refine ⟨rfl, ?_⟩
                            go_wp2_with fail
                            go_roundw
                            case rel => exact ⟨q + 1, [⟨1, Ln.zero, y⟩], by omega, by go_num, Lib.hid (by rw [HE.out]; rfl), by show 1 ≤ _; omega, Lib.hid (fun c hc => by obtain rfl := List.mem_singleton.1 hc; exact yb), Lib.hid (owns_base (by simpa using Hown2.out) (upI : Up w V).size), upI⟩
                            case measure => simp [intOf]; omega
                          exact AllReady.nil
                        exact AllReady.nil
                      exact AllReady.nil
                    exact AllReady.nil
                  exact AllReady.nil
                refine AllReady.cons rfl (fun K hK => ?_) ?_
                · skip
                  (with_reducible refine held ?_); refine HS_load_mid (by kernel_rfl) 60 _ rfl b1 (o1 + q * 11) (by kernel_rfl) y.cells _ (HYV _ inferInstance) Tryz.underlying60 rfl rlnSize ?_
                  refine hK _ _ ?_; clear hK K; (try simp only [Act.put, List.setIfInBounds_toArray, List.set_cons_succ, List.set_cons_zero])
                  refine any_take (i := 10) (v := .agg (Ch.mk 1 Ln.zero y).cells.toArray) rfl (by kernel_rfl) (by kernel_rfl) (by kernel_rfl) (Or.inl ⟨by kernel_rfl, yields_build 89 _ rfl #[(0, .int .u8 1), (1, .agg Ln.zero.cells.toArray), (2, .agg y.cells.toArray)] (by kernel_rfl) _ (fun w => build_rch 1 Ln.zero y w)⟩) ?_; (try simp only [Act.put, List.setIfInBounds_toArray, List.set_cons_succ, List.set_cons_zero])
                  refine wpAny_ready (rs := [0, 11]) (by kernel_rfl) (by simp) ?_
                  refine AllReady.cons rfl (fun K hK => ?_) ?_
                  · go_simp
                    refine hK _ _ ?_; clear hK K; (try simp only [Act.put, List.setIfInBounds_toArray, List.set_cons_succ, List.set_cons_zero])
                    refine wpAny_ready (rs := [4, 11]) (by kernel_rfl) (by simp) ?_
                    refine AllReady.cons rfl (fun K hK => ?_) ?_
                    · skip
                      (with_reducible refine held ?_); refine HS_append_none (by kernel_rfl) _ _ 86 rfl V.heap.size 89 i0 23 Tryz.underlying86 Hi.out _ 0 [] rfl (fresh_own V _ (by simp) (by simp)) rfl ?_
                      refine hK _ _ ?_; clear hK K; (try simp only [Act.put, List.setIfInBounds_toArray, List.set_cons_succ, List.set_cons_zero])
                      refine wpAny_ready (rs := [11]) (by kernel_rfl) (by simp) ?_
                      refine AllReady.cons rfl (fun K hK => ?_) ?_
                      · skip
                        (with_reducible refine held ?_); refine HS_slice (by kernel_rfl) 86 1 _ rfl #[(0, .agg (Ch.mk 1 Ln.zero y).cells.toArray)] (by kernel_rfl) _ _ (slice_rch (Ch.mk 1 Ln.zero y) _) ?_
                        refine hK _ _ ?_; clear hK K; (try simp only [Act.put, List.setIfInBounds_toArray, List.set_cons_succ, List.set_cons_zero])
                        refine wpAny_ready (rs := [12]) (by kernel_rfl) (by simp) ?_
                        refine AllReady.cons rfl (fun K hK => ?_) ?_
                        · skip
                          (with_reducible refine held ?_); refine HS_append_own (by kernel_rfl) _ _ 86 rfl V.heap.size 89 i0 (Ch.mk 0 Ln.zero Ln.zero).val 23 88 Tryz.underlying86 Hi.out Hy0.out Hy1.out Hy2.out rfl (by decide) _ 0 [] rfl (owns_up (fresh_own V _ (by simp) (by simp)) (((Up.refl _).alloc _).drew)) ⟨_, 0, none⟩ 1 1 (Ch.mk 1 Ln.zero y).cells rfl rfl (fun j u hj => ch_at _ _ _ j u hj) (fun u h => chg_one _ u h) (by unfold maxLen; omega) (by omega) (upI : Up V _).size ?_
                          intro v2 w2 hown2 hgrow
                          have hu2 : Up V w2 := Up.grown (upI : Up V _) hgrow (fun k' h => by have h' := Option.some.inj h; subst h'; first | exact Nat.le_refl _ | simp | omega)
                          obtain ⟨x2, rfl⟩ := hu2.mk
                          obtain ⟨g2, c2, rfl, hg2⟩ := owns_sliceK hown2
                          have Hown2 := Lib.hid hown2
                          clear hown2 hgrow hu2
                          refine hK _ _ ?_; clear hK K; (try simp only [Act.put, List.setIfInBounds_toArray, List.set_cons_succ, List.set_cons_zero])
                          refine wpAny_ready (rs := [16]) (by kernel_rfl) (by simp) ?_
                          refine AllReady.cons rfl (fun K hK => ?_) ?_
                          · skip
                            (with_reducible refine held ?_); refine HS_append_none (by kernel_rfl) _ _ 86 rfl V.heap.size 89 i0 23 Tryz.underlying86 Hi.out _ _ _ rfl Hown2.out rfl ?_
                            refine hK _ _ ?_; clear hK K; (try simp only [Act.put, List.setIfInBounds_toArray, List.set_cons_succ, List.set_cons_zero])
                            refine any_take (i := 17) (v := ?v143) rfl (by kernel_rfl) (by kernel_rfl) (by kernel_rfl) (Or.inl ⟨by kernel_rfl, ?hy143⟩) ?rest143
                            case hy143 => (intro w; go_simp; (try with_reducible rfl))
                            (try simp only [Act.put, List.setIfInBounds_toArray, List.set_cons_succ, List.set_cons_zero])
                            refine wpAny_done (by kernel_rfl) ?_ _
                            refine ⟨rfl, ?_⟩
                            go_wp2_with fail
                            go_roundw
                            case rel => exact ⟨q + 1, [⟨1, Ln.zero, y⟩], by omega, by go_num, Lib.hid (by rw [HE.out]; rfl), by show 1 ≤ _; omega, Lib.hid (fun c hc => by obtain rfl := List.mem_singleton.1 hc; exact yb), Lib.hid (owns_base (by simpa using Hown2.out) (upI : Up w V).size), upI⟩
                            case measure => simp [intOf]; omega
                          exact AllReady.nil
                        exact AllReady.nil
                      exact AllReady.nil
                    refine AllReady.cons rfl (fun K hK => ?_) ?_
                    · skip
                      (with_reducible refine held ?_); refine HS_slice (by kernel_rfl) 86 1 _ rfl #[(0, .agg (Ch.mk 1 Ln.zero y).cells.toArray)] (by kernel_rfl) _ _ (slice_rch (Ch.mk 1 Ln.zero y) _) ?_
                      refine hK _ _ ?_; clear hK K; (try simp only [Act.put, List.setIfInBounds_toArray, List.set_cons_succ, List.set_cons_zero])
                      refine wpAny_ready (rs := [4]) (by kernel_rfl) (by simp) ?_
                      refine AllReady.cons rfl (fun K hK => ?_) ?_
                      · skip
                        (with_reducible refine held ?_); refine HS_append_none (by kernel_rfl) _ _ 86 rfl V.heap.size 89 i0 23 Tryz.underlying86 Hi.out _ 0 [] rfl (owns_up (fresh_own V _ (by simp) (by simp)) (((Up.refl _).alloc _).drew)) rfl ?_
                        refine hK _ _ ?_; clear hK K; (try simp only [Act.put, List.setIfInBounds_toArray, List.set_cons_succ, List.set_cons_zero])
                        refine wpAny_ready (rs := [12]) (by kernel_rfl) (by simp) ?_
                        refine AllReady.cons rfl (fun K hK => ?_) ?_
                        · skip
                          (with_reducible refine held ?_); refine HS_append_own (by kernel_rfl) _ _ 86 rfl V.heap.size 89 i0 (Ch.mk 0 Ln.zero Ln.zero).val 23 88 Tryz.underlying86 Hi.out Hy0.out Hy1.out Hy2.out rfl (by decide) _ 0 [] rfl (owns_up (fresh_own V _ (by simp) (by simp)) (((Up.refl _).alloc _).drew)) ⟨_, 0, none⟩ 1 1 (Ch.mk 1 Ln.zero y).cells rfl rfl (fun j u hj => ch_at _ _ _ j u hj) (fun u h => chg_one _ u h) (by unfold maxLen; omega) (by omega) (upI : Up V _).size ?_
                          intro v2 w2 hown2 hgrow
                          have hu2 : Up V w2 := Up.grown (upI : Up V _) hgrow (fun k' h => by have h' := Option.some.inj h; subst h'; first | exact Nat.le_refl _ | simp | omega)
                          obtain ⟨x2, rfl⟩ := hu2.mk
                          obtain ⟨g2, c2, rfl, hg2⟩ := owns_sliceK hown2
                          have Hown2 := Lib.hid hown2
                          clear hown2 hgrow hu2
                          refine hK _ _ ?_; clear hK K; (try simp only [Act.put, List.setIfInBounds_toArray, List.set_cons_succ, List.set_cons_zero])
                          refine wpAny_ready (rs := [16]) (by kernel_rfl) (by simp) ?_
                          refine AllReady.cons rfl (fun K hK => ?_) ?_
                          · skip
                            (with_reducible refine held ?_); refine HS_append_none (by kernel_rfl) _ _ 86 rfl V.heap.size 89 i0 23 Tryz.underlying86 Hi.out _ _ _ rfl Hown2.out rfl ?_
                            refine hK _ _ ?_; clear hK K; (try simp only [Act.put, List.setIfInBounds_toArray, List.set_cons_succ, List.set_cons_zero])
                            refine any_take (i := 17) (v := ?v144) rfl (by kernel_rfl) (by kernel_rfl) (by kernel_rfl) (Or.inl ⟨by kernel_rfl, ?hy144⟩) ?rest144
                            case hy144 => (intro w; go_simp; (try with_reducible rfl))
                            (try simp only [Act.put, List.setIfInBounds_toArray, List.set_cons_succ, List.set_cons_zero])
                            refine wpAny_done (by kernel_rfl) ?_ _
                            refine ⟨rfl, ?_⟩
                            go_wp2_with fail
                            go_roundw
                            case rel => exact ⟨q + 1, [⟨1, Ln.zero, y⟩], by omega, by go_num, Lib.hid (by rw [HE.out]; rfl), by show 1 ≤ _; omega, Lib.hid (fun c hc => by obtain rfl := List.mem_singleton.1 hc; exact yb), Lib.hid (owns_base (by simpa using Hown2.out) (upI : Up w V).size), upI⟩
                            case measure => simp [intOf]; omega
                          exact AllReady.nil
                        exact AllReady.nil
                      exact AllReady.nil
                    exact AllReady.nil
                  refine AllReady.cons rfl (fun K hK => ?_) ?_
                  · skip
                    (with_reducible refine held ?_); refine HS_slice (by kernel_rfl) 86 1 _ rfl #[(0, .agg (Ch.mk 1 Ln.zero y).cells.toArray)] (by kernel_rfl) _ _ (slice_rch (Ch.mk 1 Ln.zero y) _) ?_
                    refine hK _ _ ?_; clear hK K; (try simp only [Act.put, List.setIfInBounds_toArray, List.set_cons_succ, List.set_cons_zero])
                    refine wpAny_ready (rs := [0]) (by kernel_rfl) (by simp) ?_
                    refine AllReady.cons rfl (fun K hK => ?_) ?_
                    · go_simp
                      refine hK _ _ ?_; clear hK K; (try simp only [Act.put, List.setIfInBounds_toArray, List.set_cons_succ, List.set_cons_zero])
                      refine wpAny_ready (rs := [4]) (by kernel_rfl) (by simp) ?_
                      refine AllReady.cons rfl (fun K hK => ?_) ?_
                      · skip
                        (with_reducible refine held ?_); refine HS_append_none (by kernel_rfl) _ _ 86 rfl V.heap.size 89 i0 23 Tryz.underlying86 Hi.out _ 0 [] rfl (fresh_own (V.alloc (.cells (Ch.mk 1 Ln.zero y).cells.toArray 89)) _ (by simp) (by simp)) rfl ?_
                        refine hK _ _ ?_; clear hK K; (try simp only [Act.put, List.setIfInBounds_toArray, List.set_cons_succ, List.set_cons_zero])
                        refine wpAny_ready (rs := [12]) (by kernel_rfl) (by simp) ?_
                        refine AllReady.cons rfl (fun K hK => ?_) ?_
                        · skip
                          (with_reducible refine held ?_); refine HS_append_own (by kernel_rfl) _ _ 86 rfl V.heap.size 89 i0 (Ch.mk 0 Ln.zero Ln.zero).val 23 88 Tryz.underlying86 Hi.out Hy0.out Hy1.out Hy2.out rfl (by decide) _ 0 [] rfl (fresh_own (V.alloc (.cells (Ch.mk 1 Ln.zero y).cells.toArray 89)) _ (by simp) (by simp)) ⟨_, 0, none⟩ 1 1 (Ch.mk 1 Ln.zero y).cells rfl rfl (fun t u h => Up.cell_some ((Up.refl _).alloc _) (ch_at V (Ch.mk 1 Ln.zero y) 89 t u h)) (fun u h => chg_one _ u h) (by unfold maxLen; omega) (by omega) (upI : Up V _).size ?_
                          intro v2 w2 hown2 hgrow
                          have hu2 : Up V w2 := Up.grown (upI : Up V _) hgrow (fun k' h => by have h' := Option.some.inj h; subst h'; first | exact Nat.le_refl _ | simp | omega)
                          obtain ⟨x2, rfl⟩ := hu2.mk
                          obtain ⟨g2, c2, rfl, hg2⟩ := owns_sliceK hown2
                          have Hown2 := Lib.hid hown2
                          clear hown2 hgrow hu2
                          refine hK _ _ ?_; clear hK K; (try simp only [Act.put, List.setIfInBounds_toArray, List.set_cons_succ, List.set_cons_zero])
                          refine wpAny_ready (rs := [16]) (by kernel_rfl) (by simp) ?_
                          refine AllReady.cons rfl (fun K hK => ?_) ?_
                          · skip
                            (with_reducible refine held ?_); refine HS_append_none (by kernel_rfl) _ _ 86 rfl V.heap.size 89 i0 23 Tryz.underlying86 Hi.out _ _ _ rfl Hown2.out rfl ?_
                            refine hK _ _ ?_; clear hK K; (try simp only [Act.put, List.setIfInBounds_toArray, List.set_cons_succ, List.set_cons_zero])
                            refine any_take (i := 17) (v := ?v145) rfl (by kernel_rfl) (by kernel_rfl) (by kernel_rfl) (Or.inl ⟨by kernel_rfl, ?hy145⟩) ?rest145
                            case hy145 => (intro w; go_simp; (try with_reducible rfl))
                            (try simp only [Act.put, List.setIfInBounds_toArray, List.set_cons_succ, List.set_cons_zero])
                            refine wpAny_done (by kernel_rfl) ?_ _
                            refine ⟨rfl, ?_⟩
                            go_wp2_with fail
                            go_roundw
                            case rel => exact ⟨q + 1, [⟨1, Ln.zero, y⟩], by omega, by go_num, Lib.hid (by rw [HE.out]; rfl), by show 1 ≤ _; omega, Lib.hid (fun c hc => by obtain rfl := List.mem_singleton.1 hc; exact yb), Lib.hid (owns_base (by simpa using Hown2.out) (upI : Up w V).size), upI⟩
                            case measure => simp [intOf]; omega
                          exact AllReady.nil
                        exact AllReady.nil
                      exact AllReady.nil
                    exact AllReady.nil
                  exact AllReady.nil
                exact AllReady.nil
            · have hgZ : g < Z.heap.size := (Array.getElem?_eq_some_iff.1 hg).1
              haveI : LtSize g Z := ⟨hgZ⟩
              obtain ⟨m, hm⟩ : ∃ m, M.length = m := ⟨_, rfl⟩
              rw [hm] at hMc hMl ⊢
              have Hm := Lib.hid hm
              have HO2 : Hid (Z.ownsRow w.heap.size 89 23 (.slice (some ⟨g, 0, none⟩) m cap3) m (M.flatMap Ch.cells)) := by rw [← hm]; exact HO
              have hrowM : ∀ (j : Nat) (c : Ch), M[j]? = some c → Z.rangeAt g (j * 23) c.cells := fun j c hj t u ht => own_cellK HO2.out (j * 23 + t) u (flat_at Ch.cells_length M j t c u hj ht)
              clear hm hg hcs Hown
              go_wp2_with fail
              go_loopw [12] (fun i wr => ∃ j : Nat, j ≤ m ∧ j ≤ insN y M ∧ i = .int .i64 (j : Int) ∧ ∃ x9 : Ext Z, wr = x9.w) (fun i _ => m - (intOf i).toNat)
              case atStart => exact ⟨0, Nat.zero_le _, Nat.zero_le _, rfl, (Up.refl Z).mk⟩
              case round =>
                obtain ⟨j, hj, hji, rfl, x9, rfl⟩ := hrel
                have j0 : (0 : Int) ≤ (j : Int) := by omega
                haveI : UpI WR x9.w := ⟨uZ.up.trans x9.up⟩
                by_cases hjm : j < m
                · have hjm' : (j : Int) < (m : Int) := by omega
                  obtain ⟨e, he⟩ : ∃ e, M[j]? = some e := ⟨_, List.getElem?_eq_getElem (by rw [Hm.out]; exact hjm)⟩
                  have hEr : x9.w.rangeAt g (j * 23) e.cells := fun t u ht => x9.up.cell_some' (hrowM j e he t u ht)
                  have hYr : x9.w.rangeAt b1 (o1 + q * 11) y.kcells := fun t u ht => x9.up.cell_some' (hYkZ t u ht)
                  have hke := fun W => rkey_any e W
                  obtain ⟨C, hC⟩ : ∃ C, (chLn e).cmp y = C := ⟨_, rfl⟩
                  have hcm := fun w => rcmpK (chLn e).pr (chLn e).s (chLn e).d (chLn e).sp (chLn e).dp y.pr y.s y.d y.sp y.dp C w (HMb.out e (List.mem_of_getElem? he)).key yb.key (Lib.hid hC)
                  have hst := insN_step y M j e he hji
                  rw [hC] at hst
                  clear he hC
                  unfold Ln.kcells at hke
                  go_upto_region 16 with fail
                  by_cases hltC : C < 0
                  · have hj2 := hst.1 hltC
                    clear hst hji
                    refine wp_region_ext (by kernel_rfl) (by kernel_rfl) ?_
                    repeat (first
                      | ((with_reducible refine held ?_); refine HQ_load_mid (by kernel_rfl) 89 _ rfl g (j * 23) rfl e.cells _ (range_ext hEr) Tryz.underlying89 rfl rchSize ?_; simp only [Act.put, List.setIfInBounds_toArray, List.set_cons_succ, List.set_cons_zero])
                      | ((with_reducible refine held ?_); refine HQ_load_mid (by kernel_rfl) 29 _ rfl b1 (o1 + q * 11) rfl [.int .u8 y.pr, .int .u32 y.s, .int .u32 y.d, .int .u16 y.sp, .int .u16 y.dp] _ (range_ext hYr) Tryz.underlying29 rfl keySize ?_; simp only [Act.put, List.setIfInBounds_toArray, List.set_cons_succ, List.set_cons_zero])
                      | go_big_quiet_step (first | (go_at_call 60; with_reducible exact (hke _).ext) | (go_at_call 58; with_reducible exact (hcm _).ext)))
                    refine wpQuiet_nil ?_
                    rintro _ ⟨z9, rfl⟩
                    go_wp2_with fail
                    go_roundw
                    case rel => exact ⟨j + 1, by omega, hj2, by go_num, mkI⟩
                    case measure => simp [intOf]; omega
                  · have hj2 := hst.2 hltC
                    have hgeC : (0 : Int) ≤ C := by omega
                    clear hst hji
                    refine wp_region_ext (by kernel_rfl) (by kernel_rfl) ?_
                    repeat (first
                      | ((with_reducible refine held ?_); refine HQ_load_mid (by kernel_rfl) 89 _ rfl g (j * 23) rfl e.cells _ (range_ext hEr) Tryz.underlying89 rfl rchSize ?_; simp only [Act.put, List.setIfInBounds_toArray, List.set_cons_succ, List.set_cons_zero])
                      | ((with_reducible refine held ?_); refine HQ_load_mid (by kernel_rfl) 29 _ rfl b1 (o1 + q * 11) rfl [.int .u8 y.pr, .int .u32 y.s, .int .u32 y.d, .int .u16 y.sp, .int .u16 y.dp] _ (range_ext hYr) Tryz.underlying29 rfl keySize ?_; simp only [Act.put, List.setIfInBounds_toArray, List.set_cons_succ, List.set_cons_zero])
                      | go_big_quiet_step (first | (go_at_call 60; with_reducible exact (hke _).ext) | (go_at_call 58; with_reducible exact (hcm _).ext)))
                    refine wpQuiet_nil ?_
                    rintro _ ⟨z9, rfl⟩
                    go_upto_region 18 with fail
                    clear hEr hYr hke hcm
                    have HI := Lib.hid (show insC M y = M.take j ++ ⟨1, Ln.zero, y⟩ :: M.drop j by unfold insC; rw [hj2])
                    refine wp_letter (fun V => UpI WR V ∧ V.rangeAt b1 (o1 + q * 11) y.cells ∧ LtSize b1 V ∧ LtSize g V ∧ V.ownsRow w.heap.size 89 23 (.slice (some ⟨g, 0, none⟩) m cap3) m (M.flatMap Ch.cells)) ⟨inferInstance, fun j u hj => (upI : Up Z _).cell_some' (hYZ j u hj), inferInstance, inferInstance, owns_up HO2.out upI⟩ ?_
                    clear HO2 HO hrowM hYZ hYkZ
                    rintro V ⟨uV, hYV, hb1V, hgV, hOV⟩
                    haveI := uV
                    haveI : UpI w V := ⟨hu.trans uV.up⟩
                    haveI := hgV
                    haveI := hb1V
                    have HYV : ∀ W, UpI V W → W.rangeAt b1 (o1 + q * 11) y.cells := fun W h j u hj => h.up.cell_some' (hYV j u hj)
                    have hcV : ∀ (t : Nat) u, (M.flatMap Ch.cells)[t]? = some u → V.cell? ⟨g, t, none⟩ = some u := fun t u h => own_cellK hOV t u h
                    have hl1 : ((M.take j).flatMap Ch.cells).length = j * 23 := by rw [flat_length (cells := Ch.cells) (fun z => z.cells_length), List.length_take, Hm.out]; congr 1; omega
                    have hl2 : ((M.drop j).flatMap Ch.cells).length = (m - j) * 23 := by rw [flat_length (cells := Ch.cells) (fun z => z.cells_length), List.length_drop, Hm.out]; (try simp)
                    have hc1' : ∀ (t : Nat) u, ((M.take j).flatMap Ch.cells)[t]? = some u → V.cell? (Addr.add ⟨g, 0, none⟩ t) = some u := fun t u h => by
                      rw [add_zero_off]
                      have ht : t < j * 23 := by rw [← hl1]; exact (List.getElem?_eq_some_iff.1 h).1
                      refine hcV t u ?_
                      have h3 : M.flatMap Ch.cells = (M.take j).flatMap Ch.cells ++ (M.drop j).flatMap Ch.cells := by rw [← List.flatMap_append, List.take_append_drop]
                      rw [h3, List.getElem?_append_left (by rw [hl1]; exact ht)]
                      exact h
                    have hfin : ∀ {X : World} {v3 : Value}, X.ownsRow V.heap.size 89 23 v3 (0 + j + 1 + (m - j)) ([] ++ (M.take j).flatMap Ch.cells ++ (Ch.mk 1 Ln.zero y).cells ++ (M.drop j).flatMap Ch.cells) → X.ownsRow w.heap.size 89 23 v3 (M.take j ++ (⟨1, Ln.zero, y⟩ : Ch) :: M.drop j).length ((M.take j ++ (⟨1, Ln.zero, y⟩ : Ch) :: M.drop j).flatMap Ch.cells) := fun h => by
                      have e1 : (M.take j ++ (⟨1, Ln.zero, y⟩ : Ch) :: M.drop j).length = 0 + j + 1 + (m - j) := by rw [List.length_append, List.length_cons, List.length_take, List.length_drop, Hm.out]; omega
                      rw [e1, List.flatMap_append, List.flatMap_cons, ← List.append_assoc]
                      exact owns_base h (upI : Up w V).size
                    clear hOV
                    have HMb2 : Hid (∀ c ∈ M.take j ++ ⟨1, Ln.zero, y⟩ :: M.drop j, LnB (chLn c)) := Lib.hid (fun c hc => by
                      rw [← HI.out] at hc
                      rcases (insC_mem M y c).1 hc with rfl | h
                      · exact yb
                      · exact HMb.out c h)
                    have hlen3 : (M.take j ++ (⟨1, Ln.zero, y⟩ : Ch) :: M.drop j).length ≤ 1000 + (q + 1) := by rw [← HI.out, insC_len, Hm.out]; exact Nat.succ_le_succ hMl
                    have HLn := ins_len j m q NB (by omega) hMl hlt2 lb
                    have hjc : j ≤ cap3 := by omega
                    have hjm2 : j ≤ m := by omega
                    have hmix : Tryz.prog.follows .mixedOrders = true := by kernel_rfl
                    obtain ⟨o16, ho16⟩ : ∃ o, (if cap3 = j then 0 else j * 23) = o := ⟨_, rfl⟩
                    have hif : (if cap3 = j then some (Addr.mk g 0 none) else some (Addr.mk g (j * 23) none)) = some (Addr.mk g o16 none) := by rw [← ho16]; split <;> rfl
                    have hc2' : ∀ (t : Nat) u, ((M.drop j).flatMap Ch.cells)[t]? = some u → V.cell? (Addr.add ⟨g, o16, none⟩ t) = some u := fun t u h => by
                      by_cases hca : cap3 = j
                      · have hdr : (M.drop j).flatMap Ch.cells = [] := by rw [List.drop_of_length_le (by rw [Hm.out]; omega)]; rfl
                        rw [hdr] at h; cases h
                      · rw [if_neg hca] at ho16
                        rw [← ho16, add_off]
                        refine hcV (j * 23 + t) u ?_
                        have h3 : M.flatMap Ch.cells = (M.take j).flatMap Ch.cells ++ (M.drop j).flatMap Ch.cells := by rw [← List.flatMap_append, List.take_append_drop]
                        rw [h3, List.getElem?_append_right (by rw [hl1]; omega), hl1, show j * 23 + t - j * 23 = t by omega]
                        exact h
                    have Ho16 := Lib.hid ho16
                    clear ho16
                    refine wp_region_turn hmix ?_
                    refine any_take (i := 5) (v := .agg Ln.zero.cells.toArray) rfl (by kernel_rfl) (by kernel_rfl) (by kernel_rfl) (Or.inl ⟨by kernel_rfl, yields_build 60 _ rfl #[] (by kernel_rfl) _ (fun w => build_rzero w)⟩) ?_; (try simp only [Act.put, List.setIfInBounds_toArray, List.set_cons_succ, List.set_cons_zero])
                    refine any_take (i := 1) (v := ?v101) rfl (by kernel_rfl) (by kernel_rfl) (by kernel_rfl) (Or.inl ⟨by kernel_rfl, ?hy101⟩) ?rest101
                    case hy101 => (intro w; go_simp; (try with_reducible rfl))
                    (try simp only [Act.put, List.setIfInBounds_toArray, List.set_cons_succ, List.set_cons_zero])
                    refine any_take (i := 2) (v := ?v102) rfl (by kernel_rfl) (by kernel_rfl) (by kernel_rfl) (Or.inl ⟨by kernel_rfl, ?hy102⟩) ?rest102
                    case hy102 => (intro w; go_simp; (try with_reducible rfl))
                    (try simp only [Act.put, List.setIfInBounds_toArray, List.set_cons_succ, List.set_cons_zero])
                    refine any_take (i := 3) (v := ?v103) rfl (by kernel_rfl) (by kernel_rfl) (by kernel_rfl) (Or.inl ⟨by kernel_rfl, ?hy103⟩) ?rest103
                    case hy103 => (intro w; go_simp; (try with_reducible rfl))
                    (try simp only [Act.put, List.setIfInBounds_toArray, List.set_cons_succ, List.set_cons_zero])
                    refine any_take (i := 6) (v := ?v104) rfl (by kernel_rfl) (by kernel_rfl) (by kernel_rfl) (Or.inl ⟨by kernel_rfl, ?hy104⟩) ?rest104
                    case hy104 => (intro w; go_simp; (try with_reducible rfl))
                    (try simp only [Act.put, List.setIfInBounds_toArray, List.set_cons_succ, List.set_cons_zero])
                    refine any_take (i := 7) (v := ?v105) rfl (by kernel_rfl) (by kernel_rfl) (by kernel_rfl) (Or.inl ⟨by kernel_rfl, ?hy105⟩) ?rest105
                    case hy105 => (intro w; go_simp; (try with_reducible rfl))
                    (try simp only [Act.put, List.setIfInBounds_toArray, List.set_cons_succ, List.set_cons_zero])
                    refine any_take (i := 8) (v := ?v106) rfl (by kernel_rfl) (by kernel_rfl) (by kernel_rfl) (Or.inl ⟨by kernel_rfl, ?hy106⟩) ?rest106
                    case hy106 => (intro w; go_simp; (try with_reducible rfl))
                    (try simp only [Act.put, List.setIfInBounds_toArray, List.set_cons_succ, List.set_cons_zero])
                    refine any_take (i := 13) (v := ?v107) rfl (by kernel_rfl) (by kernel_rfl) (by kernel_rfl) (Or.inl ⟨by kernel_rfl, ?hy107⟩) ?rest107
                    case hy107 => (intro w; go_simp; (try with_reducible rfl))
                    (try simp only [Act.put, List.setIfInBounds_toArray, List.set_cons_succ, List.set_cons_zero])
                    refine any_take (i := 14) (v := ?v108) rfl (by kernel_rfl) (by kernel_rfl) (by kernel_rfl) (Or.inl ⟨by kernel_rfl, ?hy108⟩) ?rest108
                    case hy108 => (intro w; go_simp; (try with_reducible rfl))
                    (try simp only [Act.put, List.setIfInBounds_toArray, List.set_cons_succ, List.set_cons_zero])
                    refine any_take (i := 15) (v := ?v109) rfl (by kernel_rfl) (by kernel_rfl) (by kernel_rfl) (Or.inl ⟨by kernel_rfl, ?hy109⟩) ?rest109
                    case hy109 => (intro w; go_simp; (try with_reducible rfl))
                    (try simp only [Act.put, List.setIfInBounds_toArray, List.set_cons_succ, List.set_cons_zero])
                    refine wpAny_ready (rs := [0, 9]) (by kernel_rfl) (by simp) ?_
                    refine AllReady.cons rfl (fun K hK => ?_) ?_
                    · go_simp
                      refine hK _ _ ?_; clear hK K; (try simp only [Act.put, List.setIfInBounds_toArray, List.set_cons_succ, List.set_cons_zero])
                      refine wpAny_ready (rs := [4, 9]) (by kernel_rfl) (by simp) ?_
                      refine AllReady.cons rfl (fun K hK => ?_) ?_
                      · skip
                        (with_reducible refine held ?_); refine HS_append_own (by kernel_rfl) _ _ 86 rfl V.heap.size 89 i0 (Ch.mk 0 Ln.zero Ln.zero).val 23 88 Tryz.underlying86 Hi.out Hy0.out Hy1.out Hy2.out rfl (by decide) _ 0 [] rfl (fresh_own V _ (by simp) (by simp)) ⟨g, 0, none⟩ j _ ((M.take j).flatMap Ch.cells) rfl hl1 (fun t u h => (upI : Up V _).cell_some (hc1' t u h)) (chflat_one _) HLn.p1 HLn.p2 (upI : Up V _).size ?_
                        intro v1 w1 hown1 hgrow
                        have hu1 : Up V w1 := Up.grown (upI : Up V _) hgrow (fun k' h => by have h' := Option.some.inj h; subst h'; first | exact Nat.le_refl _ | simp | omega)
                        obtain ⟨x1, rfl⟩ := hu1.mk
                        have Hown1 := Lib.hid hown1
                        clear hown1 hgrow hu1
                        refine hK _ _ ?_; clear hK K; (try simp only [Act.put, List.setIfInBounds_toArray, List.set_cons_succ, List.set_cons_zero])
                        refine wpAny_ready (rs := [9]) (by kernel_rfl) (by simp) ?_
                        refine AllReady.cons rfl (fun K hK => ?_) ?_
                        · skip
                          (with_reducible refine held ?_); refine HS_load_mid (by kernel_rfl) 60 _ rfl b1 (o1 + q * 11) (by kernel_rfl) y.cells _ (HYV _ inferInstance) Tryz.underlying60 rfl rlnSize ?_
                          refine hK _ _ ?_; clear hK K; (try simp only [Act.put, List.setIfInBounds_toArray, List.set_cons_succ, List.set_cons_zero])
                          refine any_take (i := 10) (v := .agg (Ch.mk 1 Ln.zero y).cells.toArray) rfl (by kernel_rfl) (by kernel_rfl) (by kernel_rfl) (Or.inl ⟨by kernel_rfl, yields_build 89 _ rfl #[(0, .int .u8 1), (1, .agg Ln.zero.cells.toArray), (2, .agg y.cells.toArray)] (by kernel_rfl) _ (fun w => build_rch 1 Ln.zero y w)⟩) ?_; (try simp only [Act.put, List.setIfInBounds_toArray, List.set_cons_succ, List.set_cons_zero])
                          refine wpAny_ready (rs := [11]) (by kernel_rfl) (by simp) ?_
                          refine AllReady.cons rfl (fun K hK => ?_) ?_
                          · skip
                            (with_reducible refine held ?_); refine HS_slice (by kernel_rfl) 86 1 _ rfl #[(0, .agg (Ch.mk 1 Ln.zero y).cells.toArray)] (by kernel_rfl) _ _ (slice_rch (Ch.mk 1 Ln.zero y) _) ?_
                            refine hK _ _ ?_; clear hK K; (try simp only [Act.put, List.setIfInBounds_toArray, List.set_cons_succ, List.set_cons_zero])
                            refine wpAny_ready (rs := [12]) (by kernel_rfl) (by simp) ?_
                            refine AllReady.cons rfl (fun K hK => ?_) ?_
                            · skip
                              (with_reducible refine held ?_); refine HS_append_own (by kernel_rfl) _ _ 86 rfl V.heap.size 89 i0 (Ch.mk 0 Ln.zero Ln.zero).val 23 88 Tryz.underlying86 Hi.out Hy0.out Hy1.out Hy2.out rfl (by decide) v1 _ _ rfl (owns_up Hown1.out (upI : Up x1.w _)) ⟨_, 0, none⟩ 1 1 (Ch.mk 1 Ln.zero y).cells rfl rfl (fun j u hj => ch_at _ _ _ j u hj) (fun u h => chg_one _ u h) HLn.p3 HLn.p4 (upI : Up V _).size ?_
                              intro v2 w2 hown2 hgrow
                              have hu2 : Up V w2 := Up.grown (upI : Up V _) hgrow (fun k' h => owns_row Hown1.out k' h)
                              obtain ⟨x2, rfl⟩ := hu2.mk
                              have Hown2 := Lib.hid hown2
                              clear hown2 hgrow hu2
                              refine hK _ _ ?_; clear hK K; (try simp only [Act.put, List.setIfInBounds_toArray, List.set_cons_succ, List.set_cons_zero])
                              refine wpAny_ready (rs := [16]) (by kernel_rfl) (by simp) ?_
                              refine AllReady.cons rfl (fun K hK => ?_) ?_
                              · skip
                                (with_reducible refine held ?_); refine HS_append_own (by kernel_rfl) _ _ 86 rfl V.heap.size 89 i0 (Ch.mk 0 Ln.zero Ln.zero).val 23 88 Tryz.underlying86 Hi.out Hy0.out Hy1.out Hy2.out rfl (by decide) v2 _ _ rfl Hown2.out ⟨g, o16, none⟩ (m - j) _ ((M.drop j).flatMap Ch.cells) rfl hl2 (fun t u h => (upI : Up V _).cell_some (hc2' t u h)) (chflat_one _) HLn.p5 HLn.p6 (upI : Up V _).size ?_
                                intro v3 w3 hown3 hgrow
                                have hu3 : Up V w3 := Up.grown (upI : Up V _) hgrow (fun k' h => owns_row Hown2.out k' h)
                                obtain ⟨x3, rfl⟩ := hu3.mk
                                have Hown3 := Lib.hid hown3
                                clear hown3 hgrow hu3
                                refine hK _ _ ?_; clear hK K; (try simp only [Act.put, List.setIfInBounds_toArray, List.set_cons_succ, List.set_cons_zero])
                                refine any_take (i := 17) (v := ?v110) rfl (by kernel_rfl) (by kernel_rfl) (by kernel_rfl) (Or.inl ⟨by kernel_rfl, ?hy110⟩) ?rest110
                                case hy110 => (intro w; go_simp; (try with_reducible rfl))
                                (try simp only [Act.put, List.setIfInBounds_toArray, List.set_cons_succ, List.set_cons_zero])
                                refine wpAny_done (by kernel_rfl) ?_ _
                                refine ⟨rfl, ?_⟩
                                go_wp2_with fail
                                go_roundw
                                case rel => exact ⟨q + 1, M.take j ++ ⟨1, Ln.zero, y⟩ :: M.drop j, by omega, by go_num, Lib.hid (by rw [HE.out, HI.out]), hlen3, HMb2, Lib.hid (hfin Hown3.out), upI⟩
                                case measure => simp [intOf]; omega
                              exact AllReady.nil
                            exact AllReady.nil
                          exact AllReady.nil
                        exact AllReady.nil
                      refine AllReady.cons rfl (fun K hK => ?_) ?_
                      · skip
                        (with_reducible refine held ?_); refine HS_load_mid (by kernel_rfl) 60 _ rfl b1 (o1 + q * 11) (by kernel_rfl) y.cells _ (HYV _ inferInstance) Tryz.underlying60 rfl rlnSize ?_
                        refine hK _ _ ?_; clear hK K; (try simp only [Act.put, List.setIfInBounds_toArray, List.set_cons_succ, List.set_cons_zero])
                        refine any_take (i := 10) (v := .agg (Ch.mk 1 Ln.zero y).cells.toArray) rfl (by kernel_rfl) (by kernel_rfl) (by kernel_rfl) (Or.inl ⟨by kernel_rfl, yields_build 89 _ rfl #[(0, .int .u8 1), (1, .agg Ln.zero.cells.toArray), (2, .agg y.cells.toArray)] (by kernel_rfl) _ (fun w => build_rch 1 Ln.zero y w)⟩) ?_; (try simp only [Act.put, List.setIfInBounds_toArray, List.set_cons_succ, List.set_cons_zero])
                        refine wpAny_ready (rs := [4, 11]) (by kernel_rfl) (by simp) ?_
                        refine AllReady.cons rfl (fun K hK => ?_) ?_
                        · skip
                          (with_reducible refine held ?_); refine HS_append_own (by kernel_rfl) _ _ 86 rfl V.heap.size 89 i0 (Ch.mk 0 Ln.zero Ln.zero).val 23 88 Tryz.underlying86 Hi.out Hy0.out Hy1.out Hy2.out rfl (by decide) _ 0 [] rfl (fresh_own V _ (by simp) (by simp)) ⟨g, 0, none⟩ j _ ((M.take j).flatMap Ch.cells) rfl hl1 (fun t u h => (upI : Up V _).cell_some (hc1' t u h)) (chflat_one _) HLn.p1 HLn.p2 (upI : Up V _).size ?_
                          intro v1 w1 hown1 hgrow
                          have hu1 : Up V w1 := Up.grown (upI : Up V _) hgrow (fun k' h => by have h' := Option.some.inj h; subst h'; first | exact Nat.le_refl _ | simp | omega)
                          obtain ⟨x1, rfl⟩ := hu1.mk
                          have Hown1 := Lib.hid hown1
                          clear hown1 hgrow hu1
                          refine hK _ _ ?_; clear hK K; (try simp only [Act.put, List.setIfInBounds_toArray, List.set_cons_succ, List.set_cons_zero])
                          refine wpAny_ready (rs := [11]) (by kernel_rfl) (by simp) ?_
                          refine AllReady.cons rfl (fun K hK => ?_) ?_
                          · skip
                            (with_reducible refine held ?_); refine HS_slice (by kernel_rfl) 86 1 _ rfl #[(0, .agg (Ch.mk 1 Ln.zero y).cells.toArray)] (by kernel_rfl) _ _ (slice_rch (Ch.mk 1 Ln.zero y) _) ?_
                            refine hK _ _ ?_; clear hK K; (try simp only [Act.put, List.setIfInBounds_toArray, List.set_cons_succ, List.set_cons_zero])
                            refine wpAny_ready (rs := [12]) (by kernel_rfl) (by simp) ?_
                            refine AllReady.cons rfl (fun K hK => ?_) ?_
                            · skip
                              (with_reducible refine held ?_); refine HS_append_own (by kernel_rfl) _ _ 86 rfl V.heap.size 89 i0 (Ch.mk 0 Ln.zero Ln.zero).val 23 88 Tryz.underlying86 Hi.out Hy0.out Hy1.out Hy2.out rfl (by decide) v1 _ _ rfl (owns_up Hown1.out (upI : Up x1.w _)) ⟨_, 0, none⟩ 1 1 (Ch.mk 1 Ln.zero y).cells rfl rfl (fun j u hj => ch_at _ _ _ j u hj) (fun u h => chg_one _ u h) HLn.p3 HLn.p4 (upI : Up V _).size ?_
                              intro v2 w2 hown2 hgrow
                              have hu2 : Up V w2 := Up.grown (upI : Up V _) hgrow (fun k' h => owns_row Hown1.out k' h)
                              obtain ⟨x2, rfl⟩ := hu2.mk
                              have Hown2 := Lib.hid hown2
                              clear hown2 hgrow hu2
                              refine hK _ _ ?_; clear hK K; (try simp only [Act.put, List.setIfInBounds_toArray, List.set_cons_succ, List.set_cons_zero])
                              refine wpAny_ready (rs := [16]) (by kernel_rfl) (by simp) ?_
                              refine AllReady.cons rfl (fun K hK => ?_) ?_
                              · skip
                                (with_reducible refine held ?_); refine HS_append_own (by kernel_rfl) _ _ 86 rfl V.heap.size 89 i0 (Ch.mk 0 Ln.zero Ln.zero).val 23 88 Tryz.underlying86 Hi.out Hy0.out Hy1.out Hy2.out rfl (by decide) v2 _ _ rfl Hown2.out ⟨g, o16, none⟩ (m - j) _ ((M.drop j).flatMap Ch.cells) rfl hl2 (fun t u h => (upI : Up V _).cell_some (hc2' t u h)) (chflat_one _) HLn.p5 HLn.p6 (upI : Up V _).size ?_
                                intro v3 w3 hown3 hgrow
                                have hu3 : Up V w3 := Up.grown (upI : Up V _) hgrow (fun k' h => owns_row Hown2.out k' h)
                                obtain ⟨x3, rfl⟩ := hu3.mk
                                have Hown3 := Lib.hid hown3
                                clear hown3 hgrow hu3
                                refine hK _ _ ?_; clear hK K; (try simp only [Act.put, List.setIfInBounds_toArray, List.set_cons_succ, List.set_cons_zero])
                                refine any_take (i := 17) (v := ?v111) rfl (by kernel_rfl) (by kernel_rfl) (by kernel_rfl) (Or.inl ⟨by kernel_rfl, ?hy111⟩) ?rest111
                                case hy111 => (intro w; go_simp; (try with_reducible rfl))
                                (try simp only [Act.put, List.setIfInBounds_toArray, List.set_cons_succ, List.set_cons_zero])
                                refine wpAny_done (by kernel_rfl) ?_ _
                                refine ⟨rfl, ?_⟩
                                go_wp2_with fail
                                go_roundw
                                case rel => exact ⟨q + 1, M.take j ++ ⟨1, Ln.zero, y⟩ :: M.drop j, by omega, by go_num, Lib.hid (by rw [HE.out, HI.out]), hlen3, HMb2, Lib.hid (hfin Hown3.out), upI⟩
                                case measure => simp [intOf]; omega
                              exact AllReady.nil
                            exact AllReady.nil
                          exact AllReady.nil
                        refine AllReady.cons rfl (fun K hK => ?_) ?_
                        · skip
                          (with_reducible refine held ?_); refine HS_slice (by kernel_rfl) 86 1 _ rfl #[(0, .agg (Ch.mk 1 Ln.zero y).cells.toArray)] (by kernel_rfl) _ _ (slice_rch (Ch.mk 1 Ln.zero y) _) ?_
                          refine hK _ _ ?_; clear hK K; (try simp only [Act.put, List.setIfInBounds_toArray, List.set_cons_succ, List.set_cons_zero])
                          refine wpAny_ready (rs := [4]) (by kernel_rfl) (by simp) ?_
                          refine AllReady.cons rfl (fun K hK => ?_) ?_
                          · skip
                            (with_reducible refine held ?_); refine HS_append_own (by kernel_rfl) _ _ 86 rfl V.heap.size 89 i0 (Ch.mk 0 Ln.zero Ln.zero).val 23 88 Tryz.underlying86 Hi.out Hy0.out Hy1.out Hy2.out rfl (by decide) _ 0 [] rfl (owns_up (fresh_own V _ (by simp) (by simp)) (((Up.refl _).alloc _).drew)) ⟨g, 0, none⟩ j _ ((M.take j).flatMap Ch.cells) rfl hl1 (fun t u h => (upI : Up V _).cell_some (hc1' t u h)) (chflat_one _) HLn.p1 HLn.p2 (upI : Up V _).size ?_
                            intro v1 w1 hown1 hgrow
                            have hkY : w1.heap[(V.alloc (.cells #[] 89)).drew.heap.size]? = some (.cells (Ch.mk 1 Ln.zero y).cells.toArray 89 (0, 0)) := (hgrow.block ((V.alloc (.cells #[] 89)).drew.heap.size) (by simp; try omega) (fun h => by have h' := Option.some.inj h; (try simp at h'); (try omega))).trans (alloc_new rfl)
                            have hu1 : Up V w1 := Up.grown (upI : Up V _) hgrow (fun k' h => by have h' := Option.some.inj h; subst h'; first | exact Nat.le_refl _ | simp | omega)
                            obtain ⟨x1, rfl⟩ := hu1.mk
                            have Hown1 := Lib.hid hown1
                            clear hown1 hgrow hu1
                            refine hK _ _ ?_; clear hK K; (try simp only [Act.put, List.setIfInBounds_toArray, List.set_cons_succ, List.set_cons_zero])
                            refine wpAny_ready (rs := [12]) (by kernel_rfl) (by simp) ?_
                            refine AllReady.cons rfl (fun K hK => ?_) ?_
                            · skip
                              (with_reducible refine held ?_); refine HS_append_own (by kernel_rfl) _ _ 86 rfl V.heap.size 89 i0 (Ch.mk 0 Ln.zero Ln.zero).val 23 88 Tryz.underlying86 Hi.out Hy0.out Hy1.out Hy2.out rfl (by decide) v1 _ _ rfl Hown1.out ⟨_, 0, none⟩ 1 1 (Ch.mk 1 Ln.zero y).cells rfl rfl (row_chn hkY) (fun u h => chg_one _ u h) HLn.p3 HLn.p4 (upI : Up V _).size ?_
                              intro v2 w2 hown2 hgrow
                              have hu2 : Up V w2 := Up.grown (upI : Up V _) hgrow (fun k' h => owns_row Hown1.out k' h)
                              obtain ⟨x2, rfl⟩ := hu2.mk
                              have Hown2 := Lib.hid hown2
                              clear hown2 hgrow hu2
                              refine hK _ _ ?_; clear hK K; (try simp only [Act.put, List.setIfInBounds_toArray, List.set_cons_succ, List.set_cons_zero])
                              refine wpAny_ready (rs := [16]) (by kernel_rfl) (by simp) ?_
                              refine AllReady.cons rfl (fun K hK => ?_) ?_
                              · skip
                                (with_reducible refine held ?_); refine HS_append_own (by kernel_rfl) _ _ 86 rfl V.heap.size 89 i0 (Ch.mk 0 Ln.zero Ln.zero).val 23 88 Tryz.underlying86 Hi.out Hy0.out Hy1.out Hy2.out rfl (by decide) v2 _ _ rfl Hown2.out ⟨g, o16, none⟩ (m - j) _ ((M.drop j).flatMap Ch.cells) rfl hl2 (fun t u h => (upI : Up V _).cell_some (hc2' t u h)) (chflat_one _) HLn.p5 HLn.p6 (upI : Up V _).size ?_
                                intro v3 w3 hown3 hgrow
                                have hu3 : Up V w3 := Up.grown (upI : Up V _) hgrow (fun k' h => owns_row Hown2.out k' h)
                                obtain ⟨x3, rfl⟩ := hu3.mk
                                have Hown3 := Lib.hid hown3
                                clear hown3 hgrow hu3
                                refine hK _ _ ?_; clear hK K; (try simp only [Act.put, List.setIfInBounds_toArray, List.set_cons_succ, List.set_cons_zero])
                                refine any_take (i := 17) (v := ?v112) rfl (by kernel_rfl) (by kernel_rfl) (by kernel_rfl) (Or.inl ⟨by kernel_rfl, ?hy112⟩) ?rest112
                                case hy112 => (intro w; go_simp; (try with_reducible rfl))
                                (try simp only [Act.put, List.setIfInBounds_toArray, List.set_cons_succ, List.set_cons_zero])
                                refine wpAny_done (by kernel_rfl) ?_ _
                                refine ⟨rfl, ?_⟩
                                go_wp2_with fail
                                go_roundw
                                case rel => exact ⟨q + 1, M.take j ++ ⟨1, Ln.zero, y⟩ :: M.drop j, by omega, by go_num, Lib.hid (by rw [HE.out, HI.out]), hlen3, HMb2, Lib.hid (hfin Hown3.out), upI⟩
                                case measure => simp [intOf]; omega
                              exact AllReady.nil
                            exact AllReady.nil
                          exact AllReady.nil
                        exact AllReady.nil
                      exact AllReady.nil
                    refine AllReady.cons rfl (fun K hK => ?_) ?_
                    · skip
                      (with_reducible refine held ?_); refine HS_load_mid (by kernel_rfl) 60 _ rfl b1 (o1 + q * 11) (by kernel_rfl) y.cells _ (HYV _ inferInstance) Tryz.underlying60 rfl rlnSize ?_
                      refine hK _ _ ?_; clear hK K; (try simp only [Act.put, List.setIfInBounds_toArray, List.set_cons_succ, List.set_cons_zero])
                      refine any_take (i := 10) (v := .agg (Ch.mk 1 Ln.zero y).cells.toArray) rfl (by kernel_rfl) (by kernel_rfl) (by kernel_rfl) (Or.inl ⟨by kernel_rfl, yields_build 89 _ rfl #[(0, .int .u8 1), (1, .agg Ln.zero.cells.toArray), (2, .agg y.cells.toArray)] (by kernel_rfl) _ (fun w => build_rch 1 Ln.zero y w)⟩) ?_; (try simp only [Act.put, List.setIfInBounds_toArray, List.set_cons_succ, List.set_cons_zero])
                      refine wpAny_ready (rs := [0, 11]) (by kernel_rfl) (by simp) ?_
                      refine AllReady.cons rfl (fun K hK => ?_) ?_
                      · go_simp
                        refine hK _ _ ?_; clear hK K; (try simp only [Act.put, List.setIfInBounds_toArray, List.set_cons_succ, List.set_cons_zero])
                        refine wpAny_ready (rs := [4, 11]) (by kernel_rfl) (by simp) ?_
                        refine AllReady.cons rfl (fun K hK => ?_) ?_
                        · skip
                          (with_reducible refine held ?_); refine HS_append_own (by kernel_rfl) _ _ 86 rfl V.heap.size 89 i0 (Ch.mk 0 Ln.zero Ln.zero).val 23 88 Tryz.underlying86 Hi.out Hy0.out Hy1.out Hy2.out rfl (by decide) _ 0 [] rfl (fresh_own V _ (by simp) (by simp)) ⟨g, 0, none⟩ j _ ((M.take j).flatMap Ch.cells) rfl hl1 (fun t u h => (upI : Up V _).cell_some (hc1' t u h)) (chflat_one _) HLn.p1 HLn.p2 (upI : Up V _).size ?_
                          intro v1 w1 hown1 hgrow
                          have hu1 : Up V w1 := Up.grown (upI : Up V _) hgrow (fun k' h => by have h' := Option.some.inj h; subst h'; first | exact Nat.le_refl _ | simp | omega)
                          obtain ⟨x1, rfl⟩ := hu1.mk
                          have Hown1 := Lib.hid hown1
                          clear hown1 hgrow hu1
                          refine hK _ _ ?_; clear hK K; (try simp only [Act.put, List.setIfInBounds_toArray, List.set_cons_succ, List.set_cons_zero])
                          refine wpAny_ready (rs := [11]) (by kernel_rfl) (by simp) ?_
                          refine AllReady.cons rfl (fun K hK => ?_) ?_
                          · skip
                            (with_reducible refine held ?_); refine HS_slice (by kernel_rfl) 86 1 _ rfl #[(0, .agg (Ch.mk 1 Ln.zero y).cells.toArray)] (by kernel_rfl) _ _ (slice_rch (Ch.mk 1 Ln.zero y) _) ?_
                            refine hK _ _ ?_; clear hK K; (try simp only [Act.put, List.setIfInBounds_toArray, List.set_cons_succ, List.set_cons_zero])
                            refine wpAny_ready (rs := [12]) (by kernel_rfl) (by simp) ?_
                            refine AllReady.cons rfl (fun K hK => ?_) ?_
                            · skip
                              (with_reducible refine held ?_); refine HS_append_own (by kernel_rfl) _ _ 86 rfl V.heap.size 89 i0 (Ch.mk 0 Ln.zero Ln.zero).val 23 88 Tryz.underlying86 Hi.out Hy0.out Hy1.out Hy2.out rfl (by decide) v1 _ _ rfl (owns_up Hown1.out (upI : Up x1.w _)) ⟨_, 0, none⟩ 1 1 (Ch.mk 1 Ln.zero y).cells rfl rfl (fun j u hj => ch_at _ _ _ j u hj) (fun u h => chg_one _ u h) HLn.p3 HLn.p4 (upI : Up V _).size ?_
                              intro v2 w2 hown2 hgrow
                              have hu2 : Up V w2 := Up.grown (upI : Up V _) hgrow (fun k' h => owns_row Hown1.out k' h)
                              obtain ⟨x2, rfl⟩ := hu2.mk
                              have Hown2 := Lib.hid hown2
                              clear hown2 hgrow hu2
                              refine hK _ _ ?_; clear hK K; (try simp only [Act.put, List.setIfInBounds_toArray, List.set_cons_succ, List.set_cons_zero])
                              refine wpAny_ready (rs := [16]) (by kernel_rfl) (by simp) ?_
                              refine AllReady.cons rfl (fun K hK => ?_) ?_
                              · skip
                                (with_reducible refine held ?_); refine HS_append_own (by kernel_rfl) _ _ 86 rfl V.heap.size 89 i0 (Ch.mk 0 Ln.zero Ln.zero).val 23 88 Tryz.underlying86 Hi.out Hy0.out Hy1.out Hy2.out rfl (by decide) v2 _ _ rfl Hown2.out ⟨g, o16, none⟩ (m - j) _ ((M.drop j).flatMap Ch.cells) rfl hl2 (fun t u h => (upI : Up V _).cell_some (hc2' t u h)) (chflat_one _) HLn.p5 HLn.p6 (upI : Up V _).size ?_
                                intro v3 w3 hown3 hgrow
                                have hu3 : Up V w3 := Up.grown (upI : Up V _) hgrow (fun k' h => owns_row Hown2.out k' h)
                                obtain ⟨x3, rfl⟩ := hu3.mk
                                have Hown3 := Lib.hid hown3
                                clear hown3 hgrow hu3
                                refine hK _ _ ?_; clear hK K; (try simp only [Act.put, List.setIfInBounds_toArray, List.set_cons_succ, List.set_cons_zero])
                                refine any_take (i := 17) (v := ?v113) rfl (by kernel_rfl) (by kernel_rfl) (by kernel_rfl) (Or.inl ⟨by kernel_rfl, ?hy113⟩) ?rest113
                                case hy113 => (intro w; go_simp; (try with_reducible rfl))
                                (try simp only [Act.put, List.setIfInBounds_toArray, List.set_cons_succ, List.set_cons_zero])
                                refine wpAny_done (by kernel_rfl) ?_ _
                                refine ⟨rfl, ?_⟩
                                go_wp2_with fail
                                go_roundw
                                case rel => exact ⟨q + 1, M.take j ++ ⟨1, Ln.zero, y⟩ :: M.drop j, by omega, by go_num, Lib.hid (by rw [HE.out, HI.out]), hlen3, HMb2, Lib.hid (hfin Hown3.out), upI⟩
                                case measure => simp [intOf]; omega
                              exact AllReady.nil
                            exact AllReady.nil
                          exact AllReady.nil
                        refine AllReady.cons rfl (fun K hK => ?_) ?_
                        · skip
                          (with_reducible refine held ?_); refine HS_slice (by kernel_rfl) 86 1 _ rfl #[(0, .agg (Ch.mk 1 Ln.zero y).cells.toArray)] (by kernel_rfl) _ _ (slice_rch (Ch.mk 1 Ln.zero y) _) ?_
                          refine hK _ _ ?_; clear hK K; (try simp only [Act.put, List.setIfInBounds_toArray, List.set_cons_succ, List.set_cons_zero])
                          refine wpAny_ready (rs := [4]) (by kernel_rfl) (by simp) ?_
                          refine AllReady.cons rfl (fun K hK => ?_) ?_
                          · skip
                            (with_reducible refine held ?_); refine HS_append_own (by kernel_rfl) _ _ 86 rfl V.heap.size 89 i0 (Ch.mk 0 Ln.zero Ln.zero).val 23 88 Tryz.underlying86 Hi.out Hy0.out Hy1.out Hy2.out rfl (by decide) _ 0 [] rfl (owns_up (fresh_own V _ (by simp) (by simp)) (((Up.refl _).alloc _).drew)) ⟨g, 0, none⟩ j _ ((M.take j).flatMap Ch.cells) rfl hl1 (fun t u h => (upI : Up V _).cell_some (hc1' t u h)) (chflat_one _) HLn.p1 HLn.p2 (upI : Up V _).size ?_
                            intro v1 w1 hown1 hgrow
                            have hkY : w1.heap[(V.alloc (.cells #[] 89)).drew.heap.size]? = some (.cells (Ch.mk 1 Ln.zero y).cells.toArray 89 (0, 0)) := (hgrow.block ((V.alloc (.cells #[] 89)).drew.heap.size) (by simp; try omega) (fun h => by have h' := Option.some.inj h; (try simp at h'); (try omega))).trans (alloc_new rfl)
                            have hu1 : Up V w1 := Up.grown (upI : Up V _) hgrow (fun k' h => by have h' := Option.some.inj h; subst h'; first | exact Nat.le_refl _ | simp | omega)
                            obtain ⟨x1, rfl⟩ := hu1.mk
                            have Hown1 := Lib.hid hown1
                            clear hown1 hgrow hu1
                            refine hK _ _ ?_; clear hK K; (try simp only [Act.put, List.setIfInBounds_toArray, List.set_cons_succ, List.set_cons_zero])
                            refine wpAny_ready (rs := [12]) (by kernel_rfl) (by simp) ?_
                            refine AllReady.cons rfl (fun K hK => ?_) ?_
                            · skip
                              (with_reducible refine held ?_); refine HS_append_own (by kernel_rfl) _ _ 86 rfl V.heap.size 89 i0 (Ch.mk 0 Ln.zero Ln.zero).val 23 88 Tryz.underlying86 Hi.out Hy0.out Hy1.out Hy2.out rfl (by decide) v1 _ _ rfl Hown1.out ⟨_, 0, none⟩ 1 1 (Ch.mk 1 Ln.zero y).cells rfl rfl (row_chn hkY) (fun u h => chg_one _ u h) HLn.p3 HLn.p4 (upI : Up V _).size ?_
                              intro v2 w2 hown2 hgrow
                              have hu2 : Up V w2 := Up.grown (upI : Up V _) hgrow (fun k' h => owns_row Hown1.out k' h)
                              obtain ⟨x2, rfl⟩ := hu2.mk
                              have Hown2 := Lib.hid hown2
                              clear hown2 hgrow hu2
                              refine hK _ _ ?_; clear hK K; (try simp only [Act.put, List.setIfInBounds_toArray, List.set_cons_succ, List.set_cons_zero])
                              refine wpAny_ready (rs := [16]) (by kernel_rfl) (by simp) ?_
                              refine AllReady.cons rfl (fun K hK => ?_) ?_
                              · skip
                                (with_reducible refine held ?_); refine HS_append_own (by kernel_rfl) _ _ 86 rfl V.heap.size 89 i0 (Ch.mk 0 Ln.zero Ln.zero).val 23 88 Tryz.underlying86 Hi.out Hy0.out Hy1.out Hy2.out rfl (by decide) v2 _ _ rfl Hown2.out ⟨g, o16, none⟩ (m - j) _ ((M.drop j).flatMap Ch.cells) rfl hl2 (fun t u h => (upI : Up V _).cell_some (hc2' t u h)) (chflat_one _) HLn.p5 HLn.p6 (upI : Up V _).size ?_
                                intro v3 w3 hown3 hgrow
                                have hu3 : Up V w3 := Up.grown (upI : Up V _) hgrow (fun k' h => owns_row Hown2.out k' h)
                                obtain ⟨x3, rfl⟩ := hu3.mk
                                have Hown3 := Lib.hid hown3
                                clear hown3 hgrow hu3
                                refine hK _ _ ?_; clear hK K; (try simp only [Act.put, List.setIfInBounds_toArray, List.set_cons_succ, List.set_cons_zero])
                                refine any_take (i := 17) (v := ?v114) rfl (by kernel_rfl) (by kernel_rfl) (by kernel_rfl) (Or.inl ⟨by kernel_rfl, ?hy114⟩) ?rest114
                                case hy114 => (intro w; go_simp; (try with_reducible rfl))
                                (try simp only [Act.put, List.setIfInBounds_toArray, List.set_cons_succ, List.set_cons_zero])
                                refine wpAny_done (by kernel_rfl) ?_ _
                                refine ⟨rfl, ?_⟩
                                go_wp2_with fail
                                go_roundw
                                case rel => exact ⟨q + 1, M.take j ++ ⟨1, Ln.zero, y⟩ :: M.drop j, by omega, by go_num, Lib.hid (by rw [HE.out, HI.out]), hlen3, HMb2, Lib.hid (hfin Hown3.out), upI⟩
                                case measure => simp [intOf]; omega
                              exact AllReady.nil
                            exact AllReady.nil
                          exact AllReady.nil
                        exact AllReady.nil
                      refine AllReady.cons rfl (fun K hK => ?_) ?_
                      · skip
                        (with_reducible refine held ?_); refine HS_slice (by kernel_rfl) 86 1 _ rfl #[(0, .agg (Ch.mk 1 Ln.zero y).cells.toArray)] (by kernel_rfl) _ _ (slice_rch (Ch.mk 1 Ln.zero y) _) ?_
                        refine hK _ _ ?_; clear hK K; (try simp only [Act.put, List.setIfInBounds_toArray, List.set_cons_succ, List.set_cons_zero])
                        refine wpAny_ready (rs := [0]) (by kernel_rfl) (by simp) ?_
                        refine AllReady.cons rfl (fun K hK => ?_) ?_
                        · go_simp
                          refine hK _ _ ?_; clear hK K; (try simp only [Act.put, List.setIfInBounds_toArray, List.set_cons_succ, List.set_cons_zero])
                          refine wpAny_ready (rs := [4]) (by kernel_rfl) (by simp) ?_
                          refine AllReady.cons rfl (fun K hK => ?_) ?_
                          · skip
                            (with_reducible refine held ?_); refine HS_append_own (by kernel_rfl) _ _ 86 rfl V.heap.size 89 i0 (Ch.mk 0 Ln.zero Ln.zero).val 23 88 Tryz.underlying86 Hi.out Hy0.out Hy1.out Hy2.out rfl (by decide) _ 0 [] rfl (fresh_own (V.alloc (.cells (Ch.mk 1 Ln.zero y).cells.toArray 89)) _ (by simp) (by simp)) ⟨g, 0, none⟩ j _ ((M.take j).flatMap Ch.cells) rfl hl1 (fun t u h => (upI : Up V _).cell_some (hc1' t u h)) (chflat_one _) HLn.p1 HLn.p2 (upI : Up V _).size ?_
                            intro v1 w1 hown1 hgrow
                            have hkY : w1.heap[V.heap.size]? = some (.cells (Ch.mk 1 Ln.zero y).cells.toArray 89 (0, 0)) := (hgrow.block (V.heap.size) (by simp; try omega) (fun h => by have h' := Option.some.inj h; (try simp at h'); (try omega))).trans ((Below.heap_alloc _ _ _ (by simp)).trans (alloc_new (by simp)))
                            have hu1 : Up V w1 := Up.grown (upI : Up V _) hgrow (fun k' h => by have h' := Option.some.inj h; subst h'; first | exact Nat.le_refl _ | simp | omega)
                            obtain ⟨x1, rfl⟩ := hu1.mk
                            have Hown1 := Lib.hid hown1
                            clear hown1 hgrow hu1
                            refine hK _ _ ?_; clear hK K; (try simp only [Act.put, List.setIfInBounds_toArray, List.set_cons_succ, List.set_cons_zero])
                            refine wpAny_ready (rs := [12]) (by kernel_rfl) (by simp) ?_
                            refine AllReady.cons rfl (fun K hK => ?_) ?_
                            · skip
                              (with_reducible refine held ?_); refine HS_append_own (by kernel_rfl) _ _ 86 rfl V.heap.size 89 i0 (Ch.mk 0 Ln.zero Ln.zero).val 23 88 Tryz.underlying86 Hi.out Hy0.out Hy1.out Hy2.out rfl (by decide) v1 _ _ rfl Hown1.out ⟨_, 0, none⟩ 1 1 (Ch.mk 1 Ln.zero y).cells rfl rfl (row_chn hkY) (fun u h => chg_one _ u h) HLn.p3 HLn.p4 (upI : Up V _).size ?_
                              intro v2 w2 hown2 hgrow
                              have hu2 : Up V w2 := Up.grown (upI : Up V _) hgrow (fun k' h => owns_row Hown1.out k' h)
                              obtain ⟨x2, rfl⟩ := hu2.mk
                              have Hown2 := Lib.hid hown2
                              clear hown2 hgrow hu2
                              refine hK _ _ ?_; clear hK K; (try simp only [Act.put, List.setIfInBounds_toArray, List.set_cons_succ, List.set_cons_zero])
                              refine wpAny_ready (rs := [16]) (by kernel_rfl) (by simp) ?_
                              refine AllReady.cons rfl (fun K hK => ?_) ?_
                              · skip
                                (with_reducible refine held ?_); refine HS_append_own (by kernel_rfl) _ _ 86 rfl V.heap.size 89 i0 (Ch.mk 0 Ln.zero Ln.zero).val 23 88 Tryz.underlying86 Hi.out Hy0.out Hy1.out Hy2.out rfl (by decide) v2 _ _ rfl Hown2.out ⟨g, o16, none⟩ (m - j) _ ((M.drop j).flatMap Ch.cells) rfl hl2 (fun t u h => (upI : Up V _).cell_some (hc2' t u h)) (chflat_one _) HLn.p5 HLn.p6 (upI : Up V _).size ?_
                                intro v3 w3 hown3 hgrow
                                have hu3 : Up V w3 := Up.grown (upI : Up V _) hgrow (fun k' h => owns_row Hown2.out k' h)
                                obtain ⟨x3, rfl⟩ := hu3.mk
                                have Hown3 := Lib.hid hown3
                                clear hown3 hgrow hu3
                                refine hK _ _ ?_; clear hK K; (try simp only [Act.put, List.setIfInBounds_toArray, List.set_cons_succ, List.set_cons_zero])
                                refine any_take (i := 17) (v := ?v115) rfl (by kernel_rfl) (by kernel_rfl) (by kernel_rfl) (Or.inl ⟨by kernel_rfl, ?hy115⟩) ?rest115
                                case hy115 => (intro w; go_simp; (try with_reducible rfl))
                                (try simp only [Act.put, List.setIfInBounds_toArray, List.set_cons_succ, List.set_cons_zero])
                                refine wpAny_done (by kernel_rfl) ?_ _
                                refine ⟨rfl, ?_⟩
                                go_wp2_with fail
                                go_roundw
                                case rel => exact ⟨q + 1, M.take j ++ ⟨1, Ln.zero, y⟩ :: M.drop j, by omega, by go_num, Lib.hid (by rw [HE.out, HI.out]), hlen3, HMb2, Lib.hid (hfin Hown3.out), upI⟩
                                case measure => simp [intOf]; omega
                              exact AllReady.nil
                            exact AllReady.nil
                          exact AllReady.nil
                        exact AllReady.nil
                      exact AllReady.nil
                    exact AllReady.nil
                · obtain rfl : j = m := by omega
                  have hjn : ¬ (j : Int) < (j : Int) := by omega
                  go_upto_region 16 with fail
                  refine wp_region_ext (by kernel_rfl) (by kernel_rfl) ?_
                  repeat (go_big_quiet_step (fail))
                  refine wpQuiet_nil ?_
                  rintro _ ⟨z9, rfl⟩
                  go_upto_region 18 with fail
                  have hj2 : insN y M = j := by have := insN_le y M; rw [Hm.out] at this; omega
                  have HI := Lib.hid (show insC M y = M.take j ++ ⟨1, Ln.zero, y⟩ :: M.drop j by unfold insC; rw [hj2])
                  refine wp_letter (fun V => UpI WR V ∧ V.rangeAt b1 (o1 + q * 11) y.cells ∧ LtSize b1 V ∧ LtSize g V ∧ V.ownsRow w.heap.size 89 23 (.slice (some ⟨g, 0, none⟩) j cap3) j (M.flatMap Ch.cells)) ⟨inferInstance, fun j u hj => (upI : Up Z _).cell_some' (hYZ j u hj), inferInstance, inferInstance, owns_up HO2.out upI⟩ ?_
                  clear HO2 HO hrowM hYZ hYkZ
                  rintro V ⟨uV, hYV, hb1V, hgV, hOV⟩
                  haveI := uV
                  haveI : UpI w V := ⟨hu.trans uV.up⟩
                  haveI := hgV
                  haveI := hb1V
                  have HYV : ∀ W, UpI V W → W.rangeAt b1 (o1 + q * 11) y.cells := fun W h j u hj => h.up.cell_some' (hYV j u hj)
                  have hcV : ∀ (t : Nat) u, (M.flatMap Ch.cells)[t]? = some u → V.cell? ⟨g, t, none⟩ = some u := fun t u h => own_cellK hOV t u h
                  have hl1 : ((M.take j).flatMap Ch.cells).length = j * 23 := by rw [flat_length (cells := Ch.cells) (fun z => z.cells_length), List.length_take, Hm.out]; congr 1; omega
                  have hl2 : ((M.drop j).flatMap Ch.cells).length = 0 * 23 := by rw [flat_length (cells := Ch.cells) (fun z => z.cells_length), List.length_drop, Hm.out]; (try simp)
                  have hc1' : ∀ (t : Nat) u, ((M.take j).flatMap Ch.cells)[t]? = some u → V.cell? (Addr.add ⟨g, 0, none⟩ t) = some u := fun t u h => by
                    rw [add_zero_off]
                    have ht : t < j * 23 := by rw [← hl1]; exact (List.getElem?_eq_some_iff.1 h).1
                    refine hcV t u ?_
                    have h3 : M.flatMap Ch.cells = (M.take j).flatMap Ch.cells ++ (M.drop j).flatMap Ch.cells := by rw [← List.flatMap_append, List.take_append_drop]
                    rw [h3, List.getElem?_append_left (by rw [hl1]; exact ht)]
                    exact h
                  have hfin : ∀ {X : World} {v3 : Value}, X.ownsRow V.heap.size 89 23 v3 (0 + j + 1 + 0) ([] ++ (M.take j).flatMap Ch.cells ++ (Ch.mk 1 Ln.zero y).cells ++ (M.drop j).flatMap Ch.cells) → X.ownsRow w.heap.size 89 23 v3 (M.take j ++ (⟨1, Ln.zero, y⟩ : Ch) :: M.drop j).length ((M.take j ++ (⟨1, Ln.zero, y⟩ : Ch) :: M.drop j).flatMap Ch.cells) := fun h => by
                    have e1 : (M.take j ++ (⟨1, Ln.zero, y⟩ : Ch) :: M.drop j).length = 0 + j + 1 + 0 := by rw [List.length_append, List.length_cons, List.length_take, List.length_drop, Hm.out]; omega
                    rw [e1, List.flatMap_append, List.flatMap_cons, ← List.append_assoc]
                    exact owns_base h (upI : Up w V).size
                  clear hOV
                  have HMb2 : Hid (∀ c ∈ M.take j ++ ⟨1, Ln.zero, y⟩ :: M.drop j, LnB (chLn c)) := Lib.hid (fun c hc => by
                    rw [← HI.out] at hc
                    rcases (insC_mem M y c).1 hc with rfl | h
                    · exact yb
                    · exact HMb.out c h)
                  have hlen3 : (M.take j ++ (⟨1, Ln.zero, y⟩ : Ch) :: M.drop j).length ≤ 1000 + (q + 1) := by rw [← HI.out, insC_len, Hm.out]; exact Nat.succ_le_succ hMl
                  have HLn := ins_len j j q NB (by omega) hMl hlt2 lb
                  have hjc : j ≤ cap3 := by omega
                  have hjm2 : j ≤ j := by omega
                  have hmix : Tryz.prog.follows .mixedOrders = true := by kernel_rfl
                  obtain ⟨o16, ho16⟩ : ∃ o, (if cap3 = j then 0 else j * 23) = o := ⟨_, rfl⟩
                  have hif : (if cap3 = j then some (Addr.mk g 0 none) else some (Addr.mk g (j * 23) none)) = some (Addr.mk g o16 none) := by rw [← ho16]; split <;> rfl
                  have hc2' : ∀ (t : Nat) u, ((M.drop j).flatMap Ch.cells)[t]? = some u → V.cell? (Addr.add ⟨g, o16, none⟩ t) = some u := fun t u h => by
                    by_cases hca : cap3 = j
                    · have hdr : (M.drop j).flatMap Ch.cells = [] := by rw [List.drop_of_length_le (by rw [Hm.out]; omega)]; rfl
                      rw [hdr] at h; cases h
                    · rw [if_neg hca] at ho16
                      rw [← ho16, add_off]
                      refine hcV (j * 23 + t) u ?_
                      have h3 : M.flatMap Ch.cells = (M.take j).flatMap Ch.cells ++ (M.drop j).flatMap Ch.cells := by rw [← List.flatMap_append, List.take_append_drop]
                      rw [h3, List.getElem?_append_right (by rw [hl1]; omega), hl1, show j * 23 + t - j * 23 = t by omega]
                      exact h
                  have Ho16 := Lib.hid ho16
                  clear ho16
                  refine wp_region_turn hmix ?_
                  refine any_take (i := 5) (v := .agg Ln.zero.cells.toArray) rfl (by kernel_rfl) (by kernel_rfl) (by kernel_rfl) (Or.inl ⟨by kernel_rfl, yields_build 60 _ rfl #[] (by kernel_rfl) _ (fun w => build_rzero w)⟩) ?_; (try simp only [Act.put, List.setIfInBounds_toArray, List.set_cons_succ, List.set_cons_zero])
                  refine any_take (i := 1) (v := ?v116) rfl (by kernel_rfl) (by kernel_rfl) (by kernel_rfl) (Or.inl ⟨by kernel_rfl, ?hy116⟩) ?rest116
                  case hy116 => (intro w; go_simp; (try with_reducible rfl))
                  (try simp only [Act.put, List.setIfInBounds_toArray, List.set_cons_succ, List.set_cons_zero])
                  refine any_take (i := 2) (v := ?v117) rfl (by kernel_rfl) (by kernel_rfl) (by kernel_rfl) (Or.inl ⟨by kernel_rfl, ?hy117⟩) ?rest117
                  case hy117 => (intro w; go_simp; (try with_reducible rfl))
                  (try simp only [Act.put, List.setIfInBounds_toArray, List.set_cons_succ, List.set_cons_zero])
                  refine any_take (i := 3) (v := ?v118) rfl (by kernel_rfl) (by kernel_rfl) (by kernel_rfl) (Or.inl ⟨by kernel_rfl, ?hy118⟩) ?rest118
                  case hy118 => (intro w; go_simp; (try with_reducible rfl))
                  (try simp only [Act.put, List.setIfInBounds_toArray, List.set_cons_succ, List.set_cons_zero])
                  refine any_take (i := 6) (v := ?v119) rfl (by kernel_rfl) (by kernel_rfl) (by kernel_rfl) (Or.inl ⟨by kernel_rfl, ?hy119⟩) ?rest119
                  case hy119 => (intro w; go_simp; (try with_reducible rfl))
                  (try simp only [Act.put, List.setIfInBounds_toArray, List.set_cons_succ, List.set_cons_zero])
                  refine any_take (i := 7) (v := ?v120) rfl (by kernel_rfl) (by kernel_rfl) (by kernel_rfl) (Or.inl ⟨by kernel_rfl, ?hy120⟩) ?rest120
                  case hy120 => (intro w; go_simp; (try with_reducible rfl))
                  (try simp only [Act.put, List.setIfInBounds_toArray, List.set_cons_succ, List.set_cons_zero])
                  refine any_take (i := 8) (v := ?v121) rfl (by kernel_rfl) (by kernel_rfl) (by kernel_rfl) (Or.inl ⟨by kernel_rfl, ?hy121⟩) ?rest121
                  case hy121 => (intro w; go_simp; (try with_reducible rfl))
                  (try simp only [Act.put, List.setIfInBounds_toArray, List.set_cons_succ, List.set_cons_zero])
                  refine any_take (i := 13) (v := ?v122) rfl (by kernel_rfl) (by kernel_rfl) (by kernel_rfl) (Or.inl ⟨by kernel_rfl, ?hy122⟩) ?rest122
                  case hy122 => (intro w; go_simp; (try with_reducible rfl))
                  (try simp only [Act.put, List.setIfInBounds_toArray, List.set_cons_succ, List.set_cons_zero])
                  refine any_take (i := 14) (v := ?v123) rfl (by kernel_rfl) (by kernel_rfl) (by kernel_rfl) (Or.inl ⟨by kernel_rfl, ?hy123⟩) ?rest123
                  case hy123 => (intro w; go_simp; (try with_reducible rfl))
                  (try simp only [Act.put, List.setIfInBounds_toArray, List.set_cons_succ, List.set_cons_zero])
                  refine any_take (i := 15) (v := ?v124) rfl (by kernel_rfl) (by kernel_rfl) (by kernel_rfl) (Or.inl ⟨by kernel_rfl, ?hy124⟩) ?rest124
                  case hy124 => (intro w; go_simp; (try with_reducible rfl))
                  (try simp only [Act.put, List.setIfInBounds_toArray, List.set_cons_succ, List.set_cons_zero])
                  refine wpAny_ready (rs := [0, 9]) (by kernel_rfl) (by simp) ?_
                  refine AllReady.cons rfl (fun K hK => ?_) ?_
                  · go_simp
                    refine hK _ _ ?_; clear hK K; (try simp only [Act.put, List.setIfInBounds_toArray, List.set_cons_succ, List.set_cons_zero])
                    refine wpAny_ready (rs := [4, 9]) (by kernel_rfl) (by simp) ?_
                    refine AllReady.cons rfl (fun K hK => ?_) ?_
                    · skip
                      (with_reducible refine held ?_); refine HS_append_own (by kernel_rfl) _ _ 86 rfl V.heap.size 89 i0 (Ch.mk 0 Ln.zero Ln.zero).val 23 88 Tryz.underlying86 Hi.out Hy0.out Hy1.out Hy2.out rfl (by decide) _ 0 [] rfl (fresh_own V _ (by simp) (by simp)) ⟨g, 0, none⟩ j _ ((M.take j).flatMap Ch.cells) rfl hl1 (fun t u h => (upI : Up V _).cell_some (hc1' t u h)) (chflat_one _) HLn.p1 HLn.p2 (upI : Up V _).size ?_
                      intro v1 w1 hown1 hgrow
                      have hu1 : Up V w1 := Up.grown (upI : Up V _) hgrow (fun k' h => by have h' := Option.some.inj h; subst h'; first | exact Nat.le_refl _ | simp | omega)
                      obtain ⟨x1, rfl⟩ := hu1.mk
                      have Hown1 := Lib.hid hown1
                      clear hown1 hgrow hu1
                      refine hK _ _ ?_; clear hK K; (try simp only [Act.put, List.setIfInBounds_toArray, List.set_cons_succ, List.set_cons_zero])
                      refine wpAny_ready (rs := [9]) (by kernel_rfl) (by simp) ?_
                      refine AllReady.cons rfl (fun K hK => ?_) ?_
                      · skip
                        (with_reducible refine held ?_); refine HS_load_mid (by kernel_rfl) 60 _ rfl b1 (o1 + q * 11) (by kernel_rfl) y.cells _ (HYV _ inferInstance) Tryz.underlying60 rfl rlnSize ?_
                        refine hK _ _ ?_; clear hK K; (try simp only [Act.put, List.setIfInBounds_toArray, List.set_cons_succ, List.set_cons_zero])
                        refine any_take (i := 10) (v := .agg (Ch.mk 1 Ln.zero y).cells.toArray) rfl (by kernel_rfl) (by kernel_rfl) (by kernel_rfl) (Or.inl ⟨by kernel_rfl, yields_build 89 _ rfl #[(0, .int .u8 1), (1, .agg Ln.zero.cells.toArray), (2, .agg y.cells.toArray)] (by kernel_rfl) _ (fun w => build_rch 1 Ln.zero y w)⟩) ?_; (try simp only [Act.put, List.setIfInBounds_toArray, List.set_cons_succ, List.set_cons_zero])
                        refine wpAny_ready (rs := [11]) (by kernel_rfl) (by simp) ?_
                        refine AllReady.cons rfl (fun K hK => ?_) ?_
                        · skip
                          (with_reducible refine held ?_); refine HS_slice (by kernel_rfl) 86 1 _ rfl #[(0, .agg (Ch.mk 1 Ln.zero y).cells.toArray)] (by kernel_rfl) _ _ (slice_rch (Ch.mk 1 Ln.zero y) _) ?_
                          refine hK _ _ ?_; clear hK K; (try simp only [Act.put, List.setIfInBounds_toArray, List.set_cons_succ, List.set_cons_zero])
                          refine wpAny_ready (rs := [12]) (by kernel_rfl) (by simp) ?_
                          refine AllReady.cons rfl (fun K hK => ?_) ?_
                          · skip
                            (with_reducible refine held ?_); refine HS_append_own (by kernel_rfl) _ _ 86 rfl V.heap.size 89 i0 (Ch.mk 0 Ln.zero Ln.zero).val 23 88 Tryz.underlying86 Hi.out Hy0.out Hy1.out Hy2.out rfl (by decide) v1 _ _ rfl (owns_up Hown1.out (upI : Up x1.w _)) ⟨_, 0, none⟩ 1 1 (Ch.mk 1 Ln.zero y).cells rfl rfl (fun j u hj => ch_at _ _ _ j u hj) (fun u h => chg_one _ u h) HLn.p3 HLn.p4 (upI : Up V _).size ?_
                            intro v2 w2 hown2 hgrow
                            have hu2 : Up V w2 := Up.grown (upI : Up V _) hgrow (fun k' h => owns_row Hown1.out k' h)
                            obtain ⟨x2, rfl⟩ := hu2.mk
                            have Hown2 := Lib.hid hown2
                            clear hown2 hgrow hu2
                            refine hK _ _ ?_; clear hK K; (try simp only [Act.put, List.setIfInBounds_toArray, List.set_cons_succ, List.set_cons_zero])
                            refine wpAny_ready (rs := [16]) (by kernel_rfl) (by simp) ?_
                            refine AllReady.cons rfl (fun K hK => ?_) ?_
                            · skip
                              (with_reducible refine held ?_); refine HS_append_own (by kernel_rfl) _ _ 86 rfl V.heap.size 89 i0 (Ch.mk 0 Ln.zero Ln.zero).val 23 88 Tryz.underlying86 Hi.out Hy0.out Hy1.out Hy2.out rfl (by decide) v2 _ _ rfl Hown2.out ⟨g, o16, none⟩ 0 _ ((M.drop j).flatMap Ch.cells) rfl hl2 (fun t u h => (upI : Up V _).cell_some (hc2' t u h)) (chflat_one _) (by have h := HLn.p5; rwa [Nat.sub_self] at h) (by have h := HLn.p6; rwa [Nat.sub_self] at h) (upI : Up V _).size ?_
                              intro v3 w3 hown3 hgrow
                              have hu3 : Up V w3 := Up.grown (upI : Up V _) hgrow (fun k' h => owns_row Hown2.out k' h)
                              obtain ⟨x3, rfl⟩ := hu3.mk
                              have Hown3 := Lib.hid hown3
                              clear hown3 hgrow hu3
                              refine hK _ _ ?_; clear hK K; (try simp only [Act.put, List.setIfInBounds_toArray, List.set_cons_succ, List.set_cons_zero])
                              refine any_take (i := 17) (v := ?v125) rfl (by kernel_rfl) (by kernel_rfl) (by kernel_rfl) (Or.inl ⟨by kernel_rfl, ?hy125⟩) ?rest125
                              case hy125 => (intro w; go_simp; (try with_reducible rfl))
                              (try simp only [Act.put, List.setIfInBounds_toArray, List.set_cons_succ, List.set_cons_zero])
                              refine wpAny_done (by kernel_rfl) ?_ _
                              refine ⟨rfl, ?_⟩
                              go_wp2_with fail
                              go_roundw
                              case rel => exact ⟨q + 1, M.take j ++ ⟨1, Ln.zero, y⟩ :: M.drop j, by omega, by go_num, Lib.hid (by rw [HE.out, HI.out]), hlen3, HMb2, Lib.hid (hfin Hown3.out), upI⟩
                              case measure => simp [intOf]; omega
                            exact AllReady.nil
                          exact AllReady.nil
                        exact AllReady.nil
                      exact AllReady.nil
                    refine AllReady.cons rfl (fun K hK => ?_) ?_
                    · skip
                      (with_reducible refine held ?_); refine HS_load_mid (by kernel_rfl) 60 _ rfl b1 (o1 + q * 11) (by kernel_rfl) y.cells _ (HYV _ inferInstance) Tryz.underlying60 rfl rlnSize ?_
                      refine hK _ _ ?_; clear hK K; (try simp only [Act.put, List.setIfInBounds_toArray, List.set_cons_succ, List.set_cons_zero])
                      refine any_take (i := 10) (v := .agg (Ch.mk 1 Ln.zero y).cells.toArray) rfl (by kernel_rfl) (by kernel_rfl) (by kernel_rfl) (Or.inl ⟨by kernel_rfl, yields_build 89 _ rfl #[(0, .int .u8 1), (1, .agg Ln.zero.cells.toArray), (2, .agg y.cells.toArray)] (by kernel_rfl) _ (fun w => build_rch 1 Ln.zero y w)⟩) ?_; (try simp only [Act.put, List.setIfInBounds_toArray, List.set_cons_succ, List.set_cons_zero])
                      refine wpAny_ready (rs := [4, 11]) (by kernel_rfl) (by simp) ?_
                      refine AllReady.cons rfl (fun K hK => ?_) ?_
                      · skip
                        (with_reducible refine held ?_); refine HS_append_own (by kernel_rfl) _ _ 86 rfl V.heap.size 89 i0 (Ch.mk 0 Ln.zero Ln.zero).val 23 88 Tryz.underlying86 Hi.out Hy0.out Hy1.out Hy2.out rfl (by decide) _ 0 [] rfl (fresh_own V _ (by simp) (by simp)) ⟨g, 0, none⟩ j _ ((M.take j).flatMap Ch.cells) rfl hl1 (fun t u h => (upI : Up V _).cell_some (hc1' t u h)) (chflat_one _) HLn.p1 HLn.p2 (upI : Up V _).size ?_
                        intro v1 w1 hown1 hgrow
                        have hu1 : Up V w1 := Up.grown (upI : Up V _) hgrow (fun k' h => by have h' := Option.some.inj h; subst h'; first | exact Nat.le_refl _ | simp | omega)
                        obtain ⟨x1, rfl⟩ := hu1.mk
                        have Hown1 := Lib.hid hown1
                        clear hown1 hgrow hu1
                        refine hK _ _ ?_; clear hK K; (try simp only [Act.put, List.setIfInBounds_toArray, List.set_cons_succ, List.set_cons_zero])
                        refine wpAny_ready (rs := [11]) (by kernel_rfl) (by simp) ?_
                        refine AllReady.cons rfl (fun K hK => ?_) ?_
                        · skip
                          (with_reducible refine held ?_); refine HS_slice (by kernel_rfl) 86 1 _ rfl #[(0, .agg (Ch.mk 1 Ln.zero y).cells.toArray)] (by kernel_rfl) _ _ (slice_rch (Ch.mk 1 Ln.zero y) _) ?_
                          refine hK _ _ ?_; clear hK K; (try simp only [Act.put, List.setIfInBounds_toArray, List.set_cons_succ, List.set_cons_zero])
                          refine wpAny_ready (rs := [12]) (by kernel_rfl) (by simp) ?_
                          refine AllReady.cons rfl (fun K hK => ?_) ?_
                          · skip
                            (with_reducible refine held ?_); refine HS_append_own (by kernel_rfl) _ _ 86 rfl V.heap.size 89 i0 (Ch.mk 0 Ln.zero Ln.zero).val 23 88 Tryz.underlying86 Hi.out Hy0.out Hy1.out Hy2.out rfl (by decide) v1 _ _ rfl (owns_up Hown1.out (upI : Up x1.w _)) ⟨_, 0, none⟩ 1 1 (Ch.mk 1 Ln.zero y).cells rfl rfl (fun j u hj => ch_at _ _ _ j u hj) (fun u h => chg_one _ u h) HLn.p3 HLn.p4 (upI : Up V _).size ?_
                            intro v2 w2 hown2 hgrow
                            have hu2 : Up V w2 := Up.grown (upI : Up V _) hgrow (fun k' h => owns_row Hown1.out k' h)
                            obtain ⟨x2, rfl⟩ := hu2.mk
                            have Hown2 := Lib.hid hown2
                            clear hown2 hgrow hu2
                            refine hK _ _ ?_; clear hK K; (try simp only [Act.put, List.setIfInBounds_toArray, List.set_cons_succ, List.set_cons_zero])
                            refine wpAny_ready (rs := [16]) (by kernel_rfl) (by simp) ?_
                            refine AllReady.cons rfl (fun K hK => ?_) ?_
                            · skip
                              (with_reducible refine held ?_); refine HS_append_own (by kernel_rfl) _ _ 86 rfl V.heap.size 89 i0 (Ch.mk 0 Ln.zero Ln.zero).val 23 88 Tryz.underlying86 Hi.out Hy0.out Hy1.out Hy2.out rfl (by decide) v2 _ _ rfl Hown2.out ⟨g, o16, none⟩ 0 _ ((M.drop j).flatMap Ch.cells) rfl hl2 (fun t u h => (upI : Up V _).cell_some (hc2' t u h)) (chflat_one _) (by have h := HLn.p5; rwa [Nat.sub_self] at h) (by have h := HLn.p6; rwa [Nat.sub_self] at h) (upI : Up V _).size ?_
                              intro v3 w3 hown3 hgrow
                              have hu3 : Up V w3 := Up.grown (upI : Up V _) hgrow (fun k' h => owns_row Hown2.out k' h)
                              obtain ⟨x3, rfl⟩ := hu3.mk
                              have Hown3 := Lib.hid hown3
                              clear hown3 hgrow hu3
                              refine hK _ _ ?_; clear hK K; (try simp only [Act.put, List.setIfInBounds_toArray, List.set_cons_succ, List.set_cons_zero])
                              refine any_take (i := 17) (v := ?v126) rfl (by kernel_rfl) (by kernel_rfl) (by kernel_rfl) (Or.inl ⟨by kernel_rfl, ?hy126⟩) ?rest126
                              case hy126 => (intro w; go_simp; (try with_reducible rfl))
                              (try simp only [Act.put, List.setIfInBounds_toArray, List.set_cons_succ, List.set_cons_zero])
                              refine wpAny_done (by kernel_rfl) ?_ _
                              refine ⟨rfl, ?_⟩
                              go_wp2_with fail
                              go_roundw
                              case rel => exact ⟨q + 1, M.take j ++ ⟨1, Ln.zero, y⟩ :: M.drop j, by omega, by go_num, Lib.hid (by rw [HE.out, HI.out]), hlen3, HMb2, Lib.hid (hfin Hown3.out), upI⟩
                              case measure => simp [intOf]; omega
                            exact AllReady.nil
                          exact AllReady.nil
                        exact AllReady.nil
                      refine AllReady.cons rfl (fun K hK => ?_) ?_
                      · skip
                        (with_reducible refine held ?_); refine HS_slice (by kernel_rfl) 86 1 _ rfl #[(0, .agg (Ch.mk 1 Ln.zero y).cells.toArray)] (by kernel_rfl) _ _ (slice_rch (Ch.mk 1 Ln.zero y) _) ?_
                        refine hK _ _ ?_; clear hK K; (try simp only [Act.put, List.setIfInBounds_toArray, List.set_cons_succ, List.set_cons_zero])
                        refine wpAny_ready (rs := [4]) (by kernel_rfl) (by simp) ?_
                        refine AllReady.cons rfl (fun K hK => ?_) ?_
                        · skip
                          (with_reducible refine held ?_); refine HS_append_own (by kernel_rfl) _ _ 86 rfl V.heap.size 89 i0 (Ch.mk 0 Ln.zero Ln.zero).val 23 88 Tryz.underlying86 Hi.out Hy0.out Hy1.out Hy2.out rfl (by decide) _ 0 [] rfl (owns_up (fresh_own V _ (by simp) (by simp)) (((Up.refl _).alloc _).drew)) ⟨g, 0, none⟩ j _ ((M.take j).flatMap Ch.cells) rfl hl1 (fun t u h => (upI : Up V _).cell_some (hc1' t u h)) (chflat_one _) HLn.p1 HLn.p2 (upI : Up V _).size ?_
                          intro v1 w1 hown1 hgrow
                          have hkY : w1.heap[(V.alloc (.cells #[] 89)).drew.heap.size]? = some (.cells (Ch.mk 1 Ln.zero y).cells.toArray 89 (0, 0)) := (hgrow.block ((V.alloc (.cells #[] 89)).drew.heap.size) (by simp; try omega) (fun h => by have h' := Option.some.inj h; (try simp at h'); (try omega))).trans (alloc_new rfl)
                          have hu1 : Up V w1 := Up.grown (upI : Up V _) hgrow (fun k' h => by have h' := Option.some.inj h; subst h'; first | exact Nat.le_refl _ | simp | omega)
                          obtain ⟨x1, rfl⟩ := hu1.mk
                          have Hown1 := Lib.hid hown1
                          clear hown1 hgrow hu1
                          refine hK _ _ ?_; clear hK K; (try simp only [Act.put, List.setIfInBounds_toArray, List.set_cons_succ, List.set_cons_zero])
                          refine wpAny_ready (rs := [12]) (by kernel_rfl) (by simp) ?_
                          refine AllReady.cons rfl (fun K hK => ?_) ?_
                          · skip
                            (with_reducible refine held ?_); refine HS_append_own (by kernel_rfl) _ _ 86 rfl V.heap.size 89 i0 (Ch.mk 0 Ln.zero Ln.zero).val 23 88 Tryz.underlying86 Hi.out Hy0.out Hy1.out Hy2.out rfl (by decide) v1 _ _ rfl Hown1.out ⟨_, 0, none⟩ 1 1 (Ch.mk 1 Ln.zero y).cells rfl rfl (row_chn hkY) (fun u h => chg_one _ u h) HLn.p3 HLn.p4 (upI : Up V _).size ?_
                            intro v2 w2 hown2 hgrow
                            have hu2 : Up V w2 := Up.grown (upI : Up V _) hgrow (fun k' h => owns_row Hown1.out k' h)
                            obtain ⟨x2, rfl⟩ := hu2.mk
                            have Hown2 := Lib.hid hown2
                            clear hown2 hgrow hu2
                            refine hK _ _ ?_; clear hK K; (try simp only [Act.put, List.setIfInBounds_toArray, List.set_cons_succ, List.set_cons_zero])
                            refine wpAny_ready (rs := [16]) (by kernel_rfl) (by simp) ?_
                            refine AllReady.cons rfl (fun K hK => ?_) ?_
                            · skip
                              (with_reducible refine held ?_); refine HS_append_own (by kernel_rfl) _ _ 86 rfl V.heap.size 89 i0 (Ch.mk 0 Ln.zero Ln.zero).val 23 88 Tryz.underlying86 Hi.out Hy0.out Hy1.out Hy2.out rfl (by decide) v2 _ _ rfl Hown2.out ⟨g, o16, none⟩ 0 _ ((M.drop j).flatMap Ch.cells) rfl hl2 (fun t u h => (upI : Up V _).cell_some (hc2' t u h)) (chflat_one _) (by have h := HLn.p5; rwa [Nat.sub_self] at h) (by have h := HLn.p6; rwa [Nat.sub_self] at h) (upI : Up V _).size ?_
                              intro v3 w3 hown3 hgrow
                              have hu3 : Up V w3 := Up.grown (upI : Up V _) hgrow (fun k' h => owns_row Hown2.out k' h)
                              obtain ⟨x3, rfl⟩ := hu3.mk
                              have Hown3 := Lib.hid hown3
                              clear hown3 hgrow hu3
                              refine hK _ _ ?_; clear hK K; (try simp only [Act.put, List.setIfInBounds_toArray, List.set_cons_succ, List.set_cons_zero])
                              refine any_take (i := 17) (v := ?v127) rfl (by kernel_rfl) (by kernel_rfl) (by kernel_rfl) (Or.inl ⟨by kernel_rfl, ?hy127⟩) ?rest127
                              case hy127 => (intro w; go_simp; (try with_reducible rfl))
                              (try simp only [Act.put, List.setIfInBounds_toArray, List.set_cons_succ, List.set_cons_zero])
                              refine wpAny_done (by kernel_rfl) ?_ _
                              refine ⟨rfl, ?_⟩
                              go_wp2_with fail
                              go_roundw
                              case rel => exact ⟨q + 1, M.take j ++ ⟨1, Ln.zero, y⟩ :: M.drop j, by omega, by go_num, Lib.hid (by rw [HE.out, HI.out]), hlen3, HMb2, Lib.hid (hfin Hown3.out), upI⟩
                              case measure => simp [intOf]; omega
                            exact AllReady.nil
                          exact AllReady.nil
                        exact AllReady.nil
                      exact AllReady.nil
                    exact AllReady.nil
                  refine AllReady.cons rfl (fun K hK => ?_) ?_
                  · skip
                    (with_reducible refine held ?_); refine HS_load_mid (by kernel_rfl) 60 _ rfl b1 (o1 + q * 11) (by kernel_rfl) y.cells _ (HYV _ inferInstance) Tryz.underlying60 rfl rlnSize ?_
                    refine hK _ _ ?_; clear hK K; (try simp only [Act.put, List.setIfInBounds_toArray, List.set_cons_succ, List.set_cons_zero])
                    refine any_take (i := 10) (v := .agg (Ch.mk 1 Ln.zero y).cells.toArray) rfl (by kernel_rfl) (by kernel_rfl) (by kernel_rfl) (Or.inl ⟨by kernel_rfl, yields_build 89 _ rfl #[(0, .int .u8 1), (1, .agg Ln.zero.cells.toArray), (2, .agg y.cells.toArray)] (by kernel_rfl) _ (fun w => build_rch 1 Ln.zero y w)⟩) ?_; (try simp only [Act.put, List.setIfInBounds_toArray, List.set_cons_succ, List.set_cons_zero])
                    refine wpAny_ready (rs := [0, 11]) (by kernel_rfl) (by simp) ?_
                    refine AllReady.cons rfl (fun K hK => ?_) ?_
                    · go_simp
                      refine hK _ _ ?_; clear hK K; (try simp only [Act.put, List.setIfInBounds_toArray, List.set_cons_succ, List.set_cons_zero])
                      refine wpAny_ready (rs := [4, 11]) (by kernel_rfl) (by simp) ?_
                      refine AllReady.cons rfl (fun K hK => ?_) ?_
                      · skip
                        (with_reducible refine held ?_); refine HS_append_own (by kernel_rfl) _ _ 86 rfl V.heap.size 89 i0 (Ch.mk 0 Ln.zero Ln.zero).val 23 88 Tryz.underlying86 Hi.out Hy0.out Hy1.out Hy2.out rfl (by decide) _ 0 [] rfl (fresh_own V _ (by simp) (by simp)) ⟨g, 0, none⟩ j _ ((M.take j).flatMap Ch.cells) rfl hl1 (fun t u h => (upI : Up V _).cell_some (hc1' t u h)) (chflat_one _) HLn.p1 HLn.p2 (upI : Up V _).size ?_
                        intro v1 w1 hown1 hgrow
                        have hu1 : Up V w1 := Up.grown (upI : Up V _) hgrow (fun k' h => by have h' := Option.some.inj h; subst h'; first | exact Nat.le_refl _ | simp | omega)
                        obtain ⟨x1, rfl⟩ := hu1.mk
                        have Hown1 := Lib.hid hown1
                        clear hown1 hgrow hu1
                        refine hK _ _ ?_; clear hK K; (try simp only [Act.put, List.setIfInBounds_toArray, List.set_cons_succ, List.set_cons_zero])
                        refine wpAny_ready (rs := [11]) (by kernel_rfl) (by simp) ?_
                        refine AllReady.cons rfl (fun K hK => ?_) ?_
                        · skip
                          (with_reducible refine held ?_); refine HS_slice (by kernel_rfl) 86 1 _ rfl #[(0, .agg (Ch.mk 1 Ln.zero y).cells.toArray)] (by kernel_rfl) _ _ (slice_rch (Ch.mk 1 Ln.zero y) _) ?_
                          refine hK _ _ ?_; clear hK K; (try simp only [Act.put, List.setIfInBounds_toArray, List.set_cons_succ, List.set_cons_zero])
                          refine wpAny_ready (rs := [12]) (by kernel_rfl) (by simp) ?_
                          refine AllReady.cons rfl (fun K hK => ?_) ?_
                          · skip
                            (with_reducible refine held ?_); refine HS_append_own (by kernel_rfl) _ _ 86 rfl V.heap.size 89 i0 (Ch.mk 0 Ln.zero Ln.zero).val 23 88 Tryz.underlying86 Hi.out Hy0.out Hy1.out Hy2.out rfl (by decide) v1 _ _ rfl (owns_up Hown1.out (upI : Up x1.w _)) ⟨_, 0, none⟩ 1 1 (Ch.mk 1 Ln.zero y).cells rfl rfl (fun j u hj => ch_at _ _ _ j u hj) (fun u h => chg_one _ u h) HLn.p3 HLn.p4 (upI : Up V _).size ?_
                            intro v2 w2 hown2 hgrow
                            have hu2 : Up V w2 := Up.grown (upI : Up V _) hgrow (fun k' h => owns_row Hown1.out k' h)
                            obtain ⟨x2, rfl⟩ := hu2.mk
                            have Hown2 := Lib.hid hown2
                            clear hown2 hgrow hu2
                            refine hK _ _ ?_; clear hK K; (try simp only [Act.put, List.setIfInBounds_toArray, List.set_cons_succ, List.set_cons_zero])
                            refine wpAny_ready (rs := [16]) (by kernel_rfl) (by simp) ?_
                            refine AllReady.cons rfl (fun K hK => ?_) ?_
                            · skip
                              (with_reducible refine held ?_); refine HS_append_own (by kernel_rfl) _ _ 86 rfl V.heap.size 89 i0 (Ch.mk 0 Ln.zero Ln.zero).val 23 88 Tryz.underlying86 Hi.out Hy0.out Hy1.out Hy2.out rfl (by decide) v2 _ _ rfl Hown2.out ⟨g, o16, none⟩ 0 _ ((M.drop j).flatMap Ch.cells) rfl hl2 (fun t u h => (upI : Up V _).cell_some (hc2' t u h)) (chflat_one _) (by have h := HLn.p5; rwa [Nat.sub_self] at h) (by have h := HLn.p6; rwa [Nat.sub_self] at h) (upI : Up V _).size ?_
                              intro v3 w3 hown3 hgrow
                              have hu3 : Up V w3 := Up.grown (upI : Up V _) hgrow (fun k' h => owns_row Hown2.out k' h)
                              obtain ⟨x3, rfl⟩ := hu3.mk
                              have Hown3 := Lib.hid hown3
                              clear hown3 hgrow hu3
                              refine hK _ _ ?_; clear hK K; (try simp only [Act.put, List.setIfInBounds_toArray, List.set_cons_succ, List.set_cons_zero])
                              refine any_take (i := 17) (v := ?v128) rfl (by kernel_rfl) (by kernel_rfl) (by kernel_rfl) (Or.inl ⟨by kernel_rfl, ?hy128⟩) ?rest128
                              case hy128 => (intro w; go_simp; (try with_reducible rfl))
                              (try simp only [Act.put, List.setIfInBounds_toArray, List.set_cons_succ, List.set_cons_zero])
                              refine wpAny_done (by kernel_rfl) ?_ _
                              refine ⟨rfl, ?_⟩
                              go_wp2_with fail
                              go_roundw
                              case rel => exact ⟨q + 1, M.take j ++ ⟨1, Ln.zero, y⟩ :: M.drop j, by omega, by go_num, Lib.hid (by rw [HE.out, HI.out]), hlen3, HMb2, Lib.hid (hfin Hown3.out), upI⟩
                              case measure => simp [intOf]; omega
                            exact AllReady.nil
                          exact AllReady.nil
                        exact AllReady.nil
                      refine AllReady.cons rfl (fun K hK => ?_) ?_
                      · skip
                        (with_reducible refine held ?_); refine HS_slice (by kernel_rfl) 86 1 _ rfl #[(0, .agg (Ch.mk 1 Ln.zero y).cells.toArray)] (by kernel_rfl) _ _ (slice_rch (Ch.mk 1 Ln.zero y) _) ?_
                        refine hK _ _ ?_; clear hK K; (try simp only [Act.put, List.setIfInBounds_toArray, List.set_cons_succ, List.set_cons_zero])
                        refine wpAny_ready (rs := [4]) (by kernel_rfl) (by simp) ?_
                        refine AllReady.cons rfl (fun K hK => ?_) ?_
                        · skip
                          (with_reducible refine held ?_); refine HS_append_own (by kernel_rfl) _ _ 86 rfl V.heap.size 89 i0 (Ch.mk 0 Ln.zero Ln.zero).val 23 88 Tryz.underlying86 Hi.out Hy0.out Hy1.out Hy2.out rfl (by decide) _ 0 [] rfl (owns_up (fresh_own V _ (by simp) (by simp)) (((Up.refl _).alloc _).drew)) ⟨g, 0, none⟩ j _ ((M.take j).flatMap Ch.cells) rfl hl1 (fun t u h => (upI : Up V _).cell_some (hc1' t u h)) (chflat_one _) HLn.p1 HLn.p2 (upI : Up V _).size ?_
                          intro v1 w1 hown1 hgrow
                          have hkY : w1.heap[(V.alloc (.cells #[] 89)).drew.heap.size]? = some (.cells (Ch.mk 1 Ln.zero y).cells.toArray 89 (0, 0)) := (hgrow.block ((V.alloc (.cells #[] 89)).drew.heap.size) (by simp; try omega) (fun h => by have h' := Option.some.inj h; (try simp at h'); (try omega))).trans (alloc_new rfl)
                          have hu1 : Up V w1 := Up.grown (upI : Up V _) hgrow (fun k' h => by have h' := Option.some.inj h; subst h'; first | exact Nat.le_refl _ | simp | omega)
                          obtain ⟨x1, rfl⟩ := hu1.mk
                          have Hown1 := Lib.hid hown1
                          clear hown1 hgrow hu1
                          refine hK _ _ ?_; clear hK K; (try simp only [Act.put, List.setIfInBounds_toArray, List.set_cons_succ, List.set_cons_zero])
                          refine wpAny_ready (rs := [12]) (by kernel_rfl) (by simp) ?_
                          refine AllReady.cons rfl (fun K hK => ?_) ?_
                          · skip
                            (with_reducible refine held ?_); refine HS_append_own (by kernel_rfl) _ _ 86 rfl V.heap.size 89 i0 (Ch.mk 0 Ln.zero Ln.zero).val 23 88 Tryz.underlying86 Hi.out Hy0.out Hy1.out Hy2.out rfl (by decide) v1 _ _ rfl Hown1.out ⟨_, 0, none⟩ 1 1 (Ch.mk 1 Ln.zero y).cells rfl rfl (row_chn hkY) (fun u h => chg_one _ u h) HLn.p3 HLn.p4 (upI : Up V _).size ?_
                            intro v2 w2 hown2 hgrow
                            have hu2 : Up V w2 := Up.grown (upI : Up V _) hgrow (fun k' h => owns_row Hown1.out k' h)
                            obtain ⟨x2, rfl⟩ := hu2.mk
                            have Hown2 := Lib.hid hown2
                            clear hown2 hgrow hu2
                            refine hK _ _ ?_; clear hK K; (try simp only [Act.put, List.setIfInBounds_toArray, List.set_cons_succ, List.set_cons_zero])
                            refine wpAny_ready (rs := [16]) (by kernel_rfl) (by simp) ?_
                            refine AllReady.cons rfl (fun K hK => ?_) ?_
                            · skip
                              (with_reducible refine held ?_); refine HS_append_own (by kernel_rfl) _ _ 86 rfl V.heap.size 89 i0 (Ch.mk 0 Ln.zero Ln.zero).val 23 88 Tryz.underlying86 Hi.out Hy0.out Hy1.out Hy2.out rfl (by decide) v2 _ _ rfl Hown2.out ⟨g, o16, none⟩ 0 _ ((M.drop j).flatMap Ch.cells) rfl hl2 (fun t u h => (upI : Up V _).cell_some (hc2' t u h)) (chflat_one _) (by have h := HLn.p5; rwa [Nat.sub_self] at h) (by have h := HLn.p6; rwa [Nat.sub_self] at h) (upI : Up V _).size ?_
                              intro v3 w3 hown3 hgrow
                              have hu3 : Up V w3 := Up.grown (upI : Up V _) hgrow (fun k' h => owns_row Hown2.out k' h)
                              obtain ⟨x3, rfl⟩ := hu3.mk
                              have Hown3 := Lib.hid hown3
                              clear hown3 hgrow hu3
                              refine hK _ _ ?_; clear hK K; (try simp only [Act.put, List.setIfInBounds_toArray, List.set_cons_succ, List.set_cons_zero])
                              refine any_take (i := 17) (v := ?v129) rfl (by kernel_rfl) (by kernel_rfl) (by kernel_rfl) (Or.inl ⟨by kernel_rfl, ?hy129⟩) ?rest129
                              case hy129 => (intro w; go_simp; (try with_reducible rfl))
                              (try simp only [Act.put, List.setIfInBounds_toArray, List.set_cons_succ, List.set_cons_zero])
                              refine wpAny_done (by kernel_rfl) ?_ _
                              refine ⟨rfl, ?_⟩
                              go_wp2_with fail
                              go_roundw
                              case rel => exact ⟨q + 1, M.take j ++ ⟨1, Ln.zero, y⟩ :: M.drop j, by omega, by go_num, Lib.hid (by rw [HE.out, HI.out]), hlen3, HMb2, Lib.hid (hfin Hown3.out), upI⟩
                              case measure => simp [intOf]; omega
                            exact AllReady.nil
                          exact AllReady.nil
                        exact AllReady.nil
                      exact AllReady.nil
                    refine AllReady.cons rfl (fun K hK => ?_) ?_
                    · skip
                      (with_reducible refine held ?_); refine HS_slice (by kernel_rfl) 86 1 _ rfl #[(0, .agg (Ch.mk 1 Ln.zero y).cells.toArray)] (by kernel_rfl) _ _ (slice_rch (Ch.mk 1 Ln.zero y) _) ?_
                      refine hK _ _ ?_; clear hK K; (try simp only [Act.put, List.setIfInBounds_toArray, List.set_cons_succ, List.set_cons_zero])
                      refine wpAny_ready (rs := [0]) (by kernel_rfl) (by simp) ?_
                      refine AllReady.cons rfl (fun K hK => ?_) ?_
                      · go_simp
                        refine hK _ _ ?_; clear hK K; (try simp only [Act.put, List.setIfInBounds_toArray, List.set_cons_succ, List.set_cons_zero])
                        refine wpAny_ready (rs := [4]) (by kernel_rfl) (by simp) ?_
                        refine AllReady.cons rfl (fun K hK => ?_) ?_
                        · skip
                          (with_reducible refine held ?_); refine HS_append_own (by kernel_rfl) _ _ 86 rfl V.heap.size 89 i0 (Ch.mk 0 Ln.zero Ln.zero).val 23 88 Tryz.underlying86 Hi.out Hy0.out Hy1.out Hy2.out rfl (by decide) _ 0 [] rfl (fresh_own (V.alloc (.cells (Ch.mk 1 Ln.zero y).cells.toArray 89)) _ (by simp) (by simp)) ⟨g, 0, none⟩ j _ ((M.take j).flatMap Ch.cells) rfl hl1 (fun t u h => (upI : Up V _).cell_some (hc1' t u h)) (chflat_one _) HLn.p1 HLn.p2 (upI : Up V _).size ?_
                          intro v1 w1 hown1 hgrow
                          have hkY : w1.heap[V.heap.size]? = some (.cells (Ch.mk 1 Ln.zero y).cells.toArray 89 (0, 0)) := (hgrow.block (V.heap.size) (by simp; try omega) (fun h => by have h' := Option.some.inj h; (try simp at h'); (try omega))).trans ((Below.heap_alloc _ _ _ (by simp)).trans (alloc_new (by simp)))
                          have hu1 : Up V w1 := Up.grown (upI : Up V _) hgrow (fun k' h => by have h' := Option.some.inj h; subst h'; first | exact Nat.le_refl _ | simp | omega)
                          obtain ⟨x1, rfl⟩ := hu1.mk
                          have Hown1 := Lib.hid hown1
                          clear hown1 hgrow hu1
                          refine hK _ _ ?_; clear hK K; (try simp only [Act.put, List.setIfInBounds_toArray, List.set_cons_succ, List.set_cons_zero])
                          refine wpAny_ready (rs := [12]) (by kernel_rfl) (by simp) ?_
                          refine AllReady.cons rfl (fun K hK => ?_) ?_
                          · skip
                            (with_reducible refine held ?_); refine HS_append_own (by kernel_rfl) _ _ 86 rfl V.heap.size 89 i0 (Ch.mk 0 Ln.zero Ln.zero).val 23 88 Tryz.underlying86 Hi.out Hy0.out Hy1.out Hy2.out rfl (by decide) v1 _ _ rfl Hown1.out ⟨_, 0, none⟩ 1 1 (Ch.mk 1 Ln.zero y).cells rfl rfl (row_chn hkY) (fun u h => chg_one _ u h) HLn.p3 HLn.p4 (upI : Up V _).size ?_
                            intro v2 w2 hown2 hgrow
                            have hu2 : Up V w2 := Up.grown (upI : Up V _) hgrow (fun k' h => owns_row Hown1.out k' h)
                            obtain ⟨x2, rfl⟩ := hu2.mk
                            have Hown2 := Lib.hid hown2
                            clear hown2 hgrow hu2
                            refine hK _ _ ?_; clear hK K; (try simp only [Act.put, List.setIfInBounds_toArray, List.set_cons_succ, List.set_cons_zero])
                            refine wpAny_ready (rs := [16]) (by kernel_rfl) (by simp) ?_
                            refine AllReady.cons rfl (fun K hK => ?_) ?_
                            · skip
                              (with_reducible refine held ?_); refine HS_append_own (by kernel_rfl) _ _ 86 rfl V.heap.size 89 i0 (Ch.mk 0 Ln.zero Ln.zero).val 23 88 Tryz.underlying86 Hi.out Hy0.out Hy1.out Hy2.out rfl (by decide) v2 _ _ rfl Hown2.out ⟨g, o16, none⟩ 0 _ ((M.drop j).flatMap Ch.cells) rfl hl2 (fun t u h => (upI : Up V _).cell_some (hc2' t u h)) (chflat_one _) (by have h := HLn.p5; rwa [Nat.sub_self] at h) (by have h := HLn.p6; rwa [Nat.sub_self] at h) (upI : Up V _).size ?_
                              intro v3 w3 hown3 hgrow
                              have hu3 : Up V w3 := Up.grown (upI : Up V _) hgrow (fun k' h => owns_row Hown2.out k' h)
                              obtain ⟨x3, rfl⟩ := hu3.mk
                              have Hown3 := Lib.hid hown3
                              clear hown3 hgrow hu3
                              refine hK _ _ ?_; clear hK K; (try simp only [Act.put, List.setIfInBounds_toArray, List.set_cons_succ, List.set_cons_zero])
                              refine any_take (i := 17) (v := ?v130) rfl (by kernel_rfl) (by kernel_rfl) (by kernel_rfl) (Or.inl ⟨by kernel_rfl, ?hy130⟩) ?rest130
                              case hy130 => (intro w; go_simp; (try with_reducible rfl))
                              (try simp only [Act.put, List.setIfInBounds_toArray, List.set_cons_succ, List.set_cons_zero])
                              refine wpAny_done (by kernel_rfl) ?_ _
                              refine ⟨rfl, ?_⟩
                              go_wp2_with fail
                              go_roundw
                              case rel => exact ⟨q + 1, M.take j ++ ⟨1, Ln.zero, y⟩ :: M.drop j, by omega, by go_num, Lib.hid (by rw [HE.out, HI.out]), hlen3, HMb2, Lib.hid (hfin Hown3.out), upI⟩
                              case measure => simp [intOf]; omega
                            exact AllReady.nil
                          exact AllReady.nil
                        exact AllReady.nil
                      exact AllReady.nil
                    exact AllReady.nil
                  exact AllReady.nil
        · obtain rfl : q = NB := by omega
          have HE := Lib.hid (show refDiffL a b = M by unfold refDiffL; rw [HM.out, List.take_of_length_le (by rw [HNB.out]; exact Nat.le_refl _), HM0.out])
          go_wp2_with fail
          go_ret
          exact ⟨_, rfl, by rw [HE.out]; exact Hown.out, hu.mk⟩
end Go.Proofs.YtlbbepgfjigjpaaGreatDoor
namespace Go.Ab
open Go.RowKit Go.Proofs.YtlbbepgfjigjpaaGreatDoor
theorem UpI.trans' {u v w : World} (h : UpI u v) (k : UpI v w) : UpI u w := ⟨h.up.trans k.up⟩
theorem readsFrom_len : ∀ (l : List (List UInt8)) (out : List Ln), ((readsFrom out l).1.getD []).length ≤ out.length + l.length
  | [], out => by unfold readsFrom; simp
  | s :: t, out => by
    unfold readsFrom
    cases rstep out s with
    | none => simp
    | some x => have := readsFrom_len t (out ++ [x]); simp at this ⊢; omega
theorem readsL_len {l : List (List UInt8)} (h : l.length ≤ 100000) : ((readsL l).1.getD []).length ≤ 1000000 := by
  have := readsFrom_len l []
  unfold readsL
  simp at this
  omega
end Go.Ab
namespace Go.Proofs.YtlbbepgfjigjpaaGreatDoor
open Go.RowKit Go.Ab
attribute [local go_sem high] eq_rln eq_ln
set_option maxHeartbeats 64000000 in
set_option maxRecDepth 100000 in
theorem lists_any (a b : List Ln) (l : List (List UInt8)) (va vb vl : Value) (w : World) (g : GoodD w) (ha : LnRow w va a) (hb : LnRow w vb b) (hl : StrRow w vl l) (na : NilOk va) (nb : NilOk vb) (hno : NilOk vl) (ba : ∀ x ∈ a, LnB x) (bb : ∀ x ∈ b, LnB x) :
    Gives Tryz.prog 9 #[va, vb, vl] w (.bool true) := by
  have hrowA := ha
  have hrowB := hb
  have hrowL := hl
  obtain ⟨pa, capa, rfl, hlea, hca⟩ := ha
  obtain ⟨pb, capb, rfl, hleb, hcb⟩ := hb
  obtain ⟨p, cap, rfl, hle, hcl⟩ := hl
  obtain ⟨A, hA⟩ : ∃ N, a.length = N := ⟨_, rfl⟩
  obtain ⟨B, hB⟩ : ∃ N, b.length = N := ⟨_, rfl⟩
  obtain ⟨N, hN⟩ : ∃ N, l.length = N := ⟨_, rfl⟩
  rw [hA] at hlea hrowA na ⊢
  rw [hB] at hleb hrowB nb ⊢
  rw [hN] at hle hrowL hno ⊢
  have HA := Lib.hid hA; have HB := Lib.hid hB; have HN := Lib.hid hN; have HCL := Lib.hid hcl; have Hba := Lib.hid ba; have Hbb := Lib.hid bb; have HRA := Lib.hid hrowA; have HRB := Lib.hid hrowB; have HRL := Lib.hid hrowL; have HNA := Lib.hid na; have HNB := Lib.hid nb; have HNO := Lib.hid hno
  clear hA hB hN hca hcb hcl ba bb hrowA hrowB hrowL na nb hno
  unfold Gives
  go_enter Tryz.func9, Tryz.ntmps9
  by_cases ha40 : 40 < A
  · have ha40' : (40 : Int) < (A : Int) := by omega
    go_wp2_with fail
    go_ret
    exact ⟨rfl, mkI⟩
  have ha40' : ¬ (40 : Int) < (A : Int) := by omega
  by_cases hb40 : 40 < B
  · have hb40' : (40 : Int) < (B : Int) := by omega
    go_wp2_with fail
    go_ret
    exact ⟨rfl, mkI⟩
  have hb40' : ¬ (40 : Int) < (B : Int) := by omega
  by_cases hl40 : 40 < N
  · have hl40' : (40 : Int) < (N : Int) := by omega
    go_wp2_with fail
    go_ret
    exact ⟨rfl, mkI⟩
  have hl40' : ¬ (40 : Int) < (N : Int) := by omega
  have hA40 : A ≤ 40 := by omega
  have hB40 : B ≤ 40 := by omega
  have hN40 : N ≤ 40 := by omega
  go_wp2_with fail
  clear ha40' hb40' hl40' ha40 hb40 hl40
  go_loopw [42] (fun i wr => ∃ k : Nat, k ≤ N ∧ i = .int .i64 (k : Int) ∧ Hid (∀ (j : Nat) (s : List UInt8), j < k → l[j]? = some s → s.length ≤ 500) ∧ wr = w) (fun i _ => N - (intOf i).toNat)
  case atStart => exact ⟨0, Nat.zero_le _, rfl, Lib.hid (fun j s h => absurd h (Nat.not_lt_zero j)), rfl⟩
  case round =>
    obtain ⟨k, hk, rfl, Hk, hw⟩ := hrel
    rw [hw]
    clear hw
    by_cases hlt : k < N
    · have hlt' : (k : Int) < (N : Int) := by omega
      have k0 : (0 : Int) ≤ (k : Int) := by omega
      obtain ⟨s, hs⟩ : ∃ s, l[k]? = some s := ⟨_, List.getElem?_eq_getElem (by rw [HN.out]; exact hlt)⟩
      obtain ⟨b1, o1, rfl, hb1, hc1⟩ := HCL.out k s hs
      have c1 := hc1 0 _ rfl
      rw [Nat.add_zero, Nat.mul_one] at c1
      haveI : LtSize b1 w := ⟨hb1⟩
      have Hs := Lib.hid hs
      clear hs hc1
      by_cases h500 : 500 < s.length
      · have h500' : (500 : Int) < (s.length : Int) := by omega
        go_wp2_with fail
        go_ret
        exact ⟨rfl, mkI⟩
      · have h500' : (s.length : Int) ≤ 500 := by omega
        go_wp2_with fail
        go_roundw
        case rel => exact ⟨k + 1, Nat.succ_le_of_lt hlt, by go_num, Lib.hid (fun j s' hj hs' => by rcases Nat.lt_or_eq_of_le (Nat.le_of_lt_succ hj) with h | h; exact Hk.out j s' h hs'; subst h; rw [Hs.out] at hs'; cases hs'; exact Nat.le_of_not_lt h500), trivial⟩
        case measure => simp [intOf]; omega
    · obtain rfl : k = N := by omega
      have hb500 : ∀ s ∈ l, s.length ≤ 1000000 := fun s hs => by
        obtain ⟨j, hj⟩ := List.getElem?_of_mem hs
        exact Nat.le_trans (Hk.out j s (by rw [← HN.out]; exact (List.getElem?_eq_some_iff.1 hj).1) hj) (by decide)
      have Hb5 := Lib.hid hb500
      clear hb500 Hk HCL hk hlt
      obtain ⟨i1, hi, hy0, hy1, hy2⟩ := info_parts infoLine
      have Hi1 := Lib.hid hi; have Hy01 := Lib.hid hy0; have Hy11 := Lib.hid hy1; have Hy21 := Lib.hid hy2
      clear hi hy0 hy1 hy2
      have hk1 : A ≤ maxLen ∧ A * 40 ≤ 140737488355328 ∧ B ≤ maxLen ∧ B * 40 ≤ 140737488355328 := by unfold maxLen; omega
      obtain ⟨e1, e2, e3, e4⟩ := hk1
      go_upto_region 10 with (first
        | (at_builtin; refine wpList_append_fresh rfl _ _ 22 rfl 31 i1 Ln.zero.val 11 40 Tryz.underlying22 Hi1.out Hy01.out Hy11.out Hy21.out rfl (by decide) Ln.cells_length _ rfl _ a rfl (RowOf.up HRA.out (upI : Up w _)) HNA.out (by rw [HA.out]; exact e1) (by rw [HA.out]; exact e2) ?_; rw [HA.out]; intro p9 c9 w9 u9 r9; haveI : UpI w w9 := ⟨(upI : Up w _).trans u9⟩)
        | (at_builtin; refine wpList_append_fresh rfl _ _ 22 rfl 31 i1 Ln.zero.val 11 40 Tryz.underlying22 Hi1.out Hy01.out Hy11.out Hy21.out rfl (by decide) Ln.cells_length _ rfl _ b rfl (RowOf.up HRB.out (upI : Up w _)) HNB.out (by rw [HB.out]; exact e3) (by rw [HB.out]; exact e4) ?_; rw [HB.out]; intro q10 c10 w10 u10 r10; haveI : UpI w9 w10 := ⟨(upI : Up w9 _).trans u10⟩; haveI : UpI w w10 := ⟨(upI : Up w w9).trans upI⟩))
      refine wp_letter (fun W => UpI w W ∧ LnRow W (.slice p9 A c9) a ∧ LnRow W (.slice q10 B c10) b) ⟨inferInstance, RowOf.up r9 (upI : Up w9 w10), r10⟩ ?_
      clear r9 r10 u9 u10 Hi1 Hy01 Hy11 Hy21 e1 e2 e3 e4
      rintro X ⟨uX, hP, hQ⟩
      haveI := uX
      have HP := Lib.hid hP
      have HQ := Lib.hid hQ
      clear hP hQ
      have hAk : a.length ≤ 1000000 := by rw [HA.out]; exact Nat.le_trans hA40 (by decide)
      have hBk : b.length ≤ 1000000 := by rw [HB.out]; exact Nat.le_trans hB40 (by decide)
      have hNk : l.length ≤ 100000 := by rw [HN.out]; exact Nat.le_trans hN40 (by decide)
      have HAk := Lib.hid hAk; have HBk := Lib.hid hBk; have HNk := Lib.hid hNk
      clear hAk hBk hNk
      have hLent : ∀ W, UpI X W → Calls Tryz.prog 23 #[.slice p k cap] W fun e w' => ∃ g cap2, e = .returned (.slice (some ⟨g, 0, none⟩) k cap2) ∧ k + 12 ≤ cap2 ∧ StrRow w' (.slice (some ⟨g, 0, none⟩) (k + 12) cap2) (l ++ marksL 12) ∧ ∃ x : Ext W, w' = x.w := fun W h => by
        have := lent_any l _ W (HRL.out.up (uX.up.trans h.up)) HNO.out HNk.out
        rwa [HN.out] at this
      have hpre : ∀ (g cap2 : Nat) (W : World), StrRow W (.slice (some ⟨g, 0, none⟩) (k + 12) cap2) (l ++ marksL 12) → StrRow W (.slice (some ⟨g, 0, none⟩) k cap2) l := fun g cap2 W h => by
        have e : (l ++ marksL 12).length = k + 12 := by rw [List.length_append, HN.out, marksL_len]
        rw [← e] at h
        have := RowOf.take h k (by omega)
        rwa [List.take_left' HN.out] at this
      go_upto_region 11 with (go_at_call 23; (with_reducible refine (hLent _ inferInstance).mono ?_); rintro e w' ⟨g1, cap2, rfl, hcap2, hown, z0, rfl⟩)
      refine wp_letter (fun W => UpI X W ∧ StrRow W (.slice (some ⟨g1, 0, none⟩) (k + 12) cap2) (l ++ marksL 12)) ⟨inferInstance, hown⟩ ?_
      clear hown hLent
      rintro X1 ⟨u1, hown⟩
      haveI := u1
      haveI : UpI w X1 := ⟨uX.up.trans u1.up⟩
      have HOw := Lib.hid hown
      have HPre := Lib.hid (hpre g1 cap2 X1 hown)
      clear hown hpre
      have hTa := fun W (h : UpI X1 W) => turned_row a _ W (RowOf.up HRA.out ((upI : Up w X1).trans h.up)) HAk.out
      have hTb := fun W (h : UpI X1 W) => turned_row b _ W (RowOf.up HRB.out ((upI : Up w X1).trans h.up)) HBk.out
      rw [HA.out] at hTa
      rw [HB.out] at hTb
      go_upto_region 12 with (first
        | (go_at_call 24; (with_reducible refine (hTa _ inferInstance).mono ?_); rintro e w' ⟨p12, c12, rfl, h12, z12, rfl⟩)
        | (go_at_call 24; (with_reducible refine (hTb _ inferInstance).mono ?_); rintro e w' ⟨p13, c13, rfl, h13, z13, rfl⟩))
      refine wp_letter (fun W => UpI X1 W ∧ LnRow W (.slice p12 A c12) a ∧ LnRow W (.slice p13 B c13) b) ⟨inferInstance, RowOf.up h12 (upI : Up z12.w z13.w), h13⟩ ?_
      clear h12 h13 hTa hTb
      rintro X2 ⟨u2, hX, hY⟩
      haveI := u2
      haveI : UpI X X2 := ⟨u1.up.trans u2.up⟩
      have HX := Lib.hid hX
      have HY := Lib.hid hY
      clear hX hY
      obtain ⟨OA, hOA⟩ : ∃ o, orderedL a = o := ⟨_, rfl⟩
      obtain ⟨OB, hOB⟩ : ∃ o, orderedL b = o := ⟨_, rfl⟩
      have HOA := Lib.hid hOA; have HOB := Lib.hid hOB
      clear hOA hOB
      obtain ⟨TL, TN, ET, hTN, hTy, hTx⟩ : ∃ (TL : List (List UInt8)) (TN : Nat) (ET : Int), TL.length = TN ∧ (if OA then TL = a.map Ln.text ∧ TN = A ∧ ET = 0 else TN = 0 ∧ ET = 383) ∧ ∀ W, UpI X W → Calls Tryz.prog 25 #[.slice p9 A c9] W fun e w' => ∃ q c, e = .returned (.tuple #[.slice q TN c, .int .i64 ET]) ∧ StrRow w' (.slice q TN c) TL ∧ ∃ x : Ext W, w' = x.w := by
        cases hOc : OA
        · exact ⟨[], 0, 383, rfl, ⟨rfl, rfl⟩, fun W h => (dtexts_no a _ W (RowOf.up HP.out h.up) Hba.out (Nat.le_trans HAk.out (by decide)) (by rw [HOA.out, hOc])).mono fun e w' ⟨h1, h2⟩ => ⟨none, 0, h1, RowOf.nil _, h2⟩⟩
        · refine ⟨a.map Ln.text, A, 0, by rw [List.length_map, HA.out], ⟨rfl, rfl, rfl⟩, fun W h => (dtexts_yes a _ W (g.up (uX.up.trans h.up)) (RowOf.up HP.out h.up) Hba.out HAk.out (by rw [HOA.out, hOc])).mono fun e w' ⟨u, h1, h2, h3⟩ => ?_⟩
          rw [show a.length = (a.map Ln.text).length by rw [List.length_map]] at h2
          have h4 := StrRow.of_owns h2
          have h5 := h4
          obtain ⟨q, c, rfl, _⟩ := h5
          rw [List.length_map, HA.out] at h1 h4
          exact ⟨q, c, h1, h4, h3⟩
      obtain ⟨RL, RN, RI, RE, hRN, hRk, hRD, hRR⟩ : ∃ (RL : List Ln) (RN : Nat) (RI RE : Int), RL.length = RN ∧ RL.length ≤ 1000000 ∧ (∀ (v : Value) W, UpI X W → StrRow W v l → Calls Tryz.prog 26 #[v] W fun e w' => ∃ q c, e = .returned (.tuple #[.slice q RN c, .int .i64 RI, .int .i64 RE]) ∧ LnRow w' (.slice q RN c) RL ∧ ∃ x : Ext W, w' = x.w) ∧ (∀ (v : Value) W, StrRow W v l → Calls Tryz.prog 27 #[v] W fun e w' => ∃ q c, e = .returned (.tuple #[.slice q RN c, .int .i64 RI, .int .i64 RE]) ∧ LnRow w' (.slice q RN c) RL ∧ ∃ x : Ext W, w' = x.w) := by
        have hb9 : ∀ s ∈ l, s.length ≤ 1000000000 := fun s hs => Nat.le_trans (Hb5.out s hs) (by decide)
        have hD := fun (v : Value) W (h : UpI X W) (hv : StrRow W v l) => dreads_any l v W (g.up (uX.up.trans h.up)) hv hb9 (Nat.le_trans HNk.out (by decide))
        have hR := fun (v : Value) W (hv : StrRow W v l) => rreads_any l v W hv hb9 (Nat.le_trans HNk.out (by decide))
        have key : ∀ (t : TypeId), ∃ (RL : List Ln) (RN : Nat) (RI RE : Int), RL.length = RN ∧ RL = (readsL l).1.getD [] ∧ (RI = (match readsL l with | (some _, _) => -1 | (none, i) => (i : Int))) ∧ (RE = (match readsL l with | (some _, _) => 0 | (none, _) => 382)) ∧ ∀ (W : World) (e : Ending) (w' : World), readsE (readsL l) W e w' t → ∃ q c, e = .returned (.tuple #[.slice q RN c, .int .i64 RI, .int .i64 RE]) ∧ LnRow w' (.slice q RN c) RL := fun t => by
          rcases readsL l with ⟨_ | xs, i⟩
          · exact ⟨[], 0, (i : Int), 382, rfl, rfl, rfl, rfl, fun W e w' h => ⟨none, 0, h, RowOf.nil _⟩⟩
          · refine ⟨xs, xs.length, -1, 0, rfl, rfl, rfl, rfl, fun W e w' h => ?_⟩
            obtain ⟨u, h1, h2⟩ := h
            have h4 : LnRow w' u xs := RowOf.of_owns Ln.cells_length h2
            have h5 := h4
            obtain ⟨q, c, rfl, _⟩ := h5
            exact ⟨q, c, h1, h4⟩
        obtain ⟨RL, RN, RI, RE, k1, k2, k3, k4, k5⟩ := key 31
        obtain ⟨RL', RN', RI', RE', m1, m2, m3, m4, m5⟩ := key 60
        obtain rfl : RL' = RL := by rw [m2, k2]
        obtain rfl : RN' = RN := by rw [← m1, k1]
        obtain rfl : RI' = RI := by rw [m3, k3]
        obtain rfl : RE' = RE := by rw [m4, k4]
        exact ⟨_, _, _, _, k1, by rw [k2]; exact readsL_len HNk.out, fun v W h hv => (hD v W h hv).mono fun e w' ⟨h1, h2⟩ => by obtain ⟨q, c, h3, h4⟩ := k5 _ _ _ h1; exact ⟨q, c, h3, h4, h2⟩, fun v W hv => (hR v W hv).mono fun e w' ⟨h1, h2⟩ => by obtain ⟨q, c, h3, h4⟩ := m5 _ _ _ h1; exact ⟨q, c, h3, h4, h2⟩⟩
      obtain ⟨CL, CN, EC, hCN, hCy, hDf⟩ : ∃ (CL : List Ch) (CN : Nat) (EC : Int), CL.length = CN ∧ (if OA && OB then CL = diffL a b ∧ EC = 0 else CN = 0 ∧ EC = 383) ∧ ∀ W, UpI X W → Calls Tryz.prog 8 #[.slice p9 A c9, .slice q10 B c10] W fun e w' => ∃ q c, e = .returned (.tuple #[.slice q CN c, .int .i64 EC]) ∧ ChRow w' (.slice q CN c) CL ∧ ∃ x : Ext W, w' = x.w := by
        cases hOc : (OA && OB)
        · exact ⟨[], 0, 383, rfl, ⟨rfl, rfl⟩, fun W h => (ddiff_no a b _ _ W (RowOf.up HP.out h.up) (RowOf.up HQ.out h.up) Hba.out Hbb.out HAk.out HBk.out (by rw [HOA.out, HOB.out, hOc])).mono fun e w' ⟨h1, h2⟩ => ⟨none, 0, h1, RowOf.nil _, h2⟩⟩
        · obtain ⟨o1, o2⟩ := Bool.and_eq_true_iff.1 hOc
          refine ⟨diffL a b, (diffL a b).length, 0, rfl, ⟨rfl, rfl⟩, fun W h => (ddiff_yes a b _ _ W (RowOf.up HP.out h.up) (RowOf.up HQ.out h.up) Hba.out Hbb.out HAk.out HBk.out (by rw [HOA.out, o1]) (by rw [HOB.out, o2])).mono fun e w' ⟨u, h1, h2, h3⟩ => ?_⟩
          have h4 : ChRow w' u (diffL a b) := RowOf.of_owns Ch.cells_length h2
          have h5 := h4
          obtain ⟨q, c, rfl, _⟩ := h5
          exact ⟨q, c, h1, h4, h3⟩
      have HTN := Lib.hid hTN; have HTy := Lib.hid hTy; have HRN := Lib.hid hRN; have HCN := Lib.hid hCN; have HCy := Lib.hid hCy
      clear hTN hTy hRN hCN hCy
      have hRD1 := fun W (h : UpI X2 W) => hRD (.slice (some ⟨g1, 0, none⟩) k cap2) W ⟨u1.up.trans (u2.up.trans h.up)⟩ (RowOf.up HPre.out (u2.up.trans h.up))
      haveI : UpI w X2 := ⟨uX.up.trans (u1.up.trans u2.up)⟩
      have hRR1 := fun W (h : UpI X2 W) => hRR (.slice p k cap) W (RowOf.up HRL.out ((upI : Up w X2).trans h.up))
      clear hRD hRR
      go_upto_region 13 with (go_at_call 25; (with_reducible refine (hTx _ inferInstance).mono ?_); rintro e w' ⟨q14, c14, rfl, h14, z14, rfl⟩)
      go_upto_region 14 with (go_at_call 26; (with_reducible refine (hRD1 _ inferInstance).mono ?_); rintro e w' ⟨q16, c16, rfl, h16, z16, rfl⟩)
      go_upto_region 15 with (go_at_call 27; (with_reducible refine (hRR1 _ inferInstance).mono ?_); rintro e w' ⟨q19, c19, rfl, h19, z19, rfl⟩)
      go_upto_region 16 with (go_at_call 8; (with_reducible refine (hDf _ inferInstance).mono ?_); rintro e w' ⟨q22, c22, rfl, h22, z22, rfl⟩)
      refine wp_letter (fun W => UpI X2 W ∧ StrRow W (.slice q14 TN c14) TL ∧ LnRow W (.slice q16 RN c16) RL ∧ LnRow W (.slice q19 RN c19) RL ∧ ChRow W (.slice q22 CN c22) CL) ⟨inferInstance, RowOf.up h14 (upI : Up z14.w z22.w), RowOf.up h16 (upI : Up z16.w z22.w), RowOf.up h19 (upI : Up z19.w z22.w), h22⟩ ?_
      clear h14 h16 h19 h22 hTx hRD1 hRR1 hDf HPre
      rintro V ⟨uV, h14, h16, h19, h22⟩
      haveI := uV
      haveI : UpI X1 V := ⟨u2.up.trans uV.up⟩
      haveI : UpI X V := ⟨u1.up.trans (u2.up.trans uV.up)⟩
      haveI : UpI w V := ⟨uX.up.trans (upI : Up X V)⟩
      have H14 := Lib.hid h14; have H22 := Lib.hid h22
      have hO1 := fun W (h : UpI V W) => (dordered_any a _ W (RowOf.up HP.out ((upI : Up X V).trans h.up)) Hba.out (Nat.le_trans HAk.out (by decide))).cast (by rw [HOA.out])
      have hO2 := fun W (h : UpI V W) => (rordered_any a _ W (RowOf.up HX.out (uV.up.trans h.up)) Hba.out (Nat.le_trans HAk.out (by decide))).cast (by rw [HOA.out])
      have hO3 := fun W (h : UpI V W) => (rordered_any b _ W (RowOf.up HY.out (uV.up.trans h.up)) Hbb.out (Nat.le_trans HBk.out (by decide))).cast (by rw [HOB.out])
      have hE := fun W (h : UpI V W) => (equals_any RL RL _ _ W (RowOf.up h16 h.up) (RowOf.up h19 h.up) hRk hRk).cast (by rw [beq_self_eq_true])
      have hS1 := fun W (h : UpI V W) => (dsame_any a a _ _ W (RowOf.up HP.out ((upI : Up X V).trans h.up)) (RowOf.up HRA.out ((upI : Up w V).trans h.up)) HAk.out HAk.out).cast (by rw [beq_self_eq_true])
      have hS2 := fun W (h : UpI V W) => (dsame_any b b _ _ W (RowOf.up HQ.out ((upI : Up X V).trans h.up)) (RowOf.up HRB.out ((upI : Up w V).trans h.up)) HBk.out HBk.out).cast (by rw [beq_self_eq_true])
      have hKt := fun W (h : UpI V W) => kept_any l _ g1 cap2 k W HN.out (HRL.out.up ((upI : Up w V).trans h.up)) (HOw.out.up ((upI : Up X1 V).trans h.up)) hcap2 HNk.out
      clear h14 h16 h19 h22 hRk
      go_upto_region 18 with (first
        | (go_at_call 21; (with_reducible refine (hO1 _ inferInstance).mono ?_); rintro e w' ⟨rfl, s1, rfl⟩)
        | (go_at_call 28; (with_reducible refine (hO2 _ inferInstance).mono ?_); rintro e w' ⟨rfl, s2, rfl⟩)
        | (go_at_call 29; (with_reducible refine (hE _ inferInstance).mono ?_); rintro e w' ⟨rfl, s3, rfl⟩)
        | (go_at_call 30; (with_reducible refine (hS1 _ inferInstance).mono ?_); rintro e w' ⟨rfl, s4, rfl⟩)
        | (go_at_call 30; (with_reducible refine (hS2 _ inferInstance).mono ?_); rintro e w' ⟨rfl, s5, rfl⟩)
        | (go_at_call 31; (with_reducible refine (hKt _ inferInstance).mono ?_); rintro e w' ⟨rfl, s6, rfl⟩))
      refine wp_letter (fun W => UpI V W) inferInstance ?_
      intro V2 uV2
      haveI := uV2
      haveI : UpI w V2 := ⟨(upI : Up w V).trans uV2.up⟩
      clear hE hS1 hS2 hKt hO1 HOw HNA HNB HNO
      have hCNb : CN ≤ 1000 := by
        rw [← HCN.out]
        have h := HCy.out
        split at h
        · rw [h.1]; exact Nat.le_trans (diffL_len a b) (by rw [HA.out, HB.out]; omega)
        · rw [HCN.out, h.1]; exact Nat.zero_le _
      cases OA
      case false =>
        obtain ⟨rfl, rfl⟩ : TN = 0 ∧ ET = 383 := by have h := HTy.out; rwa [if_neg (by decide)] at h
        obtain ⟨rfl, rfl⟩ : CN = 0 ∧ EC = 383 := by have h := HCy.out; rwa [if_neg (by simp)] at h
        go_wp2_with (go_at_call 28; (with_reducible refine (hO2 _ (UpI.trans' uV2 inferInstance)).mono ?_); rintro e w' ⟨rfl, s7, rfl⟩)
        go_ret
        exact ⟨rfl, mkI⟩
      case true =>
        obtain ⟨rfl, hTA, rfl⟩ : TL = a.map Ln.text ∧ TN = A ∧ ET = 0 := by have h := HTy.out; rwa [if_pos rfl] at h
        obtain rfl : A = TN := hTA.symm
        clear HTN HTy
        go_wp2_with (go_at_call 28; (with_reducible refine (hO2 _ (UpI.trans' uV2 inferInstance)).mono ?_); rintro e w' ⟨rfl, s7, rfl⟩)
        go_loopw [154] (fun i wr => ∃ j : Nat, j ≤ A ∧ i = .int .i64 (j : Int) ∧ Up V wr) (fun i _ => A - (intOf i).toNat)
        case atStart => exact ⟨0, Nat.zero_le _, rfl, (upI : Up V V2).trans upI⟩
        case round =>
          obtain ⟨j, hj, rfl, hu⟩ := hrel
          haveI : UpI V wr := ⟨hu⟩
          by_cases hlt : j < A
          · have hlt' : (j : Int) < (A : Int) := by omega
            have j0 : (0 : Int) ≤ (j : Int) := by omega
            obtain ⟨y, hy⟩ : ∃ y, a[j]? = some y := ⟨_, List.getElem?_eq_getElem (by rw [HA.out]; exact hlt)⟩
            obtain ⟨p14, d14, e14, l14, k14⟩ := H14.out
            rw [List.length_map, HA.out] at e14 l14
            simp only [Value.slice.injEq, true_and] at e14
            obtain ⟨rfl, rfl⟩ := e14
            obtain ⟨b14, o14, rfl, hb14, hc14⟩ := k14 j y.text (by rw [List.getElem?_map, hy]; rfl)
            have d0 := hu.cell_some (hc14 0 _ rfl)
            rw [Nat.add_zero, Nat.mul_one] at d0
            haveI : LtSize b14 wr := ⟨Nat.lt_of_lt_of_le hb14 hu.size⟩
            obtain ⟨p12', d12, e12, l12, k12⟩ := HX.out
            rw [HA.out] at e12 l12
            simp only [Value.slice.injEq, true_and] at e12
            obtain ⟨rfl, rfl⟩ := e12
            obtain ⟨b12, o12, rfl, hb12, hc12⟩ := k12 j y hy
            have hXr : wr.rangeAt b12 (o12 + j * 11) y.cells := fun t u ht => ((upI : Up X2 V).trans hu).cell_some (hc12 t u ht)
            haveI : LtSize b12 wr := ⟨Nat.lt_of_lt_of_le hb12 ((upI : Up X2 V).trans hu).size⟩
            have hTxt := fun W => rtext38_any y W (Hba.out y (List.mem_of_getElem? hy)) (ordered_right HOA.out (List.mem_of_getElem? hy))
            obtain ⟨T, hT⟩ : ∃ T : ByteArray, (⟨y.text.toArray⟩ : ByteArray) = T := ⟨_, rfl⟩
            rw [hT] at hTxt d0
            unfold Ln.val at hTxt
            clear hT k14 hc14 k12 hc12 hy H14 HX hO2 hO3
            go_wp2_with fail
            (try go_frame)
            refine wp_region_ext (by kernel_rfl) (by kernel_rfl) ?_
            repeat (first
              | go_big_quiet_skip
              | ((with_reducible refine held ?_); refine HQ_load_mid (by kernel_rfl) 60 _ rfl b12 (o12 + j * 11) rfl y.cells _ (range_ext hXr) Tryz.underlying60 rfl rlnSize ?_; simp only [Act.put, List.setIfInBounds_toArray, List.set_cons_succ, List.set_cons_zero])
              | go_big_quiet_step (first | (go_at_call 20; exact (hTxt _).ext)))
            refine wpQuiet_nil ?_
            rintro _ ⟨z25, rfl⟩
            go_wp2_with fail
            go_roundw
            case rel => exact ⟨j + 1, Nat.succ_le_of_lt hlt, by go_num, upI⟩
            case measure => simp [intOf]; omega
          · obtain rfl : j = A := by omega
            clear hj hlt H14
            haveI : UpI w wr := ⟨(upI : Up w V).trans hu⟩
            have hO3' := fun W (h : UpI wr W) => hO3 W ⟨hu.trans h.up⟩
            clear hO2 hO3
            cases OB
            case false =>
              obtain ⟨rfl, rfl⟩ : CN = 0 ∧ EC = 383 := by have h := HCy.out; rwa [if_neg (by simp)] at h
              go_wp2_with (go_at_call 28; (with_reducible refine (hO3' _ inferInstance).mono ?_); rintro e w' ⟨rfl, s8, rfl⟩)
              go_ret
              exact ⟨rfl, mkI⟩
            case true =>
              obtain ⟨hCL, rfl⟩ : CL = diffL a b ∧ EC = 0 := by have h := HCy.out; rwa [if_pos (by simp)] at h
              have hRf : ∀ W, UpI wr W → Calls Tryz.prog 32 #[.slice p12 j c12, .slice p13 B c13] W fun e w' => ∃ q c, e = .returned (.slice q CN c) ∧ ChRow w' (.slice q CN c) CL ∧ ∃ x : Ext W, w' = x.w := fun W h =>
                (rdiff_any a b _ _ W (RowOf.up HX.out ((upI : Up X2 V).trans (hu.trans h.up))) (RowOf.up HY.out ((upI : Up X2 V).trans (hu.trans h.up))) Hba.out Hbb.out (by rw [HA.out]; exact Nat.le_trans hA40 (by decide)) (by rw [HB.out]; exact Nat.le_trans hB40 (by decide))).mono fun e w' ⟨u, h1, h2, h3⟩ => by
                  rw [refDiff_eq a b HOA.out HOB.out, ← hCL] at h2
                  have h4 : ChRow w' u CL := RowOf.of_owns Ch.cells_length h2
                  have h5 := h4
                  obtain ⟨q, c, rfl, _⟩ := h5
                  rw [HCN.out] at h1 h4
                  exact ⟨q, c, h1, h4, h3⟩
              have HCL2 := Lib.hid hCL
              clear hCL HCy
              go_wp2_with (first
                | (go_at_call 28; (with_reducible refine (hO3' _ inferInstance).mono ?_); rintro e w' ⟨rfl, s8, rfl⟩)
                | (go_at_call 32; (with_reducible refine (hRf _ inferInstance).mono ?_); rintro e w' ⟨q25, c25, rfl, h25, s9, rfl⟩))
              refine wp_letter (fun W => UpI V W ∧ ChRow W (.slice q25 CN c25) CL) ⟨⟨hu.trans upI⟩, h25⟩ ?_
              clear h25 hRf hO3'
              rintro Z ⟨uZ, h25⟩
              haveI := uZ
              have H25 := Lib.hid h25
              clear h25
              go_loopw [192] (fun i wr => ∃ t : Nat, t ≤ CN ∧ i = .int .i64 (t : Int) ∧ Up Z wr) (fun i _ => CN - (intOf i).toNat)
              case atStart => exact ⟨0, Nat.zero_le _, rfl, Up.refl _⟩
              case round =>
                obtain ⟨t, ht, rfl, hu2⟩ := hrel
                haveI : UpI Z wr := ⟨hu2⟩
                by_cases hlt : t < CN
                · have hlt' : (t : Int) < (CN : Int) := by omega
                  have t0 : (0 : Int) ≤ (t : Int) := by omega
                  obtain ⟨d, hd⟩ : ∃ d, CL[t]? = some d := ⟨_, List.getElem?_eq_getElem (by rw [HCN.out]; exact hlt)⟩
                  obtain ⟨p22', d22, e22, l22, k22⟩ := H22.out
                  rw [HCN.out] at e22 l22
                  simp only [Value.slice.injEq, true_and] at e22
                  obtain ⟨rfl, rfl⟩ := e22
                  obtain ⟨b22, o22, rfl, hb22, hc22⟩ := k22 t d hd
                  obtain ⟨p25', d25, e25, l25, k25⟩ := H25.out
                  rw [HCN.out] at e25 l25
                  simp only [Value.slice.injEq, true_and] at e25
                  obtain ⟨rfl, rfl⟩ := e25
                  obtain ⟨b25, o25, rfl, hb25, hc25⟩ := k25 t d hd
                  have hC : wr.rangeAt b22 (o22 + t * 23) d.cells := fun i u hi => (uZ.up.trans hu2).cell_some (hc22 i u hi)
                  have hD : wr.rangeAt b25 (o25 + t * 23) d.cells := fun i u hi => hu2.cell_some (hc25 i u hi)
                  haveI : LtSize b22 wr := ⟨Nat.lt_of_lt_of_le hb22 (uZ.up.trans hu2).size⟩
                  haveI : LtSize b25 wr := ⟨Nat.lt_of_lt_of_le hb25 hu2.size⟩
                  have c0 := hC 0 _ rfl
                  have d0 := hD 0 _ rfl
                  rw [Nat.add_zero] at c0 d0
                  have hCo := ch_old hC
                  have hCn := ch_new hC
                  have hDo := ch_old hD
                  have hDn := ch_new hD
                  clear hc22 hc25 k22 k25 hd hC hD H22 H25
                  go_wp2_with fail
                  (try go_frame)
                  refine wp_region_ext (by kernel_rfl) (by kernel_rfl) ?_
                  repeat (first
                    | go_big_quiet_skip
                    | ((with_reducible refine held ?_); refine HQ_load_mid (by kernel_rfl) 31 _ rfl b22 (o22 + t * 23 + 1) rfl d.old.cells _ (range_ext hCo) Tryz.underlying31 rfl lnSize ?_; simp only [Act.put, List.setIfInBounds_toArray, List.set_cons_succ, List.set_cons_zero])
                    | ((with_reducible refine held ?_); refine HQ_load_mid (by kernel_rfl) 31 _ rfl b22 (o22 + t * 23 + 12) rfl d.new.cells _ (range_ext hCn) Tryz.underlying31 rfl lnSize ?_; simp only [Act.put, List.setIfInBounds_toArray, List.set_cons_succ, List.set_cons_zero])
                    | ((with_reducible refine held ?_); refine HQ_load_mid (by kernel_rfl) 60 _ rfl b25 (o25 + t * 23 + 1) rfl d.old.cells _ (range_ext hDo) Tryz.underlying60 rfl rlnSize ?_; simp only [Act.put, List.setIfInBounds_toArray, List.set_cons_succ, List.set_cons_zero])
                    | ((with_reducible refine held ?_); refine HQ_load_mid (by kernel_rfl) 60 _ rfl b25 (o25 + t * 23 + 12) rfl d.new.cells _ (range_ext hDn) Tryz.underlying60 rfl rlnSize ?_; simp only [Act.put, List.setIfInBounds_toArray, List.set_cons_succ, List.set_cons_zero])
                    | go_big_quiet_step (fail))
                  refine wpQuiet_nil ?_
                  rintro _ ⟨z36, rfl⟩
                  go_wp2_with fail
                  go_roundw
                  case rel => exact ⟨t + 1, Nat.succ_le_of_lt hlt, by go_num, upI⟩
                  case measure => simp [intOf]; omega
                · obtain rfl : t = CN := by omega
                  haveI : UpI w wr := ⟨(upI : Up w V).trans (uZ.up.trans hu2)⟩
                  go_wp2_with fail
                  go_ret
                  exact ⟨rfl, mkI⟩
end Go.Proofs.YtlbbepgfjigjpaaGreatDoor
