/- SpanBack, walked: its first part. -/
import Derived.Test.YtgfkcbflnkpogaaGreatDoorSpBk
import Derived.Test.YtgfkcbflnkpogaaGreatDoorRowPut2
import Derived.Deep.CutBlock
import Derived.Deep.DeepCutAuto
set_option linter.unusedSimpArgs false
set_option linter.unusedVariables false
namespace Go.Ab
open Go.RowKit
end Go.Ab
namespace Go.Proofs.YtgfkcbflnkpogaaGreatDoor
open Go.RowKit Go.Ab
attribute [local go_sem high] wrapI64 wrapK64
theorem read_row (t : List UInt8) (s : List Sp) (h : readS t = some s) (w : World) (g : Good w) (hs : t.length < 4294967281) : GivesL 28 #[.string ⟨t.toArray⟩] w s := by
  by_cases ht : t = []
  · subst ht
    obtain rfl : s = [] := by
      unfold readS at h; rw [if_pos rfl] at h; cases h; rfl
    exact (spread_empty w).mono fun e w' ⟨he, hx⟩ => ⟨none, 0, he, Lib.hid (RowOf.nil _), hx⟩
  · exact (spread_some t ht w g hs).mono fun e w' ⟨h1, h2⟩ => by
      unfold ReadPost at h1
      rw [h] at h1
      obtain ⟨u, he, ho⟩ := h1
      obtain ⟨p, c, rfl⟩ := owns_sliceN ho
      exact ⟨p, c, he, Lib.hid (sp_row ho), h2⟩
theorem read_none (t : List UInt8) (h : readS t = none) (w : World) (g : Good w) (hs : t.length < 4294967281) : Gives Tryz.prog 28 #[.string ⟨t.toArray⟩] w (.tuple #[.slice none 0 0, .int .i64 40]) := by
  have ht : t ≠ [] := by rintro rfl; unfold readS at h; rw [if_pos rfl] at h; cases h
  exact (spread_some t ht w g hs).mono fun e w' ⟨h1, h2⟩ => by
    unfold ReadPost at h1
    rw [h] at h1
    exact ⟨h1, h2⟩
theorem prefixes_row (s : List Sp) (v : Value) (w : World) (hv : SpRow w v s) (hb : ∀ x ∈ s, SpB x) (hr : rightS s = true) (hl : s.length ≤ 4096) :
    Calls Tryz.prog 20 #[v] w fun e w' => ∃ p c, e = .returned (.tuple #[.slice p (prefixesL s).length c, .int .i64 0]) ∧ Hid (PfRow w' (.slice p (prefixesL s).length c) (prefixesL s)) ∧ ∃ x : Ext w, w' = x.w :=
  (spprefixes_yes s v w hv hb hr hl).mono fun e w' ⟨u, he, ho, hx⟩ => by
    obtain ⟨p, c, rfl⟩ := owns_sliceN ho
    exact ⟨p, c, he, Lib.hid (RowOf.of_owns (cells := pfCells) (k := 2) pfCells_length ho), hx⟩
theorem mixed_row {W : World} {base M j : Nat} {v : Value} {a L : List Sp} {x : Sp} (h : W.ownsRow base 39 2 v L.length (L.flatMap spCells)) (hL : L = mixedL a j x) (hM : a.length = M) : ∃ p c, v = .slice p (M + 1) c ∧ Hid (SpRow W (.slice p (M + 1) c) (mixedL a j x)) := by
  subst hL
  obtain ⟨p, c, rfl⟩ := owns_sliceN h
  have h2 := sp_row h
  rw [mixed_len, hM] at h2
  exact ⟨p, c, by rw [mixed_len, hM], Lib.hid h2⟩
set_option maxHeartbeats 64000000 in
set_option maxRecDepth 100000 in
theorem sback_any (l : List SPc) (t : List UInt8) (by_ : Int) (vl : Value) (w : World) (g : Good w) (rl : PcRow w vl l) (bl : ∀ x ∈ l, SPcB x) (ll : l.length ≤ 9223372036854775807) (b0 : 0 ≤ by_) (b1 : by_ < 256) :
    Gives Tryz.prog 9 #[vl, .string ⟨t.toArray⟩, .int .u8 by_] w (.bool true) := by
  have m1 := fun (W : World) (u : UpI w W) => made_row l vl W (rl.up u.up) bl ll
  have ha := RS.made bl
  obtain ⟨pl, cl, hvl, _⟩ := rl
  have Hvl := Lib.hid hvl
  clear bl hvl
  generalize madeS l = a at *
  have Ha := Lib.hid ha
  have la := ha.l
  have c1 := fun (v : Value) (W : World) (g : Good W) (h : SpRow W v a) => sptext_yes a v W g h ha.b ha.r (by omega)
  have c2 := fun (W : World) (g : Good W) => read_row (textS a) a (span_read_text ha.r ha.b (by omega)) W g (by have := textS_length a ha.b; omega)
  have c3 := fun (v : Value) (W : World) (h : SpRow W v a) => prefixes_row a v W h ha.b ha.r (by omega)
  have c4 := fun (v : Value) (W : World) (h : PfRow W v (prefixesL a)) => ofprefixes_yes (prefixesL a) v W h (fun p hp => (prefixes_ok (rF_le ha.r) ha.b p hp).1) (fun p hp => (prefixes_ok (rF_le ha.r) ha.b p hp).2.1) (by have := prefixesL_len ha.b (rF_le ha.r); omega)
  rw [prefixes_back ha.r ha.b (fun p hp => ⟨(prefixes_ok (rF_le ha.r) ha.b p hp).1, (prefixes_ok (rF_le ha.r) ha.b p hp).2.1⟩)] at c4
  have s1 := fun (v u : Value) (W : World) (h : SpRow W v a) (k : SpRow W u a) => same_yes a v u W h k (by omega)
  have s2 := s1
  clear ha
  unfold Gives
  go_enter Tryz.func9, Tryz.ntmps9
  go_wp2_with (first
    | (go_at_call 11; refine (spawake_any _ g).mono ?_; rintro e w' ⟨rfl, x0, rfl⟩)
    | (go_at_call 12; (with_reducible refine (m1 x0.w inferInstance).mono ?_); clear m1; rintro e w' ⟨pa, ca, rfl, Ra, xa, rfl⟩)
    | (go_at_call 21; refine (c1 _ xa.w (g.up upI) Ra.out).mono ?_; clear c1; rintro e w' ⟨rfl, xt, rfl⟩)
    | (go_at_call 28; (with_reducible refine Calls.mono (c2 xt.w (g.up upI)) ?_); clear c2; rintro e w' ⟨pr, cr, rfl, Rr, xr, rfl⟩)
    | (go_at_call 20; (with_reducible refine Calls.mono (c3 _ xr.w (Ra.out.up upI)) ?_); clear c3; rintro e w' ⟨pp, cp, rfl, Rp, xp, rfl⟩)
    | (go_at_call 29; (with_reducible refine Calls.mono (c4 _ xp.w Rp.out) ?_); clear c4; rintro e w' ⟨pg, cg, rfl, Rg, xg, rfl⟩)
    | (go_at_call 26; refine (s1 _ _ xg.w (Rr.out.up upI) (Ra.out.up upI)).mono ?_; clear s1; rintro e w' ⟨rfl, xs1, rfl⟩)
    | (go_at_call 26; refine (s2 _ _ xs1.w (Rg.out.up upI) (Ra.out.up upI)).mono ?_; clear s2; rintro e w' ⟨rfl, xs2, rfl⟩))
  have HP := Lib.hid (show ∀ k x, (prefixesL a)[k]? = some x → ∃ b o, pp = some ⟨b, o, none⟩ ∧ b < xs2.w.heap.size ∧ xs2.w.cell? ⟨b, o + k * 2, none⟩ = some (.int .u32 x.1) ∧ xs2.w.cell? ⟨b, o + k * 2 + 1, none⟩ = some (.int .u8 x.2) by
    obtain ⟨p, c, he, _, hc⟩ := Rp.out.up (upI : Up xp.w xs2.w)
    simp only [Value.slice.injEq, true_and] at he
    obtain ⟨rfl, rfl⟩ := he
    intro k x hx
    obtain ⟨b, o, hp, hb, h⟩ := hc k x hx
    exact ⟨b, o, hp, hb, h 0 _ rfl, h 1 _ rfl⟩)
  obtain ⟨N, hN⟩ : ∃ N, (prefixesL a).length = N := ⟨_, rfl⟩
  have hNb : N ≤ 2480 := by have := prefixesL_len Ha.out.b (rF_le Ha.out.r); omega
  have HN := Lib.hid hN
  have RA := Lib.hid (Ra.out.up (upI : Up xa.w xs2.w))
  have HX := Lib.hid (show Up w xs2.w from upI)
  rw [hN]
  clear Rp Rr Rg Ra hN
  go_loopw [76] (fun i Wm => ∃ (k : Nat), k ≤ N ∧ i = .int .i64 (k : Int) ∧ Up xs2.w Wm) (fun i _ => N - (intOf i).toNat)
  case atStart => exact ⟨0, Nat.zero_le _, rfl, Up.refl _⟩
  case round =>
    obtain ⟨k, hk, rfl, hup⟩ := hrel
    haveI : UpI xs2.w wr := ⟨hup⟩
    haveI : UpI w wr := ⟨HX.out.trans hup⟩
    by_cases hlt : k < N
    · have hlt' : (k : Int) < (N : Int) := by omega
      have k0 : (0 : Int) ≤ (k : Int) := by omega
      obtain ⟨x, hx⟩ : ∃ x, (prefixesL a)[k]? = some x := ⟨_, List.getElem?_eq_getElem (by rw [HN.out]; exact hlt)⟩
      obtain ⟨b, o, rfl, hb, q0, q1⟩ := HP.out k x hx
      have d0 := hup.cell_some q0
      have d1 := hup.cell_some q1
      haveI : LtSize b wr := ⟨Nat.lt_of_lt_of_le hb hup.size⟩
      obtain ⟨hxb, hxr, _⟩ := prefixes_ok (rF_le Ha.out.r) Ha.out.b x (List.mem_of_getElem? hx)
      have hin := prefix_within Ha.out.r Ha.out.b (List.mem_of_getElem? hx)
      have hbd := fun (W : World) => (bounds_any x.1 x.2 W hxb.n0 hxb.a0 hxb.a1).cast (v := .tuple #[.int .u32 (boundS x).1, .int .u32 (boundS x).2, .int .i64 0]) (by rw [if_pos hxr]; rfl)
      have hsz := sz_pos x.2
      have hr1 : rightS [boundS x] = true := rF_cons.2 ⟨hxb.a0, by unfold boundS; simp only; omega, rfl⟩
      have hwi := fun (W X : World) (hX : X = W.alloc (.cells #[.int .u32 (boundS x).1, .int .u32 (boundS x).2] 39)) (u : UpI xs2.w X) => (spwithin_yes [boundS x] a (.slice (some ⟨W.heap.size, 0, none⟩) 1 1) (.slice pa a.length ca) X (hX ▸ one_row W (boundS x)) (RA.out.up u.up) hr1 Ha.out.r (fun y hy => by rw [List.mem_singleton.1 hy]; exact boundS_b hxb hxr) Ha.out.b (by simp) (by omega)).cast (v := .tuple #[.bool true, .int .i64 0]) (by rw [hin]; simp)
      have Hx := Lib.hid hx
      clear q0 q1 hx hxb hxr hin hsz hr1
      generalize boundS x = y at *
      go_wp2_with (first
        | (go_at_call 30; refine (hbd _).mono ?_; clear hbd; rintro e w' ⟨rfl, y1, rfl⟩)
        | (go_at_call 19; refine (hwi _ _ rfl inferInstance).mono ?_; clear hwi; rintro e w' ⟨rfl, y2, rfl⟩))
      cases k with
      | zero =>
        go_region
        all_goals go_wp2_with fail
        go_roundw
        case rel => exact ⟨1, by omega, by go_num, upI⟩
        case measure => simp [intOf]; omega
      | succ j =>
        obtain ⟨z, hz⟩ : ∃ z, (prefixesL a)[j]? = some z := ⟨_, List.getElem?_eq_getElem (by rw [HN.out]; omega)⟩
        obtain ⟨b', o', hb', _, q0, _⟩ := HP.out j z hz
        simp only [Option.some.injEq, Addr.mk.injEq, and_true] at hb'
        obtain ⟨rfl, rfl⟩ := hb'
        have e0 := (upI : Up xs2.w y2.w).cell_some q0
        have hlt2 := prefixes_lt Ha.out.r hz Hx.out
        have t1 : decide (x.1 ≤ z.1) = false := decide_eq_false (by omega)
        have t2 : decide ((0 : Int) < (j : Int) + 1) = true := decide_eq_true (by omega)
        have j0 : (0 : Int) ≤ (j : Int) := by omega
        have jN : (j : Int) < (N : Int) := by omega
        have hj1 : (j : Int) + 1 - 1 = (j : Int) := by omega
        haveI : In64 (j : Int) := ⟨by omega⟩
        haveI : In64 ((j : Int) + 1 - 1) := ⟨by omega⟩
        clear hlt2 hz q0
        go_region
        all_goals go_wp2_with fail
        go_roundw
        case rel => exact ⟨j + 1 + 1, by omega, by go_num, upI⟩
        case measure => simp [intOf]; omega
    · obtain rfl : k = N := by omega
      have hN0 : ¬ ((k : Int) < (k : Int)) := by omega
      clear HP HN
      by_cases ha0 : a = []
      · have hz0 : decide ((0 : Int) < (a.length : Int)) = false := by rw [ha0]; rfl
        by_cases ht : 1000 < t.length
        · have ht1 : (1000 : Int) < (t.length : Int) := by omega
          go_wp2_with fail
          go_ret
          exact ⟨rfl, mkI⟩
        · have ht1 : ¬ (1000 : Int) < (t.length : Int) := by omega
          cases hr : readS t with
          | none =>
            have cN := fun (W : World) (g : Good W) => read_none t hr W g (by omega)
            clear hr
            go_wp2_with (go_at_call 28; refine (cN _ (g.up upI)).mono ?_; clear cN; rintro e w' ⟨rfl, z1, rfl⟩)
            go_ret
            exact ⟨rfl, mkI⟩
          | some s =>
            obtain ⟨e1, e2, e3, e4⟩ := span_read_some hr
            have cR := fun (W : World) (g : Good W) => read_row t s hr W g (by omega)
            have cT := fun (v : Value) (W : World) (g : Good W) (h : SpRow W v s) => sptext_yes s v W g h e4 e2 e3
            have cO := fun (v : Value) (W : World) (h : SpRow W v s) => (spright_any s v W h e4 (by omega)).cast (v := .bool true) (by rw [e2])
            rw [e1] at cT
            clear hr e1 e2 e3 e4
            go_wp2_with (first
              | (go_at_call 28; refine Calls.mono (cR _ (g.up upI)) ?_; clear cR; rintro e w' ⟨pq, cq, rfl, Rq, z1, rfl⟩)
              | (go_at_call 21; refine (cT _ z1.w (g.up upI) Rq.out).mono ?_; clear cT; rintro e w' ⟨rfl, z2, rfl⟩)
              | (go_at_call 23; refine (cO _ z2.w (Rq.out.up upI)).mono ?_; clear cO; rintro e w' ⟨rfl, z3, rfl⟩))
            all_goals first | (go_ret; exact ⟨rfl, mkI⟩) | skip
      · obtain ⟨M, hM⟩ : ∃ M, a.length = M := ⟨_, rfl⟩
        have hM0 : 0 < M := by have := List.length_pos_iff.2 ha0; omega
        have hz0 : decide ((0 : Int) < (M : Int)) = true := decide_eq_true (by omega)
        rw [hM]
        go_upto_region 20 with fail
        obtain ⟨j, hj⟩ : ∃ j : Nat, by_ % (M : Int) = (j : Int) := ⟨(by_ % (M : Int)).toNat, by have := Int.emod_nonneg by_ (show (M : Int) ≠ 0 by omega); omega⟩
        have hjM : j < M := by have := Int.emod_lt_of_pos by_ (show 0 < (M : Int) by omega); omega
        rw [hj]
        clear hj
        obtain ⟨x, hx⟩ : ∃ x, a[j]? = some x := ⟨_, List.getElem?_eq_getElem (by rw [hM]; exact hjM)⟩
        have ra := RA.out.up hup
        rw [hM] at ra
        have hle : M ≤ ca := by
          obtain ⟨_, _, he, h, _⟩ := ra
          simp only [Value.slice.injEq] at he
          obtain ⟨_, _, h3⟩ := he
          omega
        obtain ⟨b, o, rfl, hb, c0, c1⟩ := sp_at ra rfl hx
        haveI : LtSize b wr := ⟨hb⟩
        have HDR := Lib.hid (ra.drop j hM (by omega) (ca - j) (by omega))
        have HTR := Lib.hid (show SpRow wr (.slice (some ⟨b, o, none⟩) j ca) (a.take j) from RowOf.take (by rw [hM]; exact ra) j (by omega))
        have HLa := Lib.hid Ha.out.l
        have hcj : ¬ (ca = j) := by omega
        have hjc2 : ¬ ((j : Int) = (ca : Int)) := by omega
        have j0 : (0 : Int) ≤ (j : Int) := by omega
        have jM : (j : Int) < (M : Int) := by omega
        have jM' : (j : Int) ≤ (M : Int) := by omega
        have jc : (j : Int) ≤ (ca : Int) := by omega
        obtain ⟨i0, hi, hy0, hy1, hy2⟩ := info_parts infoSpan
        have Hi := Lib.hid hi; have Hy0 := Lib.hid hy0; have Hy1 := Lib.hid hy1; have Hy2 := Lib.hid hy2
        have HM := Lib.hid hM
        have Hx := Lib.hid hx
        clear hi hy0 hy1 hy2 ra hx hM
        have hmix : Tryz.prog.follows .mixedOrders = true := by kernel_rfl
        go_cut [24] (fun v wx => UpI wr wx ∧ ∃ p c, v = .slice p (M + 1) c ∧ Hid (SpRow wx (.slice p (M + 1) c) (mixedL a j x)))
        case first =>
          refine wp_region_turn hmix ?_
          refine any_take (i := 1) (v := ?v1) rfl (by kernel_rfl) (by kernel_rfl) (by kernel_rfl) (Or.inl ⟨by kernel_rfl, ?hy1⟩) ?rest1
          case hy1 => (intro w; go_simp; (try with_reducible rfl))
          (try simp only [Act.put, List.getElem_toArray, List.getElem_cons_succ, List.getElem_cons_zero, List.setIfInBounds_toArray, List.set_cons_succ, List.set_cons_zero])
          refine any_take (i := 2) (v := ?v2) rfl (by kernel_rfl) (by kernel_rfl) (by kernel_rfl) (Or.inl ⟨by kernel_rfl, ?hy2⟩) ?rest2
          case hy2 => (intro w; go_simp; (try with_reducible rfl))
          (try simp only [Act.put, List.getElem_toArray, List.getElem_cons_succ, List.getElem_cons_zero, List.setIfInBounds_toArray, List.set_cons_succ, List.set_cons_zero])
          refine any_take (i := 3) (v := ?v3) rfl (by kernel_rfl) (by kernel_rfl) (by kernel_rfl) (Or.inl ⟨by kernel_rfl, ?hy3⟩) ?rest3
          case hy3 => (intro w; go_simp; (try with_reducible rfl))
          (try simp only [Act.put, List.getElem_toArray, List.getElem_cons_succ, List.getElem_cons_zero, List.setIfInBounds_toArray, List.set_cons_succ, List.set_cons_zero])
          refine any_take (i := 5) (v := ?v4) rfl (by kernel_rfl) (by kernel_rfl) (by kernel_rfl) (Or.inl ⟨by kernel_rfl, ?hy4⟩) ?rest4
          case hy4 => (intro w; go_simp; (try with_reducible rfl))
          (try simp only [Act.put, List.getElem_toArray, List.getElem_cons_succ, List.getElem_cons_zero, List.setIfInBounds_toArray, List.set_cons_succ, List.set_cons_zero])
          refine any_take (i := 6) (v := ?v5) rfl (by kernel_rfl) (by kernel_rfl) (by kernel_rfl) (Or.inl ⟨by kernel_rfl, ?hy5⟩) ?rest5
          case hy5 => (intro w; go_simp; (try with_reducible rfl))
          (try simp only [Act.put, List.getElem_toArray, List.getElem_cons_succ, List.getElem_cons_zero, List.setIfInBounds_toArray, List.set_cons_succ, List.set_cons_zero])
          refine any_take (i := 7) (v := ?v6) rfl (by kernel_rfl) (by kernel_rfl) (by kernel_rfl) (Or.inl ⟨by kernel_rfl, ?hy6⟩) ?rest6
          case hy6 => (intro w; go_simp; (try with_reducible rfl))
          (try simp only [Act.put, List.getElem_toArray, List.getElem_cons_succ, List.getElem_cons_zero, List.setIfInBounds_toArray, List.set_cons_succ, List.set_cons_zero])
          refine any_take (i := 9) (v := ?v7) rfl (by kernel_rfl) (by kernel_rfl) (by kernel_rfl) (Or.inl ⟨by kernel_rfl, ?hy7⟩) ?rest7
          case hy7 => (intro w; go_simp; (try with_reducible rfl))
          (try simp only [Act.put, List.getElem_toArray, List.getElem_cons_succ, List.getElem_cons_zero, List.setIfInBounds_toArray, List.set_cons_succ, List.set_cons_zero])
          refine any_take (i := 10) (v := ?v8) rfl (by kernel_rfl) (by kernel_rfl) (by kernel_rfl) (Or.inl ⟨by kernel_rfl, ?hy8⟩) ?rest8
          case hy8 => (intro w; go_simp; (try with_reducible rfl))
          (try simp only [Act.put, List.getElem_toArray, List.getElem_cons_succ, List.getElem_cons_zero, List.setIfInBounds_toArray, List.set_cons_succ, List.set_cons_zero])
          refine any_take (i := 11) (v := ?v9) rfl (by kernel_rfl) (by kernel_rfl) (by kernel_rfl) (Or.inl ⟨by kernel_rfl, ?hy9⟩) ?rest9
          case hy9 => (intro w; go_simp; (try with_reducible rfl))
          (try simp only [Act.put, List.getElem_toArray, List.getElem_cons_succ, List.getElem_cons_zero, List.setIfInBounds_toArray, List.set_cons_succ, List.set_cons_zero])
          (try rw [if_neg hcj])
          have uV : Up wr wr.drew := (Up.refl _).drew
          generalize wr.drew = V at uV ⊢
          haveI : UpI wr V := ⟨uV⟩
          refine wpAny_ready (rs := [0, 12]) (by kernel_rfl) (by simp) ?_
          refine AllReady.cons rfl (fun K hK => ?_) ?_
          · skip
            go_simp
            refine hK _ _ ?_; clear hK K; (try simp only [Act.put, List.getElem_toArray, List.getElem_cons_succ, List.getElem_cons_zero, List.setIfInBounds_toArray, List.set_cons_succ, List.set_cons_zero])
            generalize hz : World.alloc V _ = Z2
            haveI : UpI V Z2 := ⟨hz ▸ (Up.refl V).alloc _⟩
            clear hz
            haveI : UpI wr Z2 := ⟨(upI : Up wr V).trans (upI : Up V Z2)⟩
            refine wpAny_ready (rs := [4, 12]) (by kernel_rfl) (by simp) ?_
            refine AllReady.cons rfl (fun K hK => ?_) ?_
            · skip
              refine step_append_first2 (cells := spCells) (k := 2) spCells_length sp_oneB (by decide) rfl _ _ 24 25 39 rfl Tryz.underlying25 39 i0 (.agg #[.int .u32 0, .int .u32 0]) 8 Tryz.underlying24 Hi.out Hy0.out Hy1.out Hy2.out rfl V.heap.size (by kernel_rfl) (a.drop j) ⟨b, o + j * 2, none⟩ (M - j) (ca - j) (by kernel_rfl) (HDR.out.up (upI : Up wr Z2)) (by rw [List.length_drop, HM.out]) (by omega) (by have := HLa.out; rw [HM.out] at this; unfold maxLen; omega) (by have := HLa.out; rw [HM.out] at this; omega) ?_
              intro v' Z3 hown' hgrow
              haveI : UpI Z2 Z3 := ⟨(Up.refl Z2).grown hgrow (fun k hk => by cases hk)⟩
              haveI : UpI wr Z3 := ⟨(upI : Up wr Z2).trans (upI : Up Z2 Z3)⟩
              have o4 := Lib.hid hown'
              clear hown' hgrow
              refine hK _ _ ?_; clear hK K; (try simp only [Act.put, List.getElem_toArray, List.getElem_cons_succ, List.getElem_cons_zero, List.setIfInBounds_toArray, List.set_cons_succ, List.set_cons_zero])
              refine wpAny_ready (rs := [8, 12]) (by kernel_rfl) (by simp) ?_
              refine AllReady.cons rfl (fun K hK => ?_) ?_
              · skip
                refine step_append_list2 (cells := spCells) (k := 2) spCells_length sp_oneB (by decide) rfl _ _ 24 25 39 rfl Tryz.underlying25 Z2.heap.size 39 i0 (.agg #[.int .u32 0, .int .u32 0]) 8 Tryz.underlying24 Hi.out Hy0.out Hy1.out Hy2.out rfl (a.drop j) _ (by kernel_rfl) o4.out (a.take j) _ (by kernel_rfl) (HTR.out.up (upI : Up wr Z3)) (by have := HLa.out; unfold maxLen; simp only [List.length_append, List.length_drop, List.length_take, List.length_nil, List.length_cons]; omega) (by have := HLa.out; simp only [List.length_append, List.length_drop, List.length_take, List.length_nil, List.length_cons]; omega) (upI : Up Z2 Z3).size ?_
                intro v' Z4 hown' hgrow
                haveI : UpI Z2 Z4 := ⟨(upI : Up Z2 Z3).grown hgrow (fun k hk => owns_row o4.out k hk)⟩
                haveI : UpI wr Z4 := ⟨(upI : Up wr Z2).trans (upI : Up Z2 Z4)⟩
                have o8 := Lib.hid hown'
                clear hown' hgrow
                refine hK _ _ ?_; clear hK K; (try simp only [Act.put, List.getElem_toArray, List.getElem_cons_succ, List.getElem_cons_zero, List.setIfInBounds_toArray, List.set_cons_succ, List.set_cons_zero])
                refine wpAny_ready (rs := [12]) (by kernel_rfl) (by simp) ?_
                refine AllReady.cons rfl (fun K hK => ?_) ?_
                · skip
                  have e0 := (upI : Up wr Z4).cell_some c0
                  have e1 := (upI : Up wr Z4).cell_some c1
                  go_simp
                  refine hK _ _ ?_; clear hK K; (try simp only [Act.put, List.getElem_toArray, List.getElem_cons_succ, List.getElem_cons_zero, List.setIfInBounds_toArray, List.set_cons_succ, List.set_cons_zero])
                  clear e0 e1
                  refine wpAny_ready (rs := [13]) (by kernel_rfl) (by simp) ?_
                  refine AllReady.cons rfl (fun K hK => ?_) ?_
                  · skip
                    go_simp
                    refine hK _ _ ?_; clear hK K; (try simp only [Act.put, List.getElem_toArray, List.getElem_cons_succ, List.getElem_cons_zero, List.setIfInBounds_toArray, List.set_cons_succ, List.set_cons_zero])
                    generalize hz : World.alloc Z4 _ = Z5
                    haveI : UpI Z4 Z5 := ⟨hz ▸ (Up.refl Z4).alloc _⟩
                    have q1 := Lib.hid (show SpRow Z5 (.slice (some ⟨Z4.heap.size, 0, none⟩) 1 1) [x] from hz ▸ one_rowA Z4 x _ rfl)
                    clear hz
                    haveI : UpI wr Z5 := ⟨(upI : Up wr Z4).trans (upI : Up Z4 Z5)⟩
                    haveI : UpI Z2 Z5 := ⟨(upI : Up Z2 Z4).trans (upI : Up Z4 Z5)⟩
                    have hlt := Lib.hid (fun k hk => owns_lt o8.out k hk)
                    have o8 := Lib.hid (owns_up o8.out (upI : Up Z4 Z5))
                    refine wpAny_ready (rs := [14]) (by kernel_rfl) (by simp) ?_
                    refine AllReady.cons rfl (fun K hK => ?_) ?_
                    · skip
                      refine step_append_list2 (cells := spCells) (k := 2) spCells_length sp_oneB (by decide) rfl _ _ 24 24 39 rfl Tryz.underlying24 Z2.heap.size 39 i0 (.agg #[.int .u32 0, .int .u32 0]) 8 Tryz.underlying24 Hi.out Hy0.out Hy1.out Hy2.out rfl (a.drop j ++ a.take j) _ (by kernel_rfl) o8.out [x] _ (by kernel_rfl) q1.out (by have := HLa.out; unfold maxLen; simp only [List.length_append, List.length_drop, List.length_take, List.length_nil, List.length_cons]; omega) (by have := HLa.out; simp only [List.length_append, List.length_drop, List.length_take, List.length_nil, List.length_cons]; omega) (upI : Up Z2 Z5).size ?_
                      intro v' Z6 hown' hgrow
                      haveI : UpI Z2 Z6 := ⟨(upI : Up Z2 Z5).grown hgrow (fun k hk => owns_row o8.out k hk)⟩
                      haveI : UpI wr Z6 := ⟨(upI : Up wr Z2).trans (upI : Up Z2 Z6)⟩
                      have o14 := Lib.hid hown'
                      clear hown' hgrow
                      refine hK _ _ ?_; clear hK K; (try simp only [Act.put, List.getElem_toArray, List.getElem_cons_succ, List.getElem_cons_zero, List.setIfInBounds_toArray, List.set_cons_succ, List.set_cons_zero])
                      refine any_take (i := 15) (v := ?v10) rfl (by kernel_rfl) (by kernel_rfl) (by kernel_rfl) (Or.inl ⟨by kernel_rfl, ?hy10⟩) ?rest10
                      case hy10 => (intro w; go_simp; (try with_reducible rfl))
                      (try simp only [Act.put, List.getElem_toArray, List.getElem_cons_succ, List.getElem_cons_zero, List.setIfInBounds_toArray, List.set_cons_succ, List.set_cons_zero])
                      refine wpAny_done (by kernel_rfl) ?_ _
                      refine ⟨rfl, ?_⟩
                      go_wp2_with fail
                      go_meet
                      exact ⟨inferInstance, mixed_row o14.out rfl HM.out⟩
                    exact AllReady.nil
                  exact AllReady.nil
                exact AllReady.nil
              refine AllReady.cons rfl (fun K hK => ?_) ?_
              · skip
                have e0 := (upI : Up wr Z3).cell_some c0
                have e1 := (upI : Up wr Z3).cell_some c1
                go_simp
                refine hK _ _ ?_; clear hK K; (try simp only [Act.put, List.getElem_toArray, List.getElem_cons_succ, List.getElem_cons_zero, List.setIfInBounds_toArray, List.set_cons_succ, List.set_cons_zero])
                clear e0 e1
                refine wpAny_ready (rs := [8, 13]) (by kernel_rfl) (by simp) ?_
                refine AllReady.cons rfl (fun K hK => ?_) ?_
                · skip
                  refine step_append_list2 (cells := spCells) (k := 2) spCells_length sp_oneB (by decide) rfl _ _ 24 25 39 rfl Tryz.underlying25 Z2.heap.size 39 i0 (.agg #[.int .u32 0, .int .u32 0]) 8 Tryz.underlying24 Hi.out Hy0.out Hy1.out Hy2.out rfl (a.drop j) _ (by kernel_rfl) o4.out (a.take j) _ (by kernel_rfl) (HTR.out.up (upI : Up wr Z3)) (by have := HLa.out; unfold maxLen; simp only [List.length_append, List.length_drop, List.length_take, List.length_nil, List.length_cons]; omega) (by have := HLa.out; simp only [List.length_append, List.length_drop, List.length_take, List.length_nil, List.length_cons]; omega) (upI : Up Z2 Z3).size ?_
                  intro v' Z4 hown' hgrow
                  haveI : UpI Z2 Z4 := ⟨(upI : Up Z2 Z3).grown hgrow (fun k hk => owns_row o4.out k hk)⟩
                  haveI : UpI wr Z4 := ⟨(upI : Up wr Z2).trans (upI : Up Z2 Z4)⟩
                  have o8 := Lib.hid hown'
                  clear hown' hgrow
                  refine hK _ _ ?_; clear hK K; (try simp only [Act.put, List.getElem_toArray, List.getElem_cons_succ, List.getElem_cons_zero, List.setIfInBounds_toArray, List.set_cons_succ, List.set_cons_zero])
                  refine wpAny_ready (rs := [13]) (by kernel_rfl) (by simp) ?_
                  refine AllReady.cons rfl (fun K hK => ?_) ?_
                  · skip
                    go_simp
                    refine hK _ _ ?_; clear hK K; (try simp only [Act.put, List.getElem_toArray, List.getElem_cons_succ, List.getElem_cons_zero, List.setIfInBounds_toArray, List.set_cons_succ, List.set_cons_zero])
                    generalize hz : World.alloc Z4 _ = Z5
                    haveI : UpI Z4 Z5 := ⟨hz ▸ (Up.refl Z4).alloc _⟩
                    have q1 := Lib.hid (show SpRow Z5 (.slice (some ⟨Z4.heap.size, 0, none⟩) 1 1) [x] from hz ▸ one_rowA Z4 x _ rfl)
                    clear hz
                    haveI : UpI wr Z5 := ⟨(upI : Up wr Z4).trans (upI : Up Z4 Z5)⟩
                    haveI : UpI Z2 Z5 := ⟨(upI : Up Z2 Z4).trans (upI : Up Z4 Z5)⟩
                    have hlt := Lib.hid (fun k hk => owns_lt o8.out k hk)
                    have o8 := Lib.hid (owns_up o8.out (upI : Up Z4 Z5))
                    refine wpAny_ready (rs := [14]) (by kernel_rfl) (by simp) ?_
                    refine AllReady.cons rfl (fun K hK => ?_) ?_
                    · skip
                      refine step_append_list2 (cells := spCells) (k := 2) spCells_length sp_oneB (by decide) rfl _ _ 24 24 39 rfl Tryz.underlying24 Z2.heap.size 39 i0 (.agg #[.int .u32 0, .int .u32 0]) 8 Tryz.underlying24 Hi.out Hy0.out Hy1.out Hy2.out rfl (a.drop j ++ a.take j) _ (by kernel_rfl) o8.out [x] _ (by kernel_rfl) q1.out (by have := HLa.out; unfold maxLen; simp only [List.length_append, List.length_drop, List.length_take, List.length_nil, List.length_cons]; omega) (by have := HLa.out; simp only [List.length_append, List.length_drop, List.length_take, List.length_nil, List.length_cons]; omega) (upI : Up Z2 Z5).size ?_
                      intro v' Z6 hown' hgrow
                      haveI : UpI Z2 Z6 := ⟨(upI : Up Z2 Z5).grown hgrow (fun k hk => owns_row o8.out k hk)⟩
                      haveI : UpI wr Z6 := ⟨(upI : Up wr Z2).trans (upI : Up Z2 Z6)⟩
                      have o14 := Lib.hid hown'
                      clear hown' hgrow
                      refine hK _ _ ?_; clear hK K; (try simp only [Act.put, List.getElem_toArray, List.getElem_cons_succ, List.getElem_cons_zero, List.setIfInBounds_toArray, List.set_cons_succ, List.set_cons_zero])
                      refine any_take (i := 15) (v := ?v11) rfl (by kernel_rfl) (by kernel_rfl) (by kernel_rfl) (Or.inl ⟨by kernel_rfl, ?hy11⟩) ?rest11
                      case hy11 => (intro w; go_simp; (try with_reducible rfl))
                      (try simp only [Act.put, List.getElem_toArray, List.getElem_cons_succ, List.getElem_cons_zero, List.setIfInBounds_toArray, List.set_cons_succ, List.set_cons_zero])
                      refine wpAny_done (by kernel_rfl) ?_ _
                      refine ⟨rfl, ?_⟩
                      go_wp2_with fail
                      go_meet
                      exact ⟨inferInstance, mixed_row o14.out rfl HM.out⟩
                    exact AllReady.nil
                  exact AllReady.nil
                refine AllReady.cons rfl (fun K hK => ?_) ?_
                · skip
                  go_simp
                  refine hK _ _ ?_; clear hK K; (try simp only [Act.put, List.getElem_toArray, List.getElem_cons_succ, List.getElem_cons_zero, List.setIfInBounds_toArray, List.set_cons_succ, List.set_cons_zero])
                  generalize hz : World.alloc Z3 _ = Z4
                  haveI : UpI Z3 Z4 := ⟨hz ▸ (Up.refl Z3).alloc _⟩
                  have q1 := Lib.hid (show SpRow Z4 (.slice (some ⟨Z3.heap.size, 0, none⟩) 1 1) [x] from hz ▸ one_rowA Z3 x _ rfl)
                  clear hz
                  haveI : UpI wr Z4 := ⟨(upI : Up wr Z3).trans (upI : Up Z3 Z4)⟩
                  haveI : UpI Z2 Z4 := ⟨(upI : Up Z2 Z3).trans (upI : Up Z3 Z4)⟩
                  have hlt := Lib.hid (fun k hk => owns_lt o4.out k hk)
                  have o4 := Lib.hid (owns_up o4.out (upI : Up Z3 Z4))
                  refine wpAny_ready (rs := [8]) (by kernel_rfl) (by simp) ?_
                  refine AllReady.cons rfl (fun K hK => ?_) ?_
                  · skip
                    refine step_append_list2 (cells := spCells) (k := 2) spCells_length sp_oneB (by decide) rfl _ _ 24 25 39 rfl Tryz.underlying25 Z2.heap.size 39 i0 (.agg #[.int .u32 0, .int .u32 0]) 8 Tryz.underlying24 Hi.out Hy0.out Hy1.out Hy2.out rfl (a.drop j) _ (by kernel_rfl) o4.out (a.take j) _ (by kernel_rfl) (HTR.out.up (upI : Up wr Z4)) (by have := HLa.out; unfold maxLen; simp only [List.length_append, List.length_drop, List.length_take, List.length_nil, List.length_cons]; omega) (by have := HLa.out; simp only [List.length_append, List.length_drop, List.length_take, List.length_nil, List.length_cons]; omega) (upI : Up Z2 Z4).size ?_
                    intro v' Z5 hown' hgrow
                    haveI : UpI Z2 Z5 := ⟨(upI : Up Z2 Z4).grown hgrow (fun k hk => owns_row o4.out k hk)⟩
                    haveI : UpI wr Z5 := ⟨(upI : Up wr Z2).trans (upI : Up Z2 Z5)⟩
                    have q1 := Lib.hid (row_grown hgrow (fun k hk => hlt.out k hk) q1.out)
                    have o8 := Lib.hid hown'
                    clear hown' hgrow
                    refine hK _ _ ?_; clear hK K; (try simp only [Act.put, List.getElem_toArray, List.getElem_cons_succ, List.getElem_cons_zero, List.setIfInBounds_toArray, List.set_cons_succ, List.set_cons_zero])
                    refine wpAny_ready (rs := [14]) (by kernel_rfl) (by simp) ?_
                    refine AllReady.cons rfl (fun K hK => ?_) ?_
                    · skip
                      refine step_append_list2 (cells := spCells) (k := 2) spCells_length sp_oneB (by decide) rfl _ _ 24 24 39 rfl Tryz.underlying24 Z2.heap.size 39 i0 (.agg #[.int .u32 0, .int .u32 0]) 8 Tryz.underlying24 Hi.out Hy0.out Hy1.out Hy2.out rfl (a.drop j ++ a.take j) _ (by kernel_rfl) o8.out [x] _ (by kernel_rfl) q1.out (by have := HLa.out; unfold maxLen; simp only [List.length_append, List.length_drop, List.length_take, List.length_nil, List.length_cons]; omega) (by have := HLa.out; simp only [List.length_append, List.length_drop, List.length_take, List.length_nil, List.length_cons]; omega) (upI : Up Z2 Z5).size ?_
                      intro v' Z6 hown' hgrow
                      haveI : UpI Z2 Z6 := ⟨(upI : Up Z2 Z5).grown hgrow (fun k hk => owns_row o8.out k hk)⟩
                      haveI : UpI wr Z6 := ⟨(upI : Up wr Z2).trans (upI : Up Z2 Z6)⟩
                      have o14 := Lib.hid hown'
                      clear hown' hgrow
                      refine hK _ _ ?_; clear hK K; (try simp only [Act.put, List.getElem_toArray, List.getElem_cons_succ, List.getElem_cons_zero, List.setIfInBounds_toArray, List.set_cons_succ, List.set_cons_zero])
                      refine any_take (i := 15) (v := ?v12) rfl (by kernel_rfl) (by kernel_rfl) (by kernel_rfl) (Or.inl ⟨by kernel_rfl, ?hy12⟩) ?rest12
                      case hy12 => (intro w; go_simp; (try with_reducible rfl))
                      (try simp only [Act.put, List.getElem_toArray, List.getElem_cons_succ, List.getElem_cons_zero, List.setIfInBounds_toArray, List.set_cons_succ, List.set_cons_zero])
                      refine wpAny_done (by kernel_rfl) ?_ _
                      refine ⟨rfl, ?_⟩
                      go_wp2_with fail
                      go_meet
                      exact ⟨inferInstance, mixed_row o14.out rfl HM.out⟩
                    exact AllReady.nil
                  exact AllReady.nil
                exact AllReady.nil
              exact AllReady.nil
            refine AllReady.cons rfl (fun K hK => ?_) ?_
            · skip
              have e0 := (upI : Up wr Z2).cell_some c0
              have e1 := (upI : Up wr Z2).cell_some c1
              go_simp
              refine hK _ _ ?_; clear hK K; (try simp only [Act.put, List.getElem_toArray, List.getElem_cons_succ, List.getElem_cons_zero, List.setIfInBounds_toArray, List.set_cons_succ, List.set_cons_zero])
              clear e0 e1
              refine wpAny_ready (rs := [4, 13]) (by kernel_rfl) (by simp) ?_
              refine AllReady.cons rfl (fun K hK => ?_) ?_
              · skip
                refine step_append_first2 (cells := spCells) (k := 2) spCells_length sp_oneB (by decide) rfl _ _ 24 25 39 rfl Tryz.underlying25 39 i0 (.agg #[.int .u32 0, .int .u32 0]) 8 Tryz.underlying24 Hi.out Hy0.out Hy1.out Hy2.out rfl V.heap.size (by kernel_rfl) (a.drop j) ⟨b, o + j * 2, none⟩ (M - j) (ca - j) (by kernel_rfl) (HDR.out.up (upI : Up wr Z2)) (by rw [List.length_drop, HM.out]) (by omega) (by have := HLa.out; rw [HM.out] at this; unfold maxLen; omega) (by have := HLa.out; rw [HM.out] at this; omega) ?_
                intro v' Z3 hown' hgrow
                haveI : UpI Z2 Z3 := ⟨(Up.refl Z2).grown hgrow (fun k hk => by cases hk)⟩
                haveI : UpI wr Z3 := ⟨(upI : Up wr Z2).trans (upI : Up Z2 Z3)⟩
                have o4 := Lib.hid hown'
                clear hown' hgrow
                refine hK _ _ ?_; clear hK K; (try simp only [Act.put, List.getElem_toArray, List.getElem_cons_succ, List.getElem_cons_zero, List.setIfInBounds_toArray, List.set_cons_succ, List.set_cons_zero])
                refine wpAny_ready (rs := [8, 13]) (by kernel_rfl) (by simp) ?_
                refine AllReady.cons rfl (fun K hK => ?_) ?_
                · skip
                  refine step_append_list2 (cells := spCells) (k := 2) spCells_length sp_oneB (by decide) rfl _ _ 24 25 39 rfl Tryz.underlying25 Z2.heap.size 39 i0 (.agg #[.int .u32 0, .int .u32 0]) 8 Tryz.underlying24 Hi.out Hy0.out Hy1.out Hy2.out rfl (a.drop j) _ (by kernel_rfl) o4.out (a.take j) _ (by kernel_rfl) (HTR.out.up (upI : Up wr Z3)) (by have := HLa.out; unfold maxLen; simp only [List.length_append, List.length_drop, List.length_take, List.length_nil, List.length_cons]; omega) (by have := HLa.out; simp only [List.length_append, List.length_drop, List.length_take, List.length_nil, List.length_cons]; omega) (upI : Up Z2 Z3).size ?_
                  intro v' Z4 hown' hgrow
                  haveI : UpI Z2 Z4 := ⟨(upI : Up Z2 Z3).grown hgrow (fun k hk => owns_row o4.out k hk)⟩
                  haveI : UpI wr Z4 := ⟨(upI : Up wr Z2).trans (upI : Up Z2 Z4)⟩
                  have o8 := Lib.hid hown'
                  clear hown' hgrow
                  refine hK _ _ ?_; clear hK K; (try simp only [Act.put, List.getElem_toArray, List.getElem_cons_succ, List.getElem_cons_zero, List.setIfInBounds_toArray, List.set_cons_succ, List.set_cons_zero])
                  refine wpAny_ready (rs := [13]) (by kernel_rfl) (by simp) ?_
                  refine AllReady.cons rfl (fun K hK => ?_) ?_
                  · skip
                    go_simp
                    refine hK _ _ ?_; clear hK K; (try simp only [Act.put, List.getElem_toArray, List.getElem_cons_succ, List.getElem_cons_zero, List.setIfInBounds_toArray, List.set_cons_succ, List.set_cons_zero])
                    generalize hz : World.alloc Z4 _ = Z5
                    haveI : UpI Z4 Z5 := ⟨hz ▸ (Up.refl Z4).alloc _⟩
                    have q1 := Lib.hid (show SpRow Z5 (.slice (some ⟨Z4.heap.size, 0, none⟩) 1 1) [x] from hz ▸ one_rowA Z4 x _ rfl)
                    clear hz
                    haveI : UpI wr Z5 := ⟨(upI : Up wr Z4).trans (upI : Up Z4 Z5)⟩
                    haveI : UpI Z2 Z5 := ⟨(upI : Up Z2 Z4).trans (upI : Up Z4 Z5)⟩
                    have hlt := Lib.hid (fun k hk => owns_lt o8.out k hk)
                    have o8 := Lib.hid (owns_up o8.out (upI : Up Z4 Z5))
                    refine wpAny_ready (rs := [14]) (by kernel_rfl) (by simp) ?_
                    refine AllReady.cons rfl (fun K hK => ?_) ?_
                    · skip
                      refine step_append_list2 (cells := spCells) (k := 2) spCells_length sp_oneB (by decide) rfl _ _ 24 24 39 rfl Tryz.underlying24 Z2.heap.size 39 i0 (.agg #[.int .u32 0, .int .u32 0]) 8 Tryz.underlying24 Hi.out Hy0.out Hy1.out Hy2.out rfl (a.drop j ++ a.take j) _ (by kernel_rfl) o8.out [x] _ (by kernel_rfl) q1.out (by have := HLa.out; unfold maxLen; simp only [List.length_append, List.length_drop, List.length_take, List.length_nil, List.length_cons]; omega) (by have := HLa.out; simp only [List.length_append, List.length_drop, List.length_take, List.length_nil, List.length_cons]; omega) (upI : Up Z2 Z5).size ?_
                      intro v' Z6 hown' hgrow
                      haveI : UpI Z2 Z6 := ⟨(upI : Up Z2 Z5).grown hgrow (fun k hk => owns_row o8.out k hk)⟩
                      haveI : UpI wr Z6 := ⟨(upI : Up wr Z2).trans (upI : Up Z2 Z6)⟩
                      have o14 := Lib.hid hown'
                      clear hown' hgrow
                      refine hK _ _ ?_; clear hK K; (try simp only [Act.put, List.getElem_toArray, List.getElem_cons_succ, List.getElem_cons_zero, List.setIfInBounds_toArray, List.set_cons_succ, List.set_cons_zero])
                      refine any_take (i := 15) (v := ?v13) rfl (by kernel_rfl) (by kernel_rfl) (by kernel_rfl) (Or.inl ⟨by kernel_rfl, ?hy13⟩) ?rest13
                      case hy13 => (intro w; go_simp; (try with_reducible rfl))
                      (try simp only [Act.put, List.getElem_toArray, List.getElem_cons_succ, List.getElem_cons_zero, List.setIfInBounds_toArray, List.set_cons_succ, List.set_cons_zero])
                      refine wpAny_done (by kernel_rfl) ?_ _
                      refine ⟨rfl, ?_⟩
                      go_wp2_with fail
                      go_meet
                      exact ⟨inferInstance, mixed_row o14.out rfl HM.out⟩
                    exact AllReady.nil
                  exact AllReady.nil
                refine AllReady.cons rfl (fun K hK => ?_) ?_
                · skip
                  go_simp
                  refine hK _ _ ?_; clear hK K; (try simp only [Act.put, List.getElem_toArray, List.getElem_cons_succ, List.getElem_cons_zero, List.setIfInBounds_toArray, List.set_cons_succ, List.set_cons_zero])
                  generalize hz : World.alloc Z3 _ = Z4
                  haveI : UpI Z3 Z4 := ⟨hz ▸ (Up.refl Z3).alloc _⟩
                  have q1 := Lib.hid (show SpRow Z4 (.slice (some ⟨Z3.heap.size, 0, none⟩) 1 1) [x] from hz ▸ one_rowA Z3 x _ rfl)
                  clear hz
                  haveI : UpI wr Z4 := ⟨(upI : Up wr Z3).trans (upI : Up Z3 Z4)⟩
                  haveI : UpI Z2 Z4 := ⟨(upI : Up Z2 Z3).trans (upI : Up Z3 Z4)⟩
                  have hlt := Lib.hid (fun k hk => owns_lt o4.out k hk)
                  have o4 := Lib.hid (owns_up o4.out (upI : Up Z3 Z4))
                  refine wpAny_ready (rs := [8]) (by kernel_rfl) (by simp) ?_
                  refine AllReady.cons rfl (fun K hK => ?_) ?_
                  · skip
                    refine step_append_list2 (cells := spCells) (k := 2) spCells_length sp_oneB (by decide) rfl _ _ 24 25 39 rfl Tryz.underlying25 Z2.heap.size 39 i0 (.agg #[.int .u32 0, .int .u32 0]) 8 Tryz.underlying24 Hi.out Hy0.out Hy1.out Hy2.out rfl (a.drop j) _ (by kernel_rfl) o4.out (a.take j) _ (by kernel_rfl) (HTR.out.up (upI : Up wr Z4)) (by have := HLa.out; unfold maxLen; simp only [List.length_append, List.length_drop, List.length_take, List.length_nil, List.length_cons]; omega) (by have := HLa.out; simp only [List.length_append, List.length_drop, List.length_take, List.length_nil, List.length_cons]; omega) (upI : Up Z2 Z4).size ?_
                    intro v' Z5 hown' hgrow
                    haveI : UpI Z2 Z5 := ⟨(upI : Up Z2 Z4).grown hgrow (fun k hk => owns_row o4.out k hk)⟩
                    haveI : UpI wr Z5 := ⟨(upI : Up wr Z2).trans (upI : Up Z2 Z5)⟩
                    have q1 := Lib.hid (row_grown hgrow (fun k hk => hlt.out k hk) q1.out)
                    have o8 := Lib.hid hown'
                    clear hown' hgrow
                    refine hK _ _ ?_; clear hK K; (try simp only [Act.put, List.getElem_toArray, List.getElem_cons_succ, List.getElem_cons_zero, List.setIfInBounds_toArray, List.set_cons_succ, List.set_cons_zero])
                    refine wpAny_ready (rs := [14]) (by kernel_rfl) (by simp) ?_
                    refine AllReady.cons rfl (fun K hK => ?_) ?_
                    · skip
                      refine step_append_list2 (cells := spCells) (k := 2) spCells_length sp_oneB (by decide) rfl _ _ 24 24 39 rfl Tryz.underlying24 Z2.heap.size 39 i0 (.agg #[.int .u32 0, .int .u32 0]) 8 Tryz.underlying24 Hi.out Hy0.out Hy1.out Hy2.out rfl (a.drop j ++ a.take j) _ (by kernel_rfl) o8.out [x] _ (by kernel_rfl) q1.out (by have := HLa.out; unfold maxLen; simp only [List.length_append, List.length_drop, List.length_take, List.length_nil, List.length_cons]; omega) (by have := HLa.out; simp only [List.length_append, List.length_drop, List.length_take, List.length_nil, List.length_cons]; omega) (upI : Up Z2 Z5).size ?_
                      intro v' Z6 hown' hgrow
                      haveI : UpI Z2 Z6 := ⟨(upI : Up Z2 Z5).grown hgrow (fun k hk => owns_row o8.out k hk)⟩
                      haveI : UpI wr Z6 := ⟨(upI : Up wr Z2).trans (upI : Up Z2 Z6)⟩
                      have o14 := Lib.hid hown'
                      clear hown' hgrow
                      refine hK _ _ ?_; clear hK K; (try simp only [Act.put, List.getElem_toArray, List.getElem_cons_succ, List.getElem_cons_zero, List.setIfInBounds_toArray, List.set_cons_succ, List.set_cons_zero])
                      refine any_take (i := 15) (v := ?v14) rfl (by kernel_rfl) (by kernel_rfl) (by kernel_rfl) (Or.inl ⟨by kernel_rfl, ?hy14⟩) ?rest14
                      case hy14 => (intro w; go_simp; (try with_reducible rfl))
                      (try simp only [Act.put, List.getElem_toArray, List.getElem_cons_succ, List.getElem_cons_zero, List.setIfInBounds_toArray, List.set_cons_succ, List.set_cons_zero])
                      refine wpAny_done (by kernel_rfl) ?_ _
                      refine ⟨rfl, ?_⟩
                      go_wp2_with fail
                      go_meet
                      exact ⟨inferInstance, mixed_row o14.out rfl HM.out⟩
                    exact AllReady.nil
                  exact AllReady.nil
                exact AllReady.nil
              refine AllReady.cons rfl (fun K hK => ?_) ?_
              · skip
                go_simp
                refine hK _ _ ?_; clear hK K; (try simp only [Act.put, List.getElem_toArray, List.getElem_cons_succ, List.getElem_cons_zero, List.setIfInBounds_toArray, List.set_cons_succ, List.set_cons_zero])
                generalize hz : World.alloc Z2 _ = Z3
                haveI : UpI Z2 Z3 := ⟨hz ▸ (Up.refl Z2).alloc _⟩
                have q1 := Lib.hid (show SpRow Z3 (.slice (some ⟨Z2.heap.size, 0, none⟩) 1 1) [x] from hz ▸ one_rowA Z2 x _ rfl)
                clear hz
                haveI : UpI wr Z3 := ⟨(upI : Up wr Z2).trans (upI : Up Z2 Z3)⟩
                refine wpAny_ready (rs := [4]) (by kernel_rfl) (by simp) ?_
                refine AllReady.cons rfl (fun K hK => ?_) ?_
                · skip
                  refine step_append_first2 (cells := spCells) (k := 2) spCells_length sp_oneB (by decide) rfl _ _ 24 25 39 rfl Tryz.underlying25 39 i0 (.agg #[.int .u32 0, .int .u32 0]) 8 Tryz.underlying24 Hi.out Hy0.out Hy1.out Hy2.out rfl V.heap.size (by kernel_rfl) (a.drop j) ⟨b, o + j * 2, none⟩ (M - j) (ca - j) (by kernel_rfl) (HDR.out.up (upI : Up wr Z3)) (by rw [List.length_drop, HM.out]) (by omega) (by have := HLa.out; rw [HM.out] at this; unfold maxLen; omega) (by have := HLa.out; rw [HM.out] at this; omega) ?_
                  intro v' Z4 hown' hgrow
                  haveI : UpI Z3 Z4 := ⟨(Up.refl Z3).grown hgrow (fun k hk => by cases hk)⟩
                  haveI : UpI wr Z4 := ⟨(upI : Up wr Z3).trans (upI : Up Z3 Z4)⟩
                  have o4 := Lib.hid hown'
                  clear hown' hgrow
                  refine hK _ _ ?_; clear hK K; (try simp only [Act.put, List.getElem_toArray, List.getElem_cons_succ, List.getElem_cons_zero, List.setIfInBounds_toArray, List.set_cons_succ, List.set_cons_zero])
                  have q0 := q1
                  have q1 := Lib.hid (q0.out.up (upI : Up Z3 Z4))
                  refine wpAny_ready (rs := [8]) (by kernel_rfl) (by simp) ?_
                  refine AllReady.cons rfl (fun K hK => ?_) ?_
                  · skip
                    refine step_append_list2 (cells := spCells) (k := 2) spCells_length sp_oneB (by decide) rfl _ _ 24 25 39 rfl Tryz.underlying25 Z3.heap.size 39 i0 (.agg #[.int .u32 0, .int .u32 0]) 8 Tryz.underlying24 Hi.out Hy0.out Hy1.out Hy2.out rfl (a.drop j) _ (by kernel_rfl) o4.out (a.take j) _ (by kernel_rfl) (HTR.out.up (upI : Up wr Z4)) (by have := HLa.out; unfold maxLen; simp only [List.length_append, List.length_drop, List.length_take, List.length_nil, List.length_cons]; omega) (by have := HLa.out; simp only [List.length_append, List.length_drop, List.length_take, List.length_nil, List.length_cons]; omega) (upI : Up Z3 Z4).size ?_
                    intro v' Z5 hown' hgrow
                    haveI : UpI Z3 Z5 := ⟨(upI : Up Z3 Z4).grown hgrow (fun k hk => owns_row o4.out k hk)⟩
                    haveI : UpI wr Z5 := ⟨(upI : Up wr Z3).trans (upI : Up Z3 Z5)⟩
                    have q1 := Lib.hid (q0.out.up (upI : Up Z3 Z5))
                    have o8 := Lib.hid hown'
                    clear hown' hgrow
                    refine hK _ _ ?_; clear hK K; (try simp only [Act.put, List.getElem_toArray, List.getElem_cons_succ, List.getElem_cons_zero, List.setIfInBounds_toArray, List.set_cons_succ, List.set_cons_zero])
                    refine wpAny_ready (rs := [14]) (by kernel_rfl) (by simp) ?_
                    refine AllReady.cons rfl (fun K hK => ?_) ?_
                    · skip
                      refine step_append_list2 (cells := spCells) (k := 2) spCells_length sp_oneB (by decide) rfl _ _ 24 24 39 rfl Tryz.underlying24 Z3.heap.size 39 i0 (.agg #[.int .u32 0, .int .u32 0]) 8 Tryz.underlying24 Hi.out Hy0.out Hy1.out Hy2.out rfl (a.drop j ++ a.take j) _ (by kernel_rfl) o8.out [x] _ (by kernel_rfl) q1.out (by have := HLa.out; unfold maxLen; simp only [List.length_append, List.length_drop, List.length_take, List.length_nil, List.length_cons]; omega) (by have := HLa.out; simp only [List.length_append, List.length_drop, List.length_take, List.length_nil, List.length_cons]; omega) (upI : Up Z3 Z5).size ?_
                      intro v' Z6 hown' hgrow
                      haveI : UpI Z3 Z6 := ⟨(upI : Up Z3 Z5).grown hgrow (fun k hk => owns_row o8.out k hk)⟩
                      haveI : UpI wr Z6 := ⟨(upI : Up wr Z3).trans (upI : Up Z3 Z6)⟩
                      have o14 := Lib.hid hown'
                      clear hown' hgrow
                      refine hK _ _ ?_; clear hK K; (try simp only [Act.put, List.getElem_toArray, List.getElem_cons_succ, List.getElem_cons_zero, List.setIfInBounds_toArray, List.set_cons_succ, List.set_cons_zero])
                      refine any_take (i := 15) (v := ?v15) rfl (by kernel_rfl) (by kernel_rfl) (by kernel_rfl) (Or.inl ⟨by kernel_rfl, ?hy15⟩) ?rest15
                      case hy15 => (intro w; go_simp; (try with_reducible rfl))
                      (try simp only [Act.put, List.getElem_toArray, List.getElem_cons_succ, List.getElem_cons_zero, List.setIfInBounds_toArray, List.set_cons_succ, List.set_cons_zero])
                      refine wpAny_done (by kernel_rfl) ?_ _
                      refine ⟨rfl, ?_⟩
                      go_wp2_with fail
                      go_meet
                      exact ⟨inferInstance, mixed_row o14.out rfl HM.out⟩
                    exact AllReady.nil
                  exact AllReady.nil
                exact AllReady.nil
              exact AllReady.nil
            exact AllReady.nil
          refine AllReady.cons rfl (fun K hK => ?_) ?_
          · skip
            have e0 := (upI : Up wr V).cell_some c0
            have e1 := (upI : Up wr V).cell_some c1
            go_simp
            refine hK _ _ ?_; clear hK K; (try simp only [Act.put, List.getElem_toArray, List.getElem_cons_succ, List.getElem_cons_zero, List.setIfInBounds_toArray, List.set_cons_succ, List.set_cons_zero])
            clear e0 e1
            refine wpAny_ready (rs := [0, 13]) (by kernel_rfl) (by simp) ?_
            refine AllReady.cons rfl (fun K hK => ?_) ?_
            · skip
              go_simp
              refine hK _ _ ?_; clear hK K; (try simp only [Act.put, List.getElem_toArray, List.getElem_cons_succ, List.getElem_cons_zero, List.setIfInBounds_toArray, List.set_cons_succ, List.set_cons_zero])
              generalize hz : World.alloc V _ = Z2
              haveI : UpI V Z2 := ⟨hz ▸ (Up.refl V).alloc _⟩
              clear hz
              haveI : UpI wr Z2 := ⟨(upI : Up wr V).trans (upI : Up V Z2)⟩
              refine wpAny_ready (rs := [4, 13]) (by kernel_rfl) (by simp) ?_
              refine AllReady.cons rfl (fun K hK => ?_) ?_
              · skip
                refine step_append_first2 (cells := spCells) (k := 2) spCells_length sp_oneB (by decide) rfl _ _ 24 25 39 rfl Tryz.underlying25 39 i0 (.agg #[.int .u32 0, .int .u32 0]) 8 Tryz.underlying24 Hi.out Hy0.out Hy1.out Hy2.out rfl V.heap.size (by kernel_rfl) (a.drop j) ⟨b, o + j * 2, none⟩ (M - j) (ca - j) (by kernel_rfl) (HDR.out.up (upI : Up wr Z2)) (by rw [List.length_drop, HM.out]) (by omega) (by have := HLa.out; rw [HM.out] at this; unfold maxLen; omega) (by have := HLa.out; rw [HM.out] at this; omega) ?_
                intro v' Z3 hown' hgrow
                haveI : UpI Z2 Z3 := ⟨(Up.refl Z2).grown hgrow (fun k hk => by cases hk)⟩
                haveI : UpI wr Z3 := ⟨(upI : Up wr Z2).trans (upI : Up Z2 Z3)⟩
                have o4 := Lib.hid hown'
                clear hown' hgrow
                refine hK _ _ ?_; clear hK K; (try simp only [Act.put, List.getElem_toArray, List.getElem_cons_succ, List.getElem_cons_zero, List.setIfInBounds_toArray, List.set_cons_succ, List.set_cons_zero])
                refine wpAny_ready (rs := [8, 13]) (by kernel_rfl) (by simp) ?_
                refine AllReady.cons rfl (fun K hK => ?_) ?_
                · skip
                  refine step_append_list2 (cells := spCells) (k := 2) spCells_length sp_oneB (by decide) rfl _ _ 24 25 39 rfl Tryz.underlying25 Z2.heap.size 39 i0 (.agg #[.int .u32 0, .int .u32 0]) 8 Tryz.underlying24 Hi.out Hy0.out Hy1.out Hy2.out rfl (a.drop j) _ (by kernel_rfl) o4.out (a.take j) _ (by kernel_rfl) (HTR.out.up (upI : Up wr Z3)) (by have := HLa.out; unfold maxLen; simp only [List.length_append, List.length_drop, List.length_take, List.length_nil, List.length_cons]; omega) (by have := HLa.out; simp only [List.length_append, List.length_drop, List.length_take, List.length_nil, List.length_cons]; omega) (upI : Up Z2 Z3).size ?_
                  intro v' Z4 hown' hgrow
                  haveI : UpI Z2 Z4 := ⟨(upI : Up Z2 Z3).grown hgrow (fun k hk => owns_row o4.out k hk)⟩
                  haveI : UpI wr Z4 := ⟨(upI : Up wr Z2).trans (upI : Up Z2 Z4)⟩
                  have o8 := Lib.hid hown'
                  clear hown' hgrow
                  refine hK _ _ ?_; clear hK K; (try simp only [Act.put, List.getElem_toArray, List.getElem_cons_succ, List.getElem_cons_zero, List.setIfInBounds_toArray, List.set_cons_succ, List.set_cons_zero])
                  refine wpAny_ready (rs := [13]) (by kernel_rfl) (by simp) ?_
                  refine AllReady.cons rfl (fun K hK => ?_) ?_
                  · skip
                    go_simp
                    refine hK _ _ ?_; clear hK K; (try simp only [Act.put, List.getElem_toArray, List.getElem_cons_succ, List.getElem_cons_zero, List.setIfInBounds_toArray, List.set_cons_succ, List.set_cons_zero])
                    generalize hz : World.alloc Z4 _ = Z5
                    haveI : UpI Z4 Z5 := ⟨hz ▸ (Up.refl Z4).alloc _⟩
                    have q1 := Lib.hid (show SpRow Z5 (.slice (some ⟨Z4.heap.size, 0, none⟩) 1 1) [x] from hz ▸ one_rowA Z4 x _ rfl)
                    clear hz
                    haveI : UpI wr Z5 := ⟨(upI : Up wr Z4).trans (upI : Up Z4 Z5)⟩
                    haveI : UpI Z2 Z5 := ⟨(upI : Up Z2 Z4).trans (upI : Up Z4 Z5)⟩
                    have hlt := Lib.hid (fun k hk => owns_lt o8.out k hk)
                    have o8 := Lib.hid (owns_up o8.out (upI : Up Z4 Z5))
                    refine wpAny_ready (rs := [14]) (by kernel_rfl) (by simp) ?_
                    refine AllReady.cons rfl (fun K hK => ?_) ?_
                    · skip
                      refine step_append_list2 (cells := spCells) (k := 2) spCells_length sp_oneB (by decide) rfl _ _ 24 24 39 rfl Tryz.underlying24 Z2.heap.size 39 i0 (.agg #[.int .u32 0, .int .u32 0]) 8 Tryz.underlying24 Hi.out Hy0.out Hy1.out Hy2.out rfl (a.drop j ++ a.take j) _ (by kernel_rfl) o8.out [x] _ (by kernel_rfl) q1.out (by have := HLa.out; unfold maxLen; simp only [List.length_append, List.length_drop, List.length_take, List.length_nil, List.length_cons]; omega) (by have := HLa.out; simp only [List.length_append, List.length_drop, List.length_take, List.length_nil, List.length_cons]; omega) (upI : Up Z2 Z5).size ?_
                      intro v' Z6 hown' hgrow
                      haveI : UpI Z2 Z6 := ⟨(upI : Up Z2 Z5).grown hgrow (fun k hk => owns_row o8.out k hk)⟩
                      haveI : UpI wr Z6 := ⟨(upI : Up wr Z2).trans (upI : Up Z2 Z6)⟩
                      have o14 := Lib.hid hown'
                      clear hown' hgrow
                      refine hK _ _ ?_; clear hK K; (try simp only [Act.put, List.getElem_toArray, List.getElem_cons_succ, List.getElem_cons_zero, List.setIfInBounds_toArray, List.set_cons_succ, List.set_cons_zero])
                      refine any_take (i := 15) (v := ?v16) rfl (by kernel_rfl) (by kernel_rfl) (by kernel_rfl) (Or.inl ⟨by kernel_rfl, ?hy16⟩) ?rest16
                      case hy16 => (intro w; go_simp; (try with_reducible rfl))
                      (try simp only [Act.put, List.getElem_toArray, List.getElem_cons_succ, List.getElem_cons_zero, List.setIfInBounds_toArray, List.set_cons_succ, List.set_cons_zero])
                      refine wpAny_done (by kernel_rfl) ?_ _
                      refine ⟨rfl, ?_⟩
                      go_wp2_with fail
                      go_meet
                      exact ⟨inferInstance, mixed_row o14.out rfl HM.out⟩
                    exact AllReady.nil
                  exact AllReady.nil
                refine AllReady.cons rfl (fun K hK => ?_) ?_
                · skip
                  go_simp
                  refine hK _ _ ?_; clear hK K; (try simp only [Act.put, List.getElem_toArray, List.getElem_cons_succ, List.getElem_cons_zero, List.setIfInBounds_toArray, List.set_cons_succ, List.set_cons_zero])
                  generalize hz : World.alloc Z3 _ = Z4
                  haveI : UpI Z3 Z4 := ⟨hz ▸ (Up.refl Z3).alloc _⟩
                  have q1 := Lib.hid (show SpRow Z4 (.slice (some ⟨Z3.heap.size, 0, none⟩) 1 1) [x] from hz ▸ one_rowA Z3 x _ rfl)
                  clear hz
                  haveI : UpI wr Z4 := ⟨(upI : Up wr Z3).trans (upI : Up Z3 Z4)⟩
                  haveI : UpI Z2 Z4 := ⟨(upI : Up Z2 Z3).trans (upI : Up Z3 Z4)⟩
                  have hlt := Lib.hid (fun k hk => owns_lt o4.out k hk)
                  have o4 := Lib.hid (owns_up o4.out (upI : Up Z3 Z4))
                  refine wpAny_ready (rs := [8]) (by kernel_rfl) (by simp) ?_
                  refine AllReady.cons rfl (fun K hK => ?_) ?_
                  · skip
                    refine step_append_list2 (cells := spCells) (k := 2) spCells_length sp_oneB (by decide) rfl _ _ 24 25 39 rfl Tryz.underlying25 Z2.heap.size 39 i0 (.agg #[.int .u32 0, .int .u32 0]) 8 Tryz.underlying24 Hi.out Hy0.out Hy1.out Hy2.out rfl (a.drop j) _ (by kernel_rfl) o4.out (a.take j) _ (by kernel_rfl) (HTR.out.up (upI : Up wr Z4)) (by have := HLa.out; unfold maxLen; simp only [List.length_append, List.length_drop, List.length_take, List.length_nil, List.length_cons]; omega) (by have := HLa.out; simp only [List.length_append, List.length_drop, List.length_take, List.length_nil, List.length_cons]; omega) (upI : Up Z2 Z4).size ?_
                    intro v' Z5 hown' hgrow
                    haveI : UpI Z2 Z5 := ⟨(upI : Up Z2 Z4).grown hgrow (fun k hk => owns_row o4.out k hk)⟩
                    haveI : UpI wr Z5 := ⟨(upI : Up wr Z2).trans (upI : Up Z2 Z5)⟩
                    have q1 := Lib.hid (row_grown hgrow (fun k hk => hlt.out k hk) q1.out)
                    have o8 := Lib.hid hown'
                    clear hown' hgrow
                    refine hK _ _ ?_; clear hK K; (try simp only [Act.put, List.getElem_toArray, List.getElem_cons_succ, List.getElem_cons_zero, List.setIfInBounds_toArray, List.set_cons_succ, List.set_cons_zero])
                    refine wpAny_ready (rs := [14]) (by kernel_rfl) (by simp) ?_
                    refine AllReady.cons rfl (fun K hK => ?_) ?_
                    · skip
                      refine step_append_list2 (cells := spCells) (k := 2) spCells_length sp_oneB (by decide) rfl _ _ 24 24 39 rfl Tryz.underlying24 Z2.heap.size 39 i0 (.agg #[.int .u32 0, .int .u32 0]) 8 Tryz.underlying24 Hi.out Hy0.out Hy1.out Hy2.out rfl (a.drop j ++ a.take j) _ (by kernel_rfl) o8.out [x] _ (by kernel_rfl) q1.out (by have := HLa.out; unfold maxLen; simp only [List.length_append, List.length_drop, List.length_take, List.length_nil, List.length_cons]; omega) (by have := HLa.out; simp only [List.length_append, List.length_drop, List.length_take, List.length_nil, List.length_cons]; omega) (upI : Up Z2 Z5).size ?_
                      intro v' Z6 hown' hgrow
                      haveI : UpI Z2 Z6 := ⟨(upI : Up Z2 Z5).grown hgrow (fun k hk => owns_row o8.out k hk)⟩
                      haveI : UpI wr Z6 := ⟨(upI : Up wr Z2).trans (upI : Up Z2 Z6)⟩
                      have o14 := Lib.hid hown'
                      clear hown' hgrow
                      refine hK _ _ ?_; clear hK K; (try simp only [Act.put, List.getElem_toArray, List.getElem_cons_succ, List.getElem_cons_zero, List.setIfInBounds_toArray, List.set_cons_succ, List.set_cons_zero])
                      refine any_take (i := 15) (v := ?v17) rfl (by kernel_rfl) (by kernel_rfl) (by kernel_rfl) (Or.inl ⟨by kernel_rfl, ?hy17⟩) ?rest17
                      case hy17 => (intro w; go_simp; (try with_reducible rfl))
                      (try simp only [Act.put, List.getElem_toArray, List.getElem_cons_succ, List.getElem_cons_zero, List.setIfInBounds_toArray, List.set_cons_succ, List.set_cons_zero])
                      refine wpAny_done (by kernel_rfl) ?_ _
                      refine ⟨rfl, ?_⟩
                      go_wp2_with fail
                      go_meet
                      exact ⟨inferInstance, mixed_row o14.out rfl HM.out⟩
                    exact AllReady.nil
                  exact AllReady.nil
                exact AllReady.nil
              refine AllReady.cons rfl (fun K hK => ?_) ?_
              · skip
                go_simp
                refine hK _ _ ?_; clear hK K; (try simp only [Act.put, List.getElem_toArray, List.getElem_cons_succ, List.getElem_cons_zero, List.setIfInBounds_toArray, List.set_cons_succ, List.set_cons_zero])
                generalize hz : World.alloc Z2 _ = Z3
                haveI : UpI Z2 Z3 := ⟨hz ▸ (Up.refl Z2).alloc _⟩
                have q1 := Lib.hid (show SpRow Z3 (.slice (some ⟨Z2.heap.size, 0, none⟩) 1 1) [x] from hz ▸ one_rowA Z2 x _ rfl)
                clear hz
                haveI : UpI wr Z3 := ⟨(upI : Up wr Z2).trans (upI : Up Z2 Z3)⟩
                refine wpAny_ready (rs := [4]) (by kernel_rfl) (by simp) ?_
                refine AllReady.cons rfl (fun K hK => ?_) ?_
                · skip
                  refine step_append_first2 (cells := spCells) (k := 2) spCells_length sp_oneB (by decide) rfl _ _ 24 25 39 rfl Tryz.underlying25 39 i0 (.agg #[.int .u32 0, .int .u32 0]) 8 Tryz.underlying24 Hi.out Hy0.out Hy1.out Hy2.out rfl V.heap.size (by kernel_rfl) (a.drop j) ⟨b, o + j * 2, none⟩ (M - j) (ca - j) (by kernel_rfl) (HDR.out.up (upI : Up wr Z3)) (by rw [List.length_drop, HM.out]) (by omega) (by have := HLa.out; rw [HM.out] at this; unfold maxLen; omega) (by have := HLa.out; rw [HM.out] at this; omega) ?_
                  intro v' Z4 hown' hgrow
                  haveI : UpI Z3 Z4 := ⟨(Up.refl Z3).grown hgrow (fun k hk => by cases hk)⟩
                  haveI : UpI wr Z4 := ⟨(upI : Up wr Z3).trans (upI : Up Z3 Z4)⟩
                  have o4 := Lib.hid hown'
                  clear hown' hgrow
                  refine hK _ _ ?_; clear hK K; (try simp only [Act.put, List.getElem_toArray, List.getElem_cons_succ, List.getElem_cons_zero, List.setIfInBounds_toArray, List.set_cons_succ, List.set_cons_zero])
                  have q0 := q1
                  have q1 := Lib.hid (q0.out.up (upI : Up Z3 Z4))
                  refine wpAny_ready (rs := [8]) (by kernel_rfl) (by simp) ?_
                  refine AllReady.cons rfl (fun K hK => ?_) ?_
                  · skip
                    refine step_append_list2 (cells := spCells) (k := 2) spCells_length sp_oneB (by decide) rfl _ _ 24 25 39 rfl Tryz.underlying25 Z3.heap.size 39 i0 (.agg #[.int .u32 0, .int .u32 0]) 8 Tryz.underlying24 Hi.out Hy0.out Hy1.out Hy2.out rfl (a.drop j) _ (by kernel_rfl) o4.out (a.take j) _ (by kernel_rfl) (HTR.out.up (upI : Up wr Z4)) (by have := HLa.out; unfold maxLen; simp only [List.length_append, List.length_drop, List.length_take, List.length_nil, List.length_cons]; omega) (by have := HLa.out; simp only [List.length_append, List.length_drop, List.length_take, List.length_nil, List.length_cons]; omega) (upI : Up Z3 Z4).size ?_
                    intro v' Z5 hown' hgrow
                    haveI : UpI Z3 Z5 := ⟨(upI : Up Z3 Z4).grown hgrow (fun k hk => owns_row o4.out k hk)⟩
                    haveI : UpI wr Z5 := ⟨(upI : Up wr Z3).trans (upI : Up Z3 Z5)⟩
                    have q1 := Lib.hid (q0.out.up (upI : Up Z3 Z5))
                    have o8 := Lib.hid hown'
                    clear hown' hgrow
                    refine hK _ _ ?_; clear hK K; (try simp only [Act.put, List.getElem_toArray, List.getElem_cons_succ, List.getElem_cons_zero, List.setIfInBounds_toArray, List.set_cons_succ, List.set_cons_zero])
                    refine wpAny_ready (rs := [14]) (by kernel_rfl) (by simp) ?_
                    refine AllReady.cons rfl (fun K hK => ?_) ?_
                    · skip
                      refine step_append_list2 (cells := spCells) (k := 2) spCells_length sp_oneB (by decide) rfl _ _ 24 24 39 rfl Tryz.underlying24 Z3.heap.size 39 i0 (.agg #[.int .u32 0, .int .u32 0]) 8 Tryz.underlying24 Hi.out Hy0.out Hy1.out Hy2.out rfl (a.drop j ++ a.take j) _ (by kernel_rfl) o8.out [x] _ (by kernel_rfl) q1.out (by have := HLa.out; unfold maxLen; simp only [List.length_append, List.length_drop, List.length_take, List.length_nil, List.length_cons]; omega) (by have := HLa.out; simp only [List.length_append, List.length_drop, List.length_take, List.length_nil, List.length_cons]; omega) (upI : Up Z3 Z5).size ?_
                      intro v' Z6 hown' hgrow
                      haveI : UpI Z3 Z6 := ⟨(upI : Up Z3 Z5).grown hgrow (fun k hk => owns_row o8.out k hk)⟩
                      haveI : UpI wr Z6 := ⟨(upI : Up wr Z3).trans (upI : Up Z3 Z6)⟩
                      have o14 := Lib.hid hown'
                      clear hown' hgrow
                      refine hK _ _ ?_; clear hK K; (try simp only [Act.put, List.getElem_toArray, List.getElem_cons_succ, List.getElem_cons_zero, List.setIfInBounds_toArray, List.set_cons_succ, List.set_cons_zero])
                      refine any_take (i := 15) (v := ?v18) rfl (by kernel_rfl) (by kernel_rfl) (by kernel_rfl) (Or.inl ⟨by kernel_rfl, ?hy18⟩) ?rest18
                      case hy18 => (intro w; go_simp; (try with_reducible rfl))
                      (try simp only [Act.put, List.getElem_toArray, List.getElem_cons_succ, List.getElem_cons_zero, List.setIfInBounds_toArray, List.set_cons_succ, List.set_cons_zero])
                      refine wpAny_done (by kernel_rfl) ?_ _
                      refine ⟨rfl, ?_⟩
                      go_wp2_with fail
                      go_meet
                      exact ⟨inferInstance, mixed_row o14.out rfl HM.out⟩
                    exact AllReady.nil
                  exact AllReady.nil
                exact AllReady.nil
              exact AllReady.nil
            refine AllReady.cons rfl (fun K hK => ?_) ?_
            · skip
              go_simp
              refine hK _ _ ?_; clear hK K; (try simp only [Act.put, List.getElem_toArray, List.getElem_cons_succ, List.getElem_cons_zero, List.setIfInBounds_toArray, List.set_cons_succ, List.set_cons_zero])
              generalize hz : World.alloc V _ = Z2
              haveI : UpI V Z2 := ⟨hz ▸ (Up.refl V).alloc _⟩
              have q1 := Lib.hid (show SpRow Z2 (.slice (some ⟨V.heap.size, 0, none⟩) 1 1) [x] from hz ▸ one_rowA V x _ rfl)
              clear hz
              haveI : UpI wr Z2 := ⟨(upI : Up wr V).trans (upI : Up V Z2)⟩
              refine wpAny_ready (rs := [0]) (by kernel_rfl) (by simp) ?_
              refine AllReady.cons rfl (fun K hK => ?_) ?_
              · skip
                go_simp
                refine hK _ _ ?_; clear hK K; (try simp only [Act.put, List.getElem_toArray, List.getElem_cons_succ, List.getElem_cons_zero, List.setIfInBounds_toArray, List.set_cons_succ, List.set_cons_zero])
                generalize hz : World.alloc Z2 _ = Z3
                haveI : UpI Z2 Z3 := ⟨hz ▸ (Up.refl Z2).alloc _⟩
                clear hz
                haveI : UpI wr Z3 := ⟨(upI : Up wr Z2).trans (upI : Up Z2 Z3)⟩
                have q1 := Lib.hid (q1.out.up (upI : Up Z2 Z3))
                refine wpAny_ready (rs := [4]) (by kernel_rfl) (by simp) ?_
                refine AllReady.cons rfl (fun K hK => ?_) ?_
                · skip
                  refine step_append_first2 (cells := spCells) (k := 2) spCells_length sp_oneB (by decide) rfl _ _ 24 25 39 rfl Tryz.underlying25 39 i0 (.agg #[.int .u32 0, .int .u32 0]) 8 Tryz.underlying24 Hi.out Hy0.out Hy1.out Hy2.out rfl Z2.heap.size (by kernel_rfl) (a.drop j) ⟨b, o + j * 2, none⟩ (M - j) (ca - j) (by kernel_rfl) (HDR.out.up (upI : Up wr Z3)) (by rw [List.length_drop, HM.out]) (by omega) (by have := HLa.out; rw [HM.out] at this; unfold maxLen; omega) (by have := HLa.out; rw [HM.out] at this; omega) ?_
                  intro v' Z4 hown' hgrow
                  haveI : UpI Z3 Z4 := ⟨(Up.refl Z3).grown hgrow (fun k hk => by cases hk)⟩
                  haveI : UpI wr Z4 := ⟨(upI : Up wr Z3).trans (upI : Up Z3 Z4)⟩
                  have o4 := Lib.hid hown'
                  clear hown' hgrow
                  refine hK _ _ ?_; clear hK K; (try simp only [Act.put, List.getElem_toArray, List.getElem_cons_succ, List.getElem_cons_zero, List.setIfInBounds_toArray, List.set_cons_succ, List.set_cons_zero])
                  have q0 := q1
                  have q1 := Lib.hid (q0.out.up (upI : Up Z3 Z4))
                  refine wpAny_ready (rs := [8]) (by kernel_rfl) (by simp) ?_
                  refine AllReady.cons rfl (fun K hK => ?_) ?_
                  · skip
                    refine step_append_list2 (cells := spCells) (k := 2) spCells_length sp_oneB (by decide) rfl _ _ 24 25 39 rfl Tryz.underlying25 Z3.heap.size 39 i0 (.agg #[.int .u32 0, .int .u32 0]) 8 Tryz.underlying24 Hi.out Hy0.out Hy1.out Hy2.out rfl (a.drop j) _ (by kernel_rfl) o4.out (a.take j) _ (by kernel_rfl) (HTR.out.up (upI : Up wr Z4)) (by have := HLa.out; unfold maxLen; simp only [List.length_append, List.length_drop, List.length_take, List.length_nil, List.length_cons]; omega) (by have := HLa.out; simp only [List.length_append, List.length_drop, List.length_take, List.length_nil, List.length_cons]; omega) (upI : Up Z3 Z4).size ?_
                    intro v' Z5 hown' hgrow
                    haveI : UpI Z3 Z5 := ⟨(upI : Up Z3 Z4).grown hgrow (fun k hk => owns_row o4.out k hk)⟩
                    haveI : UpI wr Z5 := ⟨(upI : Up wr Z3).trans (upI : Up Z3 Z5)⟩
                    have q1 := Lib.hid (q0.out.up (upI : Up Z3 Z5))
                    have o8 := Lib.hid hown'
                    clear hown' hgrow
                    refine hK _ _ ?_; clear hK K; (try simp only [Act.put, List.getElem_toArray, List.getElem_cons_succ, List.getElem_cons_zero, List.setIfInBounds_toArray, List.set_cons_succ, List.set_cons_zero])
                    refine wpAny_ready (rs := [14]) (by kernel_rfl) (by simp) ?_
                    refine AllReady.cons rfl (fun K hK => ?_) ?_
                    · skip
                      refine step_append_list2 (cells := spCells) (k := 2) spCells_length sp_oneB (by decide) rfl _ _ 24 24 39 rfl Tryz.underlying24 Z3.heap.size 39 i0 (.agg #[.int .u32 0, .int .u32 0]) 8 Tryz.underlying24 Hi.out Hy0.out Hy1.out Hy2.out rfl (a.drop j ++ a.take j) _ (by kernel_rfl) o8.out [x] _ (by kernel_rfl) q1.out (by have := HLa.out; unfold maxLen; simp only [List.length_append, List.length_drop, List.length_take, List.length_nil, List.length_cons]; omega) (by have := HLa.out; simp only [List.length_append, List.length_drop, List.length_take, List.length_nil, List.length_cons]; omega) (upI : Up Z3 Z5).size ?_
                      intro v' Z6 hown' hgrow
                      haveI : UpI Z3 Z6 := ⟨(upI : Up Z3 Z5).grown hgrow (fun k hk => owns_row o8.out k hk)⟩
                      haveI : UpI wr Z6 := ⟨(upI : Up wr Z3).trans (upI : Up Z3 Z6)⟩
                      have o14 := Lib.hid hown'
                      clear hown' hgrow
                      refine hK _ _ ?_; clear hK K; (try simp only [Act.put, List.getElem_toArray, List.getElem_cons_succ, List.getElem_cons_zero, List.setIfInBounds_toArray, List.set_cons_succ, List.set_cons_zero])
                      refine any_take (i := 15) (v := ?v19) rfl (by kernel_rfl) (by kernel_rfl) (by kernel_rfl) (Or.inl ⟨by kernel_rfl, ?hy19⟩) ?rest19
                      case hy19 => (intro w; go_simp; (try with_reducible rfl))
                      (try simp only [Act.put, List.getElem_toArray, List.getElem_cons_succ, List.getElem_cons_zero, List.setIfInBounds_toArray, List.set_cons_succ, List.set_cons_zero])
                      refine wpAny_done (by kernel_rfl) ?_ _
                      refine ⟨rfl, ?_⟩
                      go_wp2_with fail
                      go_meet
                      exact ⟨inferInstance, mixed_row o14.out rfl HM.out⟩
                    exact AllReady.nil
                  exact AllReady.nil
                exact AllReady.nil
              exact AllReady.nil
            exact AllReady.nil
          exact AllReady.nil
        case rest =>
          obtain ⟨uW, p9, c9, rfl, R9⟩ := hcut
          haveI := uW
          haveI : UpI xs2.w wc := ⟨hup.trans uW.up⟩
          haveI : UpI w wc := ⟨HX.out.trans (upI : Up xs2.w wc)⟩
          have hmix : ∀ y ∈ mixedL a j x, SpB y := fun y hy => Ha.out.b y (mixed_mem (List.mem_of_getElem? Hx.out) y hy)
          have cf := fun (W : World) (h : SpRow W (.slice p9 (M + 1) c9) (mixedL a j x)) => (spof_yes (mixedL a j x) _ W h hmix (by rw [mixed_len]; have := Ha.out.l; omega) (mixed_bad Ha.out.r j (List.mem_of_getElem? Hx.out))).lit
          rw [mixed_of Ha.out.r Ha.out.b j (List.mem_of_getElem? Hx.out)] at cf
          have cs3 := fun (v : Value) (W : World) (h : SpRow W v a) (k : SpRow W (.slice (some ⟨b, o, none⟩) M ca) a) => same_yes a v _ W h k (by have := Ha.out.l; omega)
          have RB := Lib.hid (show SpRow wc (.slice (some ⟨b, o, none⟩) M ca) a from (by have := RA.out.up (upI : Up xs2.w wc); rw [HM.out] at this; exact this))
          rw [HM.out] at cf
          clear HDR HTR hmix c0 c1 Hx Hi Hy0 Hy1 Hy2 RA
          go_upto_region 24 with (first
            | (go_at_call 22; (with_reducible refine Calls.mono (cf _ (R9.out.up upI)) ?_); clear cf; rintro e w' ⟨p10, c10, rfl, R10, z10, rfl⟩)
            | (go_at_call 26; (with_reducible refine (cs3 _ z10.w R10.out (RB.out.up upI)).mono ?_); clear cs3; rintro e w' ⟨rfl, z11, rfl⟩))
          by_cases ht : 1000 < t.length
          · have ht1 : (1000 : Int) < (t.length : Int) := by omega
            go_wp2_with fail
            go_ret
            exact ⟨rfl, mkI⟩
          · have ht1 : ¬ (1000 : Int) < (t.length : Int) := by omega
            cases hr : readS t with
            | none =>
              have cN := fun (W : World) (g : Good W) => read_none t hr W g (by omega)
              clear hr
              go_wp2_with (go_at_call 28; refine (cN _ (g.up upI)).mono ?_; clear cN; rintro e w' ⟨rfl, z1, rfl⟩)
              go_ret
              exact ⟨rfl, mkI⟩
            | some s =>
              obtain ⟨e1, e2, e3, e4⟩ := span_read_some hr
              have cR := fun (W : World) (g : Good W) => read_row t s hr W g (by omega)
              have cT := fun (v : Value) (W : World) (g : Good W) (h : SpRow W v s) => sptext_yes s v W g h e4 e2 e3
              have cO := fun (v : Value) (W : World) (h : SpRow W v s) => (spright_any s v W h e4 (by omega)).cast (v := .bool true) (by rw [e2])
              rw [e1] at cT
              clear hr e1 e2 e3 e4
              go_wp2_with (first
                | (go_at_call 28; refine Calls.mono (cR _ (g.up upI)) ?_; clear cR; rintro e w' ⟨pq, cq, rfl, Rq, z1, rfl⟩)
                | (go_at_call 21; refine (cT _ z1.w (g.up upI) Rq.out).mono ?_; clear cT; rintro e w' ⟨rfl, z2, rfl⟩)
                | (go_at_call 23; refine (cO _ z2.w (Rq.out.up upI)).mono ?_; clear cO; rintro e w' ⟨rfl, z3, rfl⟩))
              all_goals first | (go_ret; exact ⟨rfl, mkI⟩) | skip
end Go.Proofs.YtgfkcbflnkpogaaGreatDoor
