/- Two right sets compared with the reference. -/
import Derived.Test.YtgfkcbflnkpogaaGreatDoorStm
set_option linter.unusedSimpArgs false
set_option linter.unusedVariables false
namespace Go.Ab
open Go.RowKit
theorem wr_lt {base : Nat} {t : TypeId} {W : World} {v : Value} {n j : Nat} (h : WrRow base t W v n) (hj : j < n) : ∃ g cap, v = .slice (some ⟨g, 0, none⟩) n cap ∧ base ≤ g ∧ g < W.heap.size ∧ (∃ u, W.cell? ⟨g, j * 2, none⟩ = some u) ∧ (∃ u, W.cell? ⟨g, j * 2 + 1, none⟩ = some u) ∧ ∀ o, W.frozen? ⟨g, o, none⟩ = false := by
  rcases h with ⟨_, h⟩ | ⟨g, cap, cur, hv, hg, hh, hs⟩
  · omega
  · exact ⟨g, cap, hv, hg, (Array.getElem?_eq_some_iff.1 hh).1, ⟨cur[j * 2], by rw [cell_of_cells hh]; exact Array.getElem?_eq_getElem (by omega)⟩, ⟨cur[j * 2 + 1], by rw [cell_of_cells hh]; exact Array.getElem?_eq_getElem (by omega)⟩, free_of_cells hh⟩
theorem wr_ne {base B : Nat} {t t' : TypeId} {W : World} {g n cap : Nat} {cs : Array Value} {fz : Nat × Nat} (h : WrRow base t W (.slice (some ⟨g, 0, none⟩) n cap) n) (hB : W.heap[B]? = some (.cells cs t' fz)) (hne : t' ≠ t) : g ≠ B := by
  rcases h with ⟨h, _⟩ | ⟨g', cap', cur, hv, hg, hh, hs⟩
  · cases h
  · simp only [Value.slice.injEq, Option.some.injEq, Addr.mk.injEq, and_true] at hv
    obtain ⟨rfl, _⟩ := hv
    rintro rfl
    rw [hh] at hB
    simp only [Option.some.injEq, Obj.cells.injEq] at hB
    exact hne hB.2.1.symm
abbrev VN := Value × Nat
/-- The sets that are overwritten, and the literal that holds them. -/
structure OverSt (X : World) (A : Nat) (ts t : TypeId) (sets : List VN) (W : World) : Prop where
  up : Up X W
  lit : W.heap[A]? = some (.cells (sets.map Prod.fst).toArray ts (0, 0))
  rows : ∀ x ∈ sets, WrRow X.heap.size t W x.1 x.2
theorem OverSt.drew {X : World} {A : Nat} {ts t : TypeId} {sets : List VN} {W : World} (h : OverSt X A ts t sets W) : OverSt X A ts t sets W.drew := ⟨h.up.drew, h.lit, h.rows⟩
theorem OverSt.set {X : World} {A : Nat} {ts t : TypeId} {sets : List VN} {W : World} (h : OverSt X A ts t sets W) {g j : Nat} (hg : X.heap.size ≤ g) (hne : g ≠ A) (u : Value) : OverSt X A ts t sets (W.setCell ⟨g, j, none⟩ u) :=
  ⟨up_set h.up hg u, (heap_setCell_other W ⟨g, j, none⟩ A u (fun e => hne e.symm)).trans h.lit, fun x hx => (h.rows x hx).set g j u⟩
end Go.Ab
namespace Go.Proofs.YtgfkcbflnkpogaaGreatDoor
open Go.RowKit Go.Ab
attribute [local go_sem high] wrapI64 wrapK64
set_option maxHeartbeats 64000000 in
set_option maxRecDepth 100000 in
theorem two_yes (a b : List Sp) (va vb : Value) (w : World) (ra : SpRow w va a) (rb : SpRow w vb b) (ba : ∀ x ∈ a, SpB x) (bb : ∀ x ∈ b, SpB x) (hin : TwoIn a.length b.length) (he : wrongLs [a, b] = 0) :
    Gives Tryz.prog 18 #[va, vb] w (.bool true) := by
  obtain ⟨ha4, hb4, har, hbr⟩ := wrongLs_zero he
  obtain ⟨hn, hm, hn2, hm2⟩ := hin
  have hn : a.length ≤ 60 := by omega
  have hm : b.length ≤ 60 := by omega
  have cl1 := slent_any a va w ra (by omega)
  have cl2 := fun (W : World) (u : UpI w W) => slent_any b vb W (rb.up u.up) (by omega)
  have ct1 := fun (W : World) (u : UpI w W) => turned_any a va W (ra.up u.up) ba (by omega)
  have ct2 := fun (W : World) (u : UpI w W) => turned_any b vb W (rb.up u.up) bb (by omega)
  have cw := fun (v u : Value) (W : World) (h : RsRow W v a) (k : RsRow W u b) => (rwrong_any a b v u W h k ba bb (by omega) (by omega)).cast (v := .int .i64 0) (by rw [he])
  have cu := fun (v u : Value) (W : World) (h : SpRow W v a) (k : SpRow W u b) => givesO (spunion_yes a b v u W h k har hbr ba bb ha4 hb4)
  have cc := fun (v u : Value) (W : World) (h : SpRow W v a) (k : SpRow W u b) => givesO (spcommon_yes a b v u W h k har hbr ba bb ha4 hb4)
  have co := fun (v u : Value) (W : World) (h : SpRow W v a) (k : SpRow W u b) => givesO (spwithout_yes a b v u W h k har hbr ba bb ha4 hb4)
  obtain ⟨q, hq⟩ : ∃ q, decide (withoutL a b = []) = q := ⟨_, rfl⟩
  have ci := fun (v u : Value) (W : World) (h : SpRow W v a) (k : SpRow W u b) => (spwithin_yes a b v u W h k har hbr ba bb ha4 hb4).cast (v := .tuple #[.bool q, .int .i64 0]) (by rw [hq])
  have tq : (((withoutL a b).length : Int) == 0) = q := by rw [← hq]; cases withoutL a b <;> simp; omega
  have ku := fun (v u : Value) (W : World) (h : RsRow W v a) (k : RsRow W u b) => runion_any a b v u W h k ba (rF_le har) bb (rF_le hbr) (by omega) (by omega)
  have kc := fun (v u : Value) (W : World) (h : RsRow W v a) (k : RsRow W u b) => rcommon_any a b v u W h k har ba bb (rF_le hbr) (by omega) (by omega)
  have ko := fun (v u : Value) (W : World) (h : RsRow W v a) (k : RsRow W u b) => rwithout_any a b v u W h k har ba bb (rF_le hbr) (by omega) (by omega)
  have RSa : RS 60 a := ⟨har, ba, hn⟩
  have RSb : RS 60 b := ⟨hbr, bb, hm⟩
  have hU := RSa.union RSb
  have hC := RSa.common RSb
  have hW := RSa.without RSb
  have eu := fun (v u : Value) (W : World) (h : SpRow W v (unionL a b)) (k : RsRow W u (unionL a b)) => equals_yes _ v u W h k hU.b (by have := hU.l; omega)
  have ec := fun (v u : Value) (W : World) (h : SpRow W v (commonL a b)) (k : RsRow W u (commonL a b)) => equals_yes _ v u W h k hC.b (by have := hC.l; omega)
  have eo := fun (v u : Value) (W : World) (h : SpRow W v (withoutL a b)) (k : RsRow W u (withoutL a b)) => equals_yes _ v u W h k hW.b (by have := hW.l; omega)
  have cs1 := fun (v u : Value) (W : World) (h : SpRow W v a) (k : SpRow W u a) => same_yes a v u W h k (by omega)
  have cs2 := fun (v u : Value) (W : World) (h : SpRow W v b) (k : SpRow W u b) => same_yes b v u W h k (by omega)
  have lU := hU.l; have lC := hC.l; have lW := hW.l
  have RA := Lib.hid ra; have RB := Lib.hid rb
  obtain ⟨pa, capa, hva⟩ := sp_len ra
  obtain ⟨pb, capb, hvb⟩ := sp_len rb
  subst hva hvb
  unfold GivesR at ct1 ct2 ku kc ko
  unfold GivesO at cu cc co
  generalize unionL a b = U at *
  generalize commonL a b = C at *
  generalize withoutL a b = D at *
  clear ra rb ba bb he hq har hbr RSa RSb hU hC hW
  generalize a.length = N at *
  generalize b.length = M at *
  unfold Gives
  go_enter Tryz.func18, Tryz.ntmps18
  have d1 : decide ((60 : Int) < N) = false := decide_eq_false (by omega)
  have d3 : decide ((60 : Int) < M) = false := decide_eq_false (by omega)
  have d5 : decide ((4200 : Int) < N) = false := decide_eq_false (by omega)
  have d6 : decide ((4200 : Int) < M) = false := decide_eq_false (by omega)
  go_upto_region 13 with (first
    | (go_at_call 41; (with_reducible refine Calls.mono cl1 ?_); clear cl1; rintro e w' ⟨p1, c1, rfl, R1, x1, rfl⟩)
    | (go_at_call 41; (with_reducible refine Calls.mono (cl2 _ inferInstance) ?_); clear cl2; rintro e w' ⟨p2, c2, rfl, R2, x2, rfl⟩)
    | (go_at_call 42; (with_reducible refine Calls.mono (ct1 _ inferInstance) ?_); clear ct1; rintro e w' ⟨p3, c3, rfl, R3, x3, rfl⟩)
    | (go_at_call 42; (with_reducible refine Calls.mono (ct2 _ inferInstance) ?_); clear ct2; rintro e w' ⟨p4, c4, rfl, R4, x4, rfl⟩)
    | (go_at_call 13; (with_reducible refine Calls.mono (cu _ _ x4.w (R1.out.up upI) (R2.out.up upI)) ?_); clear cu; rintro e w' ⟨pu, u5, rfl, OU, x5, rfl⟩)
    | (go_at_call 14; (with_reducible refine Calls.mono (cc _ _ x5.w (R1.out.up upI) (R2.out.up upI)) ?_); clear cc; rintro e w' ⟨pc, uc, rfl, OC, x6, rfl⟩)
    | (go_at_call 15; (with_reducible refine Calls.mono (co _ _ x6.w (R1.out.up upI) (R2.out.up upI)) ?_); clear co; rintro e w' ⟨po, uo, rfl, OO, x7, rfl⟩)
    | (go_at_call 19; (with_reducible refine (ci _ _ x7.w (R1.out.up upI) (R2.out.up upI)).mono ?_); clear ci; rintro e w' ⟨rfl, x8, rfl⟩)
    | (go_at_call 43; (with_reducible refine (cw _ _ x8.w (R3.out.up upI) (R4.out.up upI)).mono ?_); clear cw; rintro e w' ⟨rfl, x9, rfl⟩)
    | (go_at_call 45; (with_reducible refine Calls.mono (ku _ _ x9.w (R3.out.up upI) (R4.out.up upI)) ?_); clear ku; rintro e w' ⟨p10, c10, rfl, R10, x10, rfl⟩)
    | (go_at_call 44; (with_reducible refine (eu _ _ x10.w (sp_row (owns_up OU.out upI)) R10.out).mono ?_); clear eu R10; rintro e w' ⟨rfl, x11, rfl⟩)
    | (go_at_call 46; (with_reducible refine Calls.mono (kc _ _ x11.w (R3.out.up upI) (R4.out.up upI)) ?_); clear kc; rintro e w' ⟨p12, c12, rfl, R12, x12, rfl⟩)
    | (go_at_call 44; (with_reducible refine (ec _ _ x12.w (sp_row (owns_up OC.out upI)) R12.out).mono ?_); clear ec R12; rintro e w' ⟨rfl, x13, rfl⟩)
    | (go_at_call 47; (with_reducible refine Calls.mono (ko _ _ x13.w (R3.out.up upI) (R4.out.up upI)) ?_); rintro e w' ⟨p14, c14, rfl, R14, x14, rfl⟩)
    | (go_at_call 44; (with_reducible refine (eo _ _ x14.w (sp_row (owns_up OO.out upI)) R14.out).mono ?_); clear eo R14; rintro e w' ⟨rfl, x15, rfl⟩)
    | (go_at_call 47; (with_reducible refine Calls.mono (ko _ _ x15.w (R3.out.up upI) (R4.out.up upI)) ?_); clear ko; rintro e w' ⟨p16, c16, rfl, R16, x16, rfl⟩))
  have rows : ∀ x ∈ ([(.slice pu U.length u5, U.length), (.slice pc C.length uc, C.length), (.slice po D.length uo, D.length)] : List VN), WrRow x4.w.heap.size 39 x16.w x.1 x.2 ∧ x.2 ≤ 1000 ∧ ∃ p c, x.1 = .slice p x.2 c := by
    intro x hx
    simp only [List.mem_cons, List.mem_nil_iff, or_false] at hx
    rcases hx with rfl | rfl | rfl
    · exact ⟨WrRow.of_owns (owns_up OU.out (upI : Up x5.w x16.w)) (Nat.le_refl _), by simp only; omega, _, _, rfl⟩
    · exact ⟨WrRow.of_owns (owns_up OC.out (upI : Up x6.w x16.w)) (upI : Up x4.w x5.w).size, by simp only; omega, _, _, rfl⟩
    · exact ⟨WrRow.of_owns (owns_up OO.out (upI : Up x7.w x16.w)) (upI : Up x4.w x6.w).size, by simp only; omega, _, _, rfl⟩
  have Q1 := Lib.hid (R1.out.up (upI : Up x1.w x4.w)); have Q2 := Lib.hid (R2.out.up (upI : Up x2.w x4.w))
  have P1 := Lib.hid (RA.out.up (upI : Up w x4.w)); have P2 := Lib.hid (RB.out.up (upI : Up w x4.w))
  have HW4 := Lib.hid (upI : Up w x4.w)
  obtain ⟨A, hA⟩ : ∃ A, x16.w.heap.size = A := ⟨_, rfl⟩
  obtain ⟨sets, hsets⟩ : ∃ sets : List VN, sets = [(.slice pu U.length u5, U.length), (.slice pc C.length uc, C.length), (.slice po D.length uo, D.length)] := ⟨_, rfl⟩
  have hlen : sets.length = 3 := by rw [hsets]; rfl
  clear R1 R2 R3 R4 OU OC OO RA RB
  go_upto_region 14 with fail
  refine wp_letterS (fun Z => OverSt x4.w A 25 39 sets Z) ?hst ?_
  case hst =>
    subst hA
    exact ⟨(upI : Up x4.w x16.w).alloc _, by rw [alloc_get, if_pos rfl, hsets]; rfl, fun x hx => ((rows x (hsets ▸ hx)).1).up ((Up.refl _).alloc _)⟩
  (try rw [hA])
  rintro Z hZ
  have rows2 := Lib.hid (fun x (hx : x ∈ sets) => (rows x (hsets ▸ hx)).2)
  have Hlen := Lib.hid hlen
  clear rows hsets hA hlen
  go_loopw [164] (fun i wr => ∃ k : Nat, k ≤ 3 ∧ i = .int .i64 (k : Int) ∧ OverSt x4.w A 25 39 sets wr) (fun i _ => 3 - (intOf i).toNat)
  case atStart => exact ⟨0, by omega, rfl, hZ⟩
  case round =>
    clear hZ
    obtain ⟨k, hk, rfl, hov⟩ := hrel
    by_cases hlt : k < 3
    · have hlt' : (k : Int) < 3 := by omega
      have k0 : (0 : Int) ≤ (k : Int) := by omega
      obtain ⟨s, hs⟩ : ∃ s, sets[k]? = some s := ⟨_, List.getElem?_eq_getElem (by rw [Hlen.out]; exact hlt)⟩
      obtain ⟨hnb, ps, cs, hv⟩ := rows2.out s (List.mem_of_getElem? hs)
      have cA : wr.cell? ⟨A, k, none⟩ = some (.slice ps s.2 cs) := by rw [cell_of_cells hov.lit]; simp [hs, hv]
      haveI : LtSize A wr := ⟨cell_lt' cA⟩
      have Hs := Lib.hid hs; have Hv := Lib.hid hv
      obtain ⟨n, hn⟩ : ∃ n, s.2 = n := ⟨_, rfl⟩
      rw [hn] at cA hv Hv hnb
      have Hn := Lib.hid hn
      have n0 : (0 : Int) ≤ (n : Int) := by omega
      clear hs hv hn
      go_upto_region 17 with fail
      go_loopw [170] (fun i W => ∃ j : Nat, j ≤ n ∧ i = .int .i64 (j : Int) ∧ OverSt x4.w A 25 39 sets W) (fun i _ => n - (intOf i).toNat)
      case atStart => exact ⟨0, by omega, rfl, hov⟩
      case round =>
        clear hov cA
        obtain ⟨j, hj, rfl, hov⟩ := hrel
        by_cases hjl : j < n
        · have hjl' : (j : Int) < (n : Int) := by omega
          have j0 : (0 : Int) ≤ (j : Int) := by omega
          have hrow := hov.rows s (List.mem_of_getElem? Hs.out)
          rw [Hn.out, Hv.out] at hrow
          obtain ⟨g, cap, hp, hg, hgw, ⟨u0, c0⟩, ⟨u1, c1⟩, hfz⟩ := wr_lt hrow hjl
          simp only [Value.slice.injEq, true_and] at hp
          obtain ⟨rfl, rfl⟩ := hp
          have hne := wr_ne hrow hov.lit (by decide)
          have f0 := hfz (j * 2); have f1 := hfz (j * 2 + 1)
          haveI : LtSize g wr := ⟨hgw⟩
          haveI : In64 ((j : Int) + 1) := ⟨by omega⟩
          have hg' := Lib.hid hg
          clear hrow hfz
          go_wp2_with fail
          go_roundw
          case rel => exact ⟨j + 1, by omega, by go_num, (hov.set hg'.out hne _).set hg'.out hne _⟩
          case measure => simp [intOf]; omega
        · obtain rfl : j = n := by omega
          have jn : ¬ (j : Int) < (j : Int) := by omega
          go_wp2_with fail
          go_roundw
          case rel => exact ⟨k + 1, by omega, by go_num, hov⟩
          case measure => simp [intOf]; omega
    · obtain rfl : k = 3 := by omega
      haveI : UpI x4.w wr := ⟨hov.up⟩
      haveI : UpI w wr := ⟨HW4.out.trans hov.up⟩
      go_wp2_with (first
        | (go_at_call 26; (with_reducible refine (cs1 _ _ wr (Q1.out.up upI) (P1.out.up upI)).mono ?_); clear cs1; rintro e w' ⟨rfl, y1, rfl⟩)
        | (go_at_call 26; (with_reducible refine (cs2 _ _ y1.w (Q2.out.up upI) (P2.out.up upI)).mono ?_); clear cs2; rintro e w' ⟨rfl, y2, rfl⟩))
      go_ret
      exact ⟨rfl, mkI⟩
/-- Whatever two sets are given. -/
theorem two_any (a b : List Sp) (va vb : Value) (w : World) (ra : SpRow w va a) (rb : SpRow w vb b) (ba : ∀ x ∈ a, SpB x) (bb : ∀ x ∈ b, SpB x) : Gives Tryz.prog 18 #[va, vb] w (.bool true) := by
  by_cases hin : TwoIn a.length b.length
  · by_cases he : wrongLs [a, b] = 0
    · exact two_yes a b va vb w ra rb ba bb hin he
    · exact two_no a b va vb w ra rb ba bb hin _ rfl (by simpa using he)
  · obtain ⟨pa, ca, rfl⟩ := sp_len ra
    obtain ⟨pb, cb, rfl⟩ := sp_len rb
    exact two_skip _ _ hin pa pb ca cb w
set_option maxHeartbeats 8000000 in
set_option maxRecDepth 100000 in
theorem stwo_any (a b : List Sp) (va vb : Value) (w : World) (g : Good w) (ra : SpRow w va a) (rb : SpRow w vb b) (ba : ∀ x ∈ a, SpB x) (bb : ∀ x ∈ b, SpB x) : Gives Tryz.prog 4 #[va, vb] w (.bool true) := by
  have c := two_any a b va vb w ra rb ba bb
  clear ra rb ba bb
  unfold Gives
  go_enter Tryz.func4, Tryz.ntmps4
  go_wp2_with (first
    | (go_at_call 18; refine c.mono ?_; clear c; rintro e w' ⟨rfl, x0, rfl⟩)
    | (go_at_call 11; refine (spawake_any _ (g.up upI)).mono ?_; rintro e w' ⟨rfl, x1, rfl⟩))
  go_ret
  exact ⟨rfl, mkI⟩
end Go.Proofs.YtgfkcbflnkpogaaGreatDoor
