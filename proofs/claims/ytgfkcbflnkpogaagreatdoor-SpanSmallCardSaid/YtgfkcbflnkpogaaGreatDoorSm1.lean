/- SpanWrong, walked. SpanSmall's closure: the set of the bits of a number. -/
import Derived.Test.YtgfkcbflnkpogaaGreatDoorSpWrP
import Derived.Deep.CutBlock
import Derived.Deep.DeepCutAuto
set_option linter.unusedSimpArgs false
set_option linter.unusedVariables false
namespace Go.Ab
open Go.RowKit
theorem flat_set {α : Type} {cells : α → List Value} {k : Nat} (hk : ∀ e, (cells e).length = k) : ∀ (l : List α) (j f : Nat) (x x' : α) (u : Value), l[j]? = some x → f < k → (cells x).set f u = cells x' → (l.flatMap cells).set (j * k + f) u = (l.set j x').flatMap cells
  | [], j, f, x, x', u, h, _, _ => by simp at h
  | y :: l, 0, f, x, x', u, h, hf, he => by
    simp only [List.getElem?_cons_zero, Option.some.injEq] at h
    subst h
    rw [Nat.zero_mul, Nat.zero_add, List.set_cons_zero, List.flatMap_cons, List.flatMap_cons, List.set_append_left _ _ (by rw [hk]; exact hf), he]
  | y :: l, j + 1, f, x, x', u, h, hf, he => by
    simp only [List.getElem?_cons_succ] at h
    have hle : k ≤ (j + 1) * k + f := by rw [Nat.succ_mul]; omega
    rw [List.set_cons_succ, List.flatMap_cons, List.flatMap_cons, List.set_append_right _ _ (by rw [hk]; exact hle), hk, show (j + 1) * k + f - k = j * k + f by rw [Nat.succ_mul]; omega, flat_set hk l j f x x' u h hf he]
theorem sp_store0 {W : World} {base g N c : Nat} {t : TypeId} {l : List Sp} {j : Nat} {x : Sp} (n : Int) (h : W.ownsRow base t 2 (.slice (some ⟨g, 0, none⟩) N c) N (l.flatMap spCells)) (hx : l[j]? = some x) :
    (W.setCell ⟨g, j * 2, none⟩ (.int .u32 n)).ownsRow base t 2 (.slice (some ⟨g, 0, none⟩) N c) N ((l.set j (n, x.2)).flatMap spCells) := by
  have := (World.ownsRow.stored h (j * 2) (.int .u32 n)).1
  rw [show j * 2 = j * 2 + 0 from rfl, flat_set spCells_length l j 0 x (n, x.2) (.int .u32 n) hx (by decide) rfl] at this
  exact this
theorem sp_store1 {W : World} {base g N c : Nat} {t : TypeId} {l : List Sp} {j : Nat} {x : Sp} (n : Int) (h : W.ownsRow base t 2 (.slice (some ⟨g, 0, none⟩) N c) N (l.flatMap spCells)) (hx : l[j]? = some x) :
    (W.setCell ⟨g, j * 2 + 1, none⟩ (.int .u32 n)).ownsRow base t 2 (.slice (some ⟨g, 0, none⟩) N c) N ((l.set j (x.1, n)).flatMap spCells) := by
  have := (World.ownsRow.stored h (j * 2 + 1) (.int .u32 n)).1
  rw [flat_set spCells_length l j 1 x (x.1, n) (.int .u32 n) hx (by decide) rfl] at this
  exact this
end Go.Ab
namespace Go.Proofs.YtgfkcbflnkpogaaGreatDoor
open Go.RowKit Go.Ab
attribute [local go_sem high] wrapI64 wrapK64 wrapU32
set_option maxHeartbeats 64000000 in
set_option maxRecDepth 100000 in
theorem swrong_any (l : List SPc) (at_ way : Int) (vl : Value) (w : World) (g : Good w) (rl : PcRow w vl l) (bl : ∀ x ∈ l, SPcB x) (ll : l.length ≤ 9223372036854775807) (a0 : 0 ≤ at_) (a1 : at_ < 256) (y0 : 0 ≤ way) (y1 : way < 256) :
    Gives Tryz.prog 5 #[vl, .int .u8 at_, .int .u8 way] w (.bool true) := by
  have m1 := fun (W : World) (u : UpI w W) => made_row l vl W (rl.up u.up) bl ll
  have ha := RS.made bl
  obtain ⟨pl, cl, hvl, _⟩ := rl
  have Hvl := Lib.hid hvl
  clear bl hvl
  generalize madeS l = a at *
  have Ha := Lib.hid ha
  have la := ha.l
  clear ha
  obtain ⟨N, hN⟩ : ∃ N, a.length = N := ⟨_, rfl⟩
  rw [hN] at m1 la
  have HN := Lib.hid hN
  obtain ⟨i0, hi, hy0, hy1, hy2⟩ := info_parts infoSpan
  have Hi := Lib.hid hi; have Hy0 := Lib.hid hy0; have Hy1 := Lib.hid hy1; have Hy2 := Lib.hid hy2
  clear hi hy0 hy1 hy2 hN
  unfold Gives
  go_enter Tryz.func5, Tryz.ntmps5
  by_cases h2 : N < 2
  · have h2' : (N : Int) < 2 := by omega
    go_wp2_with (first
      | (go_at_call 11; refine (spawake_any _ g).mono ?_; rintro e w' ⟨rfl, x0, rfl⟩)
      | (go_at_call 12; (with_reducible refine (m1 x0.w inferInstance).mono ?_); clear m1; rintro e w' ⟨pa, ca, rfl, Ra, xa, rfl⟩))
    go_ret
    exact ⟨rfl, mkI⟩
  · have h2' : ¬ (N : Int) < 2 := by omega
    obtain ⟨j, hj⟩ : ∃ j : Nat, at_ % ((N : Int) - 1) = (j : Int) := ⟨(at_ % ((N : Int) - 1)).toNat, by have := Int.emod_nonneg at_ (show (N : Int) - 1 ≠ 0 by omega); omega⟩
    have hjN : j < N - 1 := by have := Int.emod_lt_of_pos at_ (show 0 < (N : Int) - 1 by omega); omega
    have hmod : at_.tmod ((N : Int) - 1) = (j : Int) := by rw [Int.tmod_eq_emod_of_nonneg a0]; exact hj
    obtain ⟨d, hd⟩ : ∃ d, way % 4 = d := ⟨_, rfl⟩
    have hd4 : d = 0 ∨ d = 1 ∨ d = 2 ∨ d = 3 := by omega
    have hdm : way.tmod 4 = d := by rw [Int.tmod_eq_emod_of_nonneg y0]; exact hd
    haveI : In64 ((N : Int) - 1) := ⟨by omega⟩
    haveI : In64 (1 + (j : Int)) := ⟨by omega⟩
    obtain ⟨x, hx⟩ : ∃ x, a[j]? = some x := ⟨_, List.getElem?_eq_getElem (by rw [HN.out]; omega)⟩
    obtain ⟨y, hy⟩ : ∃ y, a[j + 1]? = some y := ⟨_, List.getElem?_eq_getElem (by rw [HN.out]; omega)⟩
    have Hx := Lib.hid hx; have Hy := Lib.hid hy; have Hd := Lib.hid hd; have Hd4 := Lib.hid hd4
    have hnz : ((N : Int) - 1 == 0) = false := by simp; omega
    have hnz' : ¬ ((N : Int) - 1 = 0) := by omega
    clear hj hd hd4 hx hy
    go_upto_region 8 with (first
      | (go_at_call 11; refine (spawake_any _ g).mono ?_; rintro e w' ⟨rfl, x0, rfl⟩)
      | (go_at_call 12; (with_reducible refine (m1 x0.w inferInstance).mono ?_); clear m1; rintro e w' ⟨pa, ca, rfl, Ra, xa, rfl⟩)
      | (at_builtin; refine wpList_append_list (cells := spCells) (k := 2) spCells_length sp_oneB (by decide) rfl _ _ 25 rfl xa.w.heap.size 39 i0 (.agg #[.int .u32 0, .int .u32 0]) 8 Tryz.underlying25 Hi.out Hy0.out Hy1.out Hy2.out rfl [] _ rfl (World.ownsRow_made xa.w #[] 0 (Nat.le_refl _) (by decide) (by simp)) a _ rfl (Ra.out.up upI) (by rw [HN.out]; unfold maxLen; simp; omega) (by rw [HN.out]; simp; omega) (upI : Up xa.w _).size ?_; intro v' w1 hown' hgrow))
    rw [List.nil_append, HN.out] at hown'
    have hup1 : Up xa.w w1 := (upI : Up xa.w _).grown hgrow (fun k hk => by cases hk; exact Nat.le_refl _)
    haveI : UpI xa.w w1 := ⟨hup1⟩
    haveI : UpI w w1 := ⟨(upI : Up w xa.w).trans hup1⟩
    rcases owns_sliceS hown' with ⟨_, h0⟩ | ⟨gg, c, rfl, hg1, hgw⟩
    · omega
    have HO := Lib.hid hown'
    obtain ⟨m, hm⟩ : ∃ m, m = j + 1 := ⟨_, rfl⟩
    have hmi : (1 : Int) + (j : Int) = (m : Int) := by omega
    have hmj : (m : Int) - 1 = (j : Int) := by omega
    have cc := fun (l : List Sp) (k : Nat) (z : Sp) (e : l[k]? = some z) => (⟨flat_at (cells := spCells) (k := 2) spCells_length l k 0 z _ e rfl, flat_at (cells := spCells) (k := 2) spCells_length l k 1 z _ e rfl⟩ : _ ∧ _)
    have k0 : w1.cell? ⟨gg, j * 2, none⟩ = some (.int .u32 x.1) := by rw [World.ownsRow.cellAt HO.out (j * 2) (by omega)]; exact (cc a j x Hx.out).1
    have k1 : w1.cell? ⟨gg, j * 2 + 1, none⟩ = some (.int .u32 x.2) := by rw [World.ownsRow.cellAt HO.out (j * 2 + 1) (by omega)]; exact (cc a j x Hx.out).2
    have k2 : w1.cell? ⟨gg, m * 2, none⟩ = some (.int .u32 y.1) := by rw [World.ownsRow.cellAt HO.out (m * 2) (by omega), hm]; exact (cc a (j + 1) y Hy.out).1
    have k3 : w1.cell? ⟨gg, m * 2 + 1, none⟩ = some (.int .u32 y.2) := by rw [World.ownsRow.cellAt HO.out (m * 2 + 1) (by omega), hm]; exact (cc a (j + 1) y Hy.out).2
    have f0 := World.ownsRow.frozenAt HO.out (j * 2); have f1 := World.ownsRow.frozenAt HO.out (j * 2 + 1); have f2 := World.ownsRow.frozenAt HO.out (m * 2); have f3 := World.ownsRow.frozenAt HO.out (m * 2 + 1)
    haveI : LtSize gg w1 := ⟨hgw⟩
    haveI : GeSize xa.w gg := ⟨hg1⟩
    haveI : GeSize w gg := ⟨Nat.le_trans (upI : Up w xa.w).size hg1⟩
    have Hm := Lib.hid hm
    have m0 : (0 : Int) ≤ (m : Int) := by omega
    have mN : (m : Int) < (N : Int) := by omega
    have j0 : (0 : Int) ≤ (j : Int) := by omega
    have jN : (j : Int) < (N : Int) := by omega
    have xb := Ha.out.b x (List.mem_of_getElem? Hx.out)
    have yb := Ha.out.b y (List.mem_of_getElem? Hy.out)
    obtain ⟨xf0, xf1, xt0, xt1⟩ := xb
    obtain ⟨yf0, yf1, yt0, yt1⟩ := yb
    have hxy := rF_next Ha.out.r Hx.out Hy.out
    have lxx := rF_le Ha.out.r x (List.mem_of_getElem? Hx.out)
    haveI : InU32 (x.2 + 1) := ⟨by omega⟩
    haveI : In64 (m : Int) := ⟨by omega⟩
    haveI : In64 (j : Int) := ⟨by omega⟩
    rw [hmi]
    clear hown' hgrow hmi hm cc hmod hnz hnz'
    go_upto_block 0 with fail
    go_cut [74] (fun _ wx => UpI xa.w wx ∧ UpI w wx ∧ Hid (SpRow wx (.slice (some ⟨gg, 0, none⟩) N c) (wrS a j x y d)) ∧ Hid (WrIn a j x y d))
    case first =>
      have WI := fun (h : d = 3 → y.2 + 1 < 4294967296) => Lib.hid (show WrIn a j x y d from ⟨⟨40, Ha.out⟩, Hx.out, Hy.out, by have := Hd4.out; omega, by have := Hd4.out; omega, h⟩)
      have HR := Lib.hid (fun (W : World) (l : List Sp) (h : W.ownsRow xa.w.heap.size 39 2 (.slice (some ⟨gg, 0, none⟩) N c) N (l.flatMap spCells)) (hl : l.length = N) => Lib.hid (show SpRow W (.slice (some ⟨gg, 0, none⟩) N c) l from sp_row (by rw [hl]; exact h)))
      rcases Hd4.out with rfl | rfl | rfl | rfl
      · have W1 := Lib.hid (WI (by omega))
        clear WI
        go_wp2_with fail
        go_region
        all_goals
          go_wp2_with fail
          go_meet
          refine ⟨inferInstance, inferInstance, HR.out _ _ (World.ownsRow.drew ?_) (wrS_len ..|>.trans HN.out), W1.out⟩
          have h1 := sp_store1 y.2 (sp_store0 y.1 HO.out Hx.out) (List.getElem?_set_self (by rw [HN.out]; omega))
          have hyy : ((a.set j (y.1, x.2)).set j (y.1, y.2))[j + 1]? = some y := by rw [List.getElem?_set_ne (by omega), List.getElem?_set_ne (by omega)]; exact Hy.out
          have h2 := sp_store1 x.2 (sp_store0 x.1 h1 hyy) (List.getElem?_set_self (by simp; rw [HN.out]; omega))
          rw [List.set_set, List.set_set, ← Hm.out] at h2
          rw [Hm.out] at h2 ⊢
          exact h2
      · have W1 := Lib.hid (WI (by omega))
        clear WI
        go_wp2_with fail
        go_meet
        refine ⟨inferInstance, inferInstance, HR.out _ _ ?_ (wrS_len ..|>.trans HN.out), W1.out⟩
        have := sp_store0 (x.2 + 1) HO.out Hy.out
        rw [Hm.out]
        exact this
      · have W1 := Lib.hid (WI (by omega))
        clear WI
        go_wp2_with fail
        go_meet
        refine ⟨inferInstance, inferInstance, HR.out _ _ ?_ (wrS_len ..|>.trans HN.out), W1.out⟩
        have := sp_store0 x.1 HO.out Hy.out
        rw [Hm.out]
        exact this
      · by_cases htop : y.2 + 1 = 4294967296
        · have ew : IntKind.u32.wrap (y.2 + 1) = 0 := by rw [IntKind.wrap_u32, htop]; rfl
          clear WI
          go_wp2_with fail
          go_region
          all_goals
            (try simp only [ew])
            go_wp2_with fail
            go_ret
            exact ⟨rfl, mkI⟩
        · have W1 := Lib.hid (WI (by omega))
          haveI : InU32 (y.2 + 1) := ⟨by omega⟩
          have hn0 : (y.2 + 1 == 0) = false := by simp; omega
          clear WI
          go_wp2_with fail
          go_region
          all_goals
            go_wp2_with fail
            go_meet
            refine ⟨inferInstance, inferInstance, HR.out _ _ (World.ownsRow.drew ?_) (wrS_len ..|>.trans HN.out), W1.out⟩
            have h2 := sp_store1 y.1 (sp_store0 (y.2 + 1) HO.out Hy.out) (List.getElem?_set_self (by rw [HN.out]; omega))
            rw [List.set_set, ← Hm.out] at h2
            rw [Hm.out] at h2 ⊢
            exact h2
    case rest =>
      obtain ⟨uA, uw, hrow, hwi⟩ := hcut
      haveI := uA; haveI := uw
      have hno := wrS_no hwi.out
      have hb := wrS_b hwi.out
      have hbad := wrS_bad hwi.out
      have hlen := wrS_len a j x y d
      generalize wrS a j x y d = s at *
      rw [HN.out] at hlen
      have ls : s.length ≤ 4096 := by omega
      have lA : a.length ≤ 4096 := by rw [HN.out]; omega
      have w1s := wrongL_no hno ls
      have hml : ∀ (l r : List Sp), l.length ≤ 4096 → r.length ≤ 4096 → s ∈ [l, r] → wrongLs [l, r] = 2 := fun l r h1 h2 h => wrongLs_mem h hno (fun q hq => by
        simp only [List.mem_cons, List.mem_nil_iff, or_false] at hq
        rcases hq with rfl | rfl
        · exact h1
        · exact h2)
      have R1 := hrow.out
      have RA := Ra.out.up (upI : Up xa.w wc)
      have hba := Ha.out.b
      have c1 := fun (W : World) (u : UpI wc W) => spcount_no s _ W (R1.up u.up) hb (by omega) 2 w1s rfl
      have c2 := fun (W : World) (u : UpI wc W) => spunion_no s a _ _ W (R1.up u.up) (RA.up u.up) hb hba (by omega) (by omega) 2 (hml s a ls lA (by simp)) rfl
      have c3 := fun (W : World) (u : UpI wc W) => spcommon_no a s _ _ W (RA.up u.up) (R1.up u.up) hba hb (by omega) (by omega) 2 (hml a s lA ls (by simp)) rfl
      have c4 := fun (W : World) (u : UpI wc W) => spwithout_no s [] _ (.slice none 0 0) W (R1.up u.up) (RowOf.nil W) hb (fun x hx => (List.not_mem_nil hx).elim) (by omega) (by simp) 2 (hml s [] ls (by simp) (by simp)) rfl
      have c5 := fun (W : World) (u : UpI wc W) => spothers_no s _ W (R1.up u.up) hb (by omega) 2 w1s rfl
      have c6 := fun (W : World) (u : UpI wc W) => spwithin_no [] s (.slice none 0 0) _ W (RowOf.nil W) (R1.up u.up) (fun x hx => (List.not_mem_nil hx).elim) hb (by simp) (by omega) 2 (hml [] s (by simp) ls (by simp)) rfl
      have c7 := fun (W : World) (u : UpI wc W) => spprefixes_no s _ W (R1.up u.up) hb (by omega) 2 w1s rfl
      have c8 := fun (W : World) (u : UpI wc W) => sptext_no s _ W (R1.up u.up) hb (by omega) 2 w1s rfl
      obtain ⟨e9, he9⟩ : ∃ e9 : Int, (if d = 3 then 2 else 0) = e9 := ⟨_, rfl⟩
      have c9 := fun (W : World) (u : UpI wc W) => (spof_any s _ W (R1.up u.up) hb ls).mono (R' := fun e w' => ∃ u, e = .returned (.tuple #[u, .int .i64 e9]) ∧ ∃ x : Ext W, w' = x.w) (fun e w' ⟨h1, h2⟩ => by
        rcases h1 with ⟨h3, h4⟩ | ⟨h3, v, h4, _⟩
        · rw [hbad] at h3
          rw [if_pos (of_decide_eq_true h3)] at he9
          subst he9
          exact ⟨_, h4, h2⟩
        · rw [hbad] at h3
          rw [if_neg (of_decide_eq_false h3)] at he9
          subst he9
          exact ⟨_, h4, h2⟩)
      have c10 := fun (W : World) (u : UpI wc W) => (spright_any s _ W (R1.up u.up) hb (by omega)).cast (v := .bool false) (by rw [hno])
      have q1 : (e9 == 2) = (d == 3) := by
        rw [← he9]
        by_cases h : d = 3
        · subst h; rfl
        · rw [if_neg h]; simp [h]
      have q2 : (e9 == 0) = decide (d < 3) := by
        have := Hd4.out
        rw [← he9]
        by_cases h : d = 3
        · subst h; rfl
        · rw [if_neg h]; have h3 : d < 3 := by omega
          simp [h3]
      clear hwi hrow hno hb hbad R1 RA hml he9 k0 k1 k2 k3 f0 f1 f2 f3
      go_upto_region 28 with (first
        | (go_at_call 17; (with_reducible refine (c1 _ inferInstance).mono ?_); clear c1; rintro e w' ⟨rfl, y1, rfl⟩)
        | (go_at_call 13; (with_reducible refine (c2 _ inferInstance).mono ?_); clear c2; rintro e w' ⟨rfl, y2, rfl⟩)
        | (go_at_call 14; (with_reducible refine (c3 _ inferInstance).mono ?_); clear c3; rintro e w' ⟨rfl, y3, rfl⟩)
        | (go_at_call 15; (with_reducible refine (c4 _ inferInstance).mono ?_); clear c4; rintro e w' ⟨rfl, y4, rfl⟩)
        | (go_at_call 16; (with_reducible refine (c5 _ inferInstance).mono ?_); clear c5; rintro e w' ⟨rfl, y5, rfl⟩)
        | (go_at_call 19; (with_reducible refine (c6 _ inferInstance).mono ?_); clear c6; rintro e w' ⟨rfl, y6, rfl⟩)
        | (go_at_call 20; (with_reducible refine (c7 _ inferInstance).mono ?_); clear c7; rintro e w' ⟨rfl, y7, rfl⟩)
        | (go_at_call 21; (with_reducible refine (c8 _ inferInstance).mono ?_); clear c8; rintro e w' ⟨rfl, y8, rfl⟩)
        | (go_at_call 22; (with_reducible refine Calls.mono (c9 _ inferInstance) ?_); clear c9; rintro e w' ⟨v9, rfl, y9, rfl⟩))
      obtain ⟨A, hA⟩ : ∃ A, y9.w.heap.size = A := ⟨_, rfl⟩
      refine wp_letterS (fun Z => UpI wc Z ∧ ∀ k : Nat, k < 8 → Z.cell? ⟨A, k, none⟩ = some (.int .i64 2)) ?hst ?_
      case hst =>
        subst hA
        refine ⟨inferInstance, fun k hk => ?_⟩
        rw [World.cell?_alloc_at _ _ _ _ rfl]
        have h8 : k = 0 ∨ k = 1 ∨ k = 2 ∨ k = 3 ∨ k = 4 ∨ k = 5 ∨ k = 6 ∨ k = 7 := by omega
        rcases h8 with rfl | rfl | rfl | rfl | rfl | rfl | rfl | rfl <;> rfl
      rw [hA]
      rintro Z ⟨uZ, hc⟩
      haveI := uZ
      haveI : UpI w Z := ⟨uw.up.trans uZ.up⟩
      haveI : LtSize A Z := ⟨cell_lt' (hc 0 (by decide))⟩
      clear hA Ha Hvl Hx Hy HN HO Hm
      go_loopw [174] (fun i wr => ∃ k : Nat, k ≤ 8 ∧ i = .int .i64 (k : Int) ∧ ∃ x : Ext Z, wr = x.w) (fun i _ => 8 - (intOf i).toNat)
      case atStart => exact ⟨0, Nat.zero_le _, rfl, (Up.refl Z).mk⟩
      case round =>
        obtain ⟨k, hk, rfl, x9, rfl⟩ := hrel
        by_cases hlt : k < 8
        · have hlt' : (k : Int) < 8 := by omega
          have k0 : (0 : Int) ≤ (k : Int) := by omega
          have hck := hc k hlt
          clear hc
          go_wp2_with fail
          go_roundw
          case rel => exact ⟨k + 1, by omega, by go_num, mkI⟩
          case measure => simp [intOf]; omega
        · have hge : ¬ (k : Int) < 8 := by omega
          clear hc
          go_wp2_with (go_at_call 23; (with_reducible refine (c10 _ inferInstance).mono ?_); clear c10; rintro e w' ⟨rfl, y10, rfl⟩)
          go_ret
          exact ⟨rfl, mkI⟩
end Go.Proofs.YtgfkcbflnkpogaaGreatDoor
set_option linter.unusedSimpArgs false
set_option linter.unusedVariables false
namespace Go.Proofs.YtgfkcbflnkpogaaGreatDoor
open Go.RowKit Go.Ab
attribute [local go_sem high] wrapI64 wrapK64 wrapU32
set_option maxHeartbeats 32000000 in
set_option maxRecDepth 100000 in
theorem bitset_any (bits first : Int) (w : World) (f0 : 0 ≤ first) (f1 : first ≤ 4294967290) (b0 : 0 ≤ bits) (b1 : bits < 4096) :
    Calls Tryz.prog 31 #[.int .i64 bits, .int .u32 first] w fun e w' => ∃ (v : Value) (L : List Sp), e = .returned v ∧ Hid (SpRow w' v L) ∧ Hid (∀ x ∈ L, SpB x) ∧ L.length ≤ 6 ∧ ∃ x : Ext w, w' = x.w := by
  obtain ⟨i0, hi, hy0, hy1, hy2⟩ := info_parts infoSpan
  have Hi := Lib.hid hi; have Hy0 := Lib.hid hy0; have Hy1 := Lib.hid hy1; have Hy2 := Lib.hid hy2
  clear hi hy0 hy1 hy2
  go_enter Tryz.func31, Tryz.ntmps31
  go_wp2_with fail
  go_loopw [5, 7] (fun u i wr => ∃ (k : Nat) (L : List Sp), k ≤ 6 ∧ i = .int .u32 (k : Int) ∧ L.length ≤ k ∧ Hid (∀ x ∈ L, 0 ≤ x.1 ∧ x.1 < 4294967296 ∧ 0 ≤ x.2 ∧ x.2 < first + k) ∧ Hid (wr.ownsRow w.heap.size 39 2 u L.length (L.flatMap spCells)) ∧ Up w wr) (fun _ i _ => 6 - (intOf i).toNat)
  case atStart => exact ⟨0, [], Nat.zero_le _, rfl, Nat.zero_le _, Lib.hid (fun x h => (List.not_mem_nil h).elim), Lib.hid (World.ownsRow_nil _ _ _ _), Up.refl _⟩
  case round =>
    obtain ⟨k, L, hk, rfl, hLk, HB, Hown, hup⟩ := hrel
    haveI : UpI w wr := ⟨hup⟩
    by_cases hlt : k < 6
    · have hlt' : (k : Int) < 6 := by omega
      have k0 : (0 : Int) ≤ (k : Int) := by omega
      have HBs := Lib.hid (fun (x : Sp) (hx : x ∈ L) => (show 0 ≤ x.1 ∧ x.1 < 4294967296 ∧ 0 ≤ x.2 ∧ x.2 < first + ((k + 1 : Nat) : Int) from by have := HB.out x hx; omega))
      haveI : InU32 (first + (k : Int)) := ⟨by omega⟩
      haveI : InU32 ((k : Int) + 1) := ⟨by omega⟩
      go_upto_region 5 with fail
      go_cut [14] (fun v wx => (∃ q : Bool, v = .bool q) ∧ wr = wx)
      case first =>
        go_wp2_with fail
        all_goals
          go_meet
          exact ⟨⟨_, rfl⟩, rfl⟩
      case rest =>
        obtain ⟨⟨q, rfl⟩, rfl⟩ := hcut
        cases q
        · obtain ⟨pu, cu, hu⟩ := owns_sliceN Hown.out
          rcases snoc_or L with rfl | ⟨p, y, rfl⟩
          · rw [List.length_nil] at hu
            subst hu
            go_wp2_with (at_builtin; refine wpList_append_list (cells := spCells) (k := 2) spCells_length sp_oneB (by decide) rfl _ _ 25 rfl w.heap.size 39 i0 (.agg #[.int .u32 0, .int .u32 0]) 8 Tryz.underlying25 Hi.out Hy0.out Hy1.out Hy2.out rfl [] _ rfl (owns_up Hown.out (upI : Up wr _)) [(first + (k : Int), first + (k : Int))] _ rfl (one_rowA wr (first + (k : Int), first + (k : Int)) _ rfl) (by unfold maxLen; simp) (by simp) (upI : Up w _).size ?_; intro v2 w2 hown2 hgrow2)
            have hup3 : Up w w2 := (upI : Up w _).grown hgrow2 (owns_row Hown.out)
            have HO2 := Lib.hid hown2
            clear hown2 hgrow2
            go_wp2_with fail
            go_roundw
            case rel => exact ⟨k + 1, [(first + (k : Int), first + (k : Int))], by omega, by go_num, by simp, Lib.hid (fun x hx => by rw [List.mem_singleton.1 hx]; simp only; omega), HO2, hup3⟩
            case measure => simp [intOf] <;> omega
          · clear hu
            obtain ⟨m, hm⟩ : ∃ m, p.length = m := ⟨_, rfl⟩
            have hNm : (p ++ [y]).length = m + 1 := by simp [hm]
            have hown := Hown.out
            rw [hNm] at hown hLk
            obtain ⟨_, h0⟩ | ⟨g, cap, rfl, hg, hgw⟩ := owns_sliceS hown
            · omega
            have cy : wr.cell? ⟨g, m * 2 + 1, none⟩ = some (.int .u32 y.2) := by
              rw [World.ownsRow.cellAt hown (m * 2 + 1) (by omega)]
              exact flat_at (cells := spCells) (k := 2) spCells_length (p ++ [y]) m 1 y (.int .u32 y.2) (by simp [← hm]) rfl
            have fy := World.ownsRow.frozenAt hown (m * 2 + 1)
            have Hst := Lib.hid (World.ownsRow.stored hown (m * 2 + 1) (.int .u32 (y.2 + 1)))
            have HS := Lib.hid (flat_set_last p y (y.2 + 1))
            have hyb := HB.out y (by simp)
            haveI : LtSize g wr := ⟨hgw⟩
            haveI : GeSize w g := ⟨hg⟩
            haveI : InU32 (y.2 + 1) := ⟨by omega⟩
            haveI : In64 (m : Int) := ⟨by omega⟩
            have e1 : ((m + 1 : Nat) : Int) - 1 = (m : Int) := by omega
            have e2 : (m : Int) + 1 - 1 = (m : Int) := by omega
            have e3 : (0 : Int) < ((m + 1 : Nat) : Int) := by omega
            have m0 : (0 : Int) ≤ (m : Int) := by omega
            have Hm := Lib.hid hm
            obtain ⟨n, hn⟩ : ∃ n, m + 1 = n := ⟨_, rfl⟩
            have hn1 : (n : Int) - 1 = (m : Int) := by omega
            have hn0 : decide ((0 : Int) < n) = true := decide_eq_true (by omega)
            have hmn : (m : Int) < (n : Int) := by omega
            rw [hn] at hown Hst ⊢
            have Hn := Lib.hid hn
            have HO := Lib.hid hown
            have Hnm := Lib.hid hNm
            clear hown e1 e2 e3 hm hn hNm
            by_cases hyf : y.2 + 1 = first + (k : Int)
            · have d : (y.2 + 1 == first + (k : Int)) = true := by simp [hyf]
              have Hyf := Lib.hid hyf
              clear hyf
              go_wp2_with fail
              go_roundw
              case rel =>
                refine ⟨k + 1, p ++ [(y.1, y.2 + 1)], by omega, by go_num, ?_, Lib.hid (fun x hx => ?_), Lib.hid ?_, (Up.setCell hup hg _)⟩
                · have := Hnm.out; have := Hn.out; rw [List.length_append] at *; simp at *; omega
                · rcases List.mem_append.1 hx with hx | hx
                  · exact HBs x (List.mem_append_left _ hx)
                  · rw [List.mem_singleton.1 hx]; simp only; omega
                · rw [← HS.out, Hm.out, show (p ++ [(y.1, y.2 + 1)]).length = n by have := Hm.out; have := Hn.out; simp; omega]
                  exact Hst.out.1
              case measure => simp [intOf] <;> omega
            · have d : (y.2 + 1 == first + (k : Int)) = false := by simp [hyf]
              clear hyf
              have HOL := Lib.hid (show wr.ownsRow w.heap.size 39 2 (.slice (some ⟨g, 0, none⟩) n cap) (p ++ [y]).length ((p ++ [y]).flatMap spCells) by rw [Hnm.out, Hn.out]; exact HO.out)
              have hlen : (p ++ [y]).length ≤ 6 := by rw [Hnm.out]; omega
              have hlen2 : (p ++ [y]).length ≤ k := by rw [Hnm.out]; exact hLk
              clear Hst HS fy
              go_wp2_with (at_builtin; refine wpList_append_list (cells := spCells) (k := 2) spCells_length sp_oneB (by decide) rfl _ _ 25 rfl w.heap.size 39 i0 (.agg #[.int .u32 0, .int .u32 0]) 8 Tryz.underlying25 Hi.out Hy0.out Hy1.out Hy2.out rfl (p ++ [y]) _ rfl (owns_up HOL.out (upI : Up wr _)) [(first + (k : Int), first + (k : Int))] _ rfl (one_rowA wr (first + (k : Int), first + (k : Int)) _ rfl) (by unfold maxLen; simp only [List.length_cons, List.length_nil]; omega) (by simp only [List.length_cons, List.length_nil]; omega) (upI : Up w _).size ?_; intro v2 w2 hown2 hgrow2)
              have hup3 : Up w w2 := (upI : Up w _).grown hgrow2 (owns_row HOL.out)
              have HO2 := Lib.hid hown2
              clear hown2 hgrow2
              go_wp2_with fail
              go_roundw
              case rel => exact ⟨k + 1, p ++ [y] ++ [(first + (k : Int), first + (k : Int))], by omega, by go_num, by rw [List.length_append]; simp only [List.length_cons, List.length_nil]; omega, Lib.hid (fun x hx => by
                rcases List.mem_append.1 hx with hx | hx
                · exact HBs x hx
                · rw [List.mem_singleton.1 hx]; simp only; omega), HO2, hup3⟩
              case measure => simp [intOf] <;> omega
        · go_wp2_with fail
          go_roundw
          case rel => exact ⟨k + 1, L, by omega, by go_num, by omega, HBs, Hown, hup⟩
          case measure => simp [intOf] <;> omega
    · obtain rfl : k = 6 := by omega
      have hr := Lib.hid (sp_row Hown.out)
      have hLb := Lib.hid (fun (x : Sp) (hx : x ∈ L) => (show SpB x from by have := HB.out x hx; exact ⟨by omega, by omega, by omega, by omega⟩))
      go_wp2_with fail
      go_ret
      exact ⟨_, L, rfl, hr, hLb, hLk, hup.mk⟩
end Go.Proofs.YtgfkcbflnkpogaaGreatDoor
