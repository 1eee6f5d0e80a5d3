/- One list of spans compared with the reference. -/
import Derived.Test.YtgfkcbflnkpogaaGreatDoorStw
import Derived.Test.YtgfkcbflnkpogaaGreatDoorSo1
import Derived.Test.YtgfkcbflnkpogaaGreatDoorSo2
set_option linter.unusedSimpArgs false
set_option linter.unusedVariables false
namespace Go.Ab
open Go.RowKit
/-- What holds of a list's length, if the law looks at it. -/
structure OneIn (N : Nat) : Prop where
  n : N ≤ 60 ∨ 4096 < N
  n2 : N ≤ 4200
end Go.Ab
namespace Go.Proofs.YtgfkcbflnkpogaaGreatDoor
open Go.RowKit Go.Ab
attribute [local go_sem high] wrapI64 wrapK64
set_option maxHeartbeats 8000000 in
set_option maxRecDepth 100000 in
theorem one_skip (N : Nat) (h : ¬ OneIn N) (pa : Option Addr) (ca : Nat) (m : Int) (w : World) : Gives Tryz.prog 32 #[.slice pa N ca, .int .u32 m] w (.bool true) := by
  unfold Gives
  have h' : ¬ ((N ≤ 60 ∨ 4096 < N) ∧ N ≤ 4200) := fun ⟨h1, h2⟩ => h ⟨h1, h2⟩
  clear h
  obtain ⟨b2, hb2⟩ : ∃ b, decide ((60 : Int) < N) = b := ⟨_, rfl⟩
  obtain ⟨b3, hb3⟩ : ∃ b, decide ((N : Int) ≤ 4096) = b := ⟨_, rfl⟩
  obtain ⟨b4, hb4⟩ : ∃ b, decide ((4200 : Int) < N) = b := ⟨_, rfl⟩
  have hc : (b2 && b3 || b4) = true := by
    subst hb2 hb3 hb4
    simp only [Bool.or_eq_true, Bool.and_eq_true, decide_eq_true_eq]
    omega
  clear h'
  go_enter Tryz.func32, Tryz.ntmps32
  cases b2 <;> cases b3 <;> cases b4 <;> first | (exfalso; revert hc; decide) | skip
  all_goals
    clear hc
    go_wp2_with fail
    go_ret
    exact ⟨rfl, mkI⟩
set_option maxHeartbeats 64000000 in
set_option maxRecDepth 100000 in
theorem one_no (l : List Sp) (m : Int) (v : Value) (w : World) (hv : SpRow w v l) (hb : ∀ x ∈ l, SpB x) (m0 : 0 ≤ m) (m1 : m < 4294967296) (hin : OneIn l.length) (e : Int) (he : wrongL l = e) (hz : (e != 0) = true) (P Q : World → Value → Prop) (E : Int)
    (cof : ∀ (u : Value) (W : World), SpRow W u l → GivesP 22 #[u] W P E) (crof : ∀ (u : Value) (W : World), RsRow W u l → GivesP 67 #[u] W Q E)
    (up1 : ∀ {W W' : World} {v : Value}, P W v → Up W W' → P W' v) (up2 : ∀ {W W' : World} {v : Value}, Q W v → Up W W' → Q W' v)
    (eq1 : ∀ (a b : Value) (W : World), P W a → Q W b → Gives Tryz.prog 44 #[a, .int .i64 E, b, .int .i64 E] W (.bool true)) :
    Gives Tryz.prog 32 #[v, .int .u32 m] w (.bool true) := by
  obtain ⟨hn, hn2⟩ := hin
  have cl := slent_any l v w hv (by omega)
  have ct := fun (W : World) (u : UpI w W) => turned_any l v W (hv.up u.up) hb (by omega)
  have cw := fun (u : Value) (W : World) (h : RsRow W u l) => (rwrong_any l [] u (.slice none 0 0) W h (RowOf.nil W) hb (fun x hx => (List.not_mem_nil hx).elim) (by omega) (by simp)).cast (v := .int .i64 e) (by rw [wrongLs_nil, he])
  obtain ⟨y, hy⟩ : ∃ y, (nextL l m).1 = y := ⟨_, rfl⟩
  obtain ⟨sm, hsm⟩ : ∃ sm, (nextL l m).2 = sm := ⟨_, rfl⟩
  obtain ⟨yb0, yb1⟩ := nextL_bd l m m0 hb m1
  have cn := fun (u : Value) (W : World) (h : SpRow W u l) => spnext_any l m u W h hb m0 m1 (by omega)
  have crn := fun (u : Value) (W : World) (h : RsRow W u l) => rnext_any l u m W h hb m0 m1 (by omega)
  rw [hy, hsm] at cn crn
  rw [hy] at yb0 yb1
  obtain ⟨r, hr⟩ : ∃ r, rightS l = r := ⟨_, rfl⟩
  have cr := fun (u : Value) (W : World) (h : SpRow W u l) => (spright_any l u W h hb (by omega)).cast (v := .bool r) (by rw [hr])
  have crr := fun (u : Value) (W : World) (h : RsRow W u l) => (rright_any l u W h hb (by omega)).cast (v := .bool r) (by rw [hr])
  obtain ⟨hh, hhh⟩ : ∃ hh, hasS l m = hh := ⟨_, rfl⟩
  have ch := fun (u : Value) (W : World) (h : SpRow W u l) => (sphas_any l m u W h (by omega)).cast (v := .bool hh) (by rw [hhh])
  have crh := fun (u : Value) (W : World) (h : RsRow W u l) => (rhas_any l u m W h hb (by omega)).cast (v := .bool hh) (by rw [hhh])
  haveI : In64 y := ⟨by omega⟩
  haveI : In64 m := ⟨by omega⟩
  have q1 : (y != y) = false := by simp
  have q2 : (r != r) = false := by simp
  have q3 : (hh != hh) = false := by simp
  have q4 : (sm != sm) = false := by simp
  have cc := fun (u : Value) (W : World) (h : SpRow W u l) => spcount_no l u W h hb (by omega) e he hz
  have co := fun (u : Value) (W : World) (h : SpRow W u l) => spothers_no l u W h hb (by omega) e he hz
  have cx := fun (u : Value) (W : World) (h : SpRow W u l) => sptext_no l u W h hb (by omega) e he hz
  have cp := fun (u : Value) (W : World) (h : SpRow W u l) => spprefixes_no l u W h hb (by omega) e he hz
  have cq := fun (W : World) => equals_err (.slice none 0 0) e (.slice none 0 0) W hz 0
  have hee : (e != e) = false := by simp
  obtain ⟨pa, ca, hva⟩ := sp_len hv
  subst hva
  unfold GivesR at ct
  generalize l.length = N at *
  have d4 : decide ((4200 : Int) < N) = false := decide_eq_false (by omega)
  clear hv hb he hy hsm hr hhh
  unfold Gives
  go_enter Tryz.func32, Tryz.ntmps32
  go_upto_region 1 with fail
  go_cut [39] (fun v wx => v = .bool false ∧ w = wx)
  case first =>
    rcases hn with hn | hn
    · have d2 : decide ((60 : Int) < N) = false := decide_eq_false (by omega)
      go_wp2_with fail
      go_meet
      exact ⟨rfl, rfl⟩
    · have d2 : decide ((60 : Int) < N) = true := decide_eq_true (by omega)
      have d3 : decide ((N : Int) ≤ 4096) = false := decide_eq_false (by omega)
      go_wp2_with fail
      go_meet
      exact ⟨rfl, rfl⟩
  case rest =>
    obtain ⟨rfl, rfl⟩ := hcut
    clear hn d4
    go_wp2_with (first
      | (go_at_call 41; (with_reducible refine Calls.mono cl ?_); clear cl; rintro e w' ⟨p1, c1, rfl, R1, x1, rfl⟩)
      | (go_at_call 42; (with_reducible refine Calls.mono (ct _ inferInstance) ?_); clear ct; rintro e w' ⟨p2, c2, rfl, R2, x2, rfl⟩)
      | (go_at_call 43; (with_reducible refine (cw _ x2.w R2.out).mono ?_); clear cw; rintro e w' ⟨rfl, x3, rfl⟩)
      | (go_at_call 22; (with_reducible refine Calls.mono (cof _ x3.w (R1.out.up upI)) ?_); clear cof; rintro e w' ⟨v4, rfl, R4, x4, rfl⟩)
      | (go_at_call 67; (with_reducible refine Calls.mono (crof _ x4.w (R2.out.up upI)) ?_); clear crof; rintro e w' ⟨v5, rfl, R5, x5, rfl⟩)
      | (go_at_call 17; (with_reducible refine (cc _ x5.w (R1.out.up upI)).mono ?_); clear cc; rintro e w' ⟨rfl, x6, rfl⟩)
      | (go_at_call 16; (with_reducible refine (co _ x6.w (R1.out.up upI)).mono ?_); clear co; rintro e w' ⟨rfl, x7, rfl⟩)
      | (go_at_call 21; (with_reducible refine (cx _ x7.w (R1.out.up upI)).mono ?_); clear cx; rintro e w' ⟨rfl, x8, rfl⟩)
      | (go_at_call 20; (with_reducible refine (cp _ x8.w (R1.out.up upI)).mono ?_); clear cp; rintro e w' ⟨rfl, x9, rfl⟩)
      | (go_at_call 24; (with_reducible refine (cn _ x9.w (R1.out.up upI)).mono ?_); clear cn; rintro e w' ⟨rfl, x10, rfl⟩)
      | (go_at_call 68; (with_reducible refine (crn _ x10.w (R2.out.up upI)).mono ?_); clear crn; rintro e w' ⟨rfl, x11, rfl⟩)
      | (go_at_call 44; (with_reducible refine (eq1 _ _ x11.w (up1 R4.out upI) (up2 R5.out upI)).mono ?_); clear eq1; rintro e w' ⟨rfl, x12, rfl⟩)
      | (go_at_call 23; (with_reducible refine (cr _ x12.w (R1.out.up upI)).mono ?_); clear cr; rintro e w' ⟨rfl, x13, rfl⟩)
      | (go_at_call 69; (with_reducible refine (crr _ x13.w (R2.out.up upI)).mono ?_); clear crr; rintro e w' ⟨rfl, x14, rfl⟩)
      | (go_at_call 25; (with_reducible refine (ch _ x14.w (R1.out.up upI)).mono ?_); clear ch; rintro e w' ⟨rfl, x15, rfl⟩)
      | (go_at_call 70; (with_reducible refine (crh _ x15.w (R2.out.up upI)).mono ?_); clear crh; rintro e w' ⟨rfl, x16, rfl⟩)
      | (go_at_call 44; (with_reducible refine (cq _).mono ?_); clear cq; rintro e w' ⟨rfl, x17, rfl⟩))
    go_ret
    exact ⟨rfl, mkI⟩
set_option maxHeartbeats 64000000 in
set_option maxRecDepth 100000 in
theorem one_yes (l : List Sp) (m : Int) (v : Value) (w : World) (g : Good w) (hv : SpRow w v l) (hb : ∀ x ∈ l, SpB x) (m0 : 0 ≤ m) (m1 : m < 4294967296) (hin : OneIn l.length) (he : wrongL l = 0) :
    Gives Tryz.prog 32 #[v, .int .u32 m] w (.bool true) := by
  obtain ⟨hn, hn2⟩ := hin
  have hrl : rightS l = true ∧ l.length ≤ 4096 := by
    have h := wrongLs_zero (a := l) (b := []) (by rw [wrongLs_nil]; exact he)
    exact ⟨h.2.2.1, h.1⟩
  obtain ⟨hrt, h4⟩ := hrl
  have hn60 : l.length ≤ 60 := by omega
  have hle := rF_le hrt
  have hbad : badS l = false := badS_all (fun j _ x hx => hle x (List.mem_of_getElem? hx))
  have cl := slent_any l v w hv (by omega)
  have ct := fun (W : World) (u : UpI w W) => turned_any l v W (hv.up u.up) hb (by omega)
  have cw := fun (u : Value) (W : World) (h : RsRow W u l) => (rwrong_any l [] u (.slice none 0 0) W h (RowOf.nil W) hb (fun x hx => (List.not_mem_nil hx).elim) (by omega) (by simp)).cast (v := .int .i64 0) (by rw [wrongLs_nil, he])
  obtain ⟨y, hy⟩ : ∃ y, (nextL l m).1 = y := ⟨_, rfl⟩
  obtain ⟨sm, hsm⟩ : ∃ sm, (nextL l m).2 = sm := ⟨_, rfl⟩
  obtain ⟨yb0, yb1⟩ := nextL_bd l m m0 hb m1
  have cn := fun (u : Value) (W : World) (h : SpRow W u l) => spnext_any l m u W h hb m0 m1 (by omega)
  have crn := fun (u : Value) (W : World) (h : RsRow W u l) => rnext_any l u m W h hb m0 m1 (by omega)
  rw [hy, hsm] at cn crn
  rw [hy] at yb0 yb1
  obtain ⟨r, hr⟩ : ∃ r, rightS l = r := ⟨_, rfl⟩
  have cr := fun (u : Value) (W : World) (h : SpRow W u l) => (spright_any l u W h hb (by omega)).cast (v := .bool r) (by rw [hr])
  have crr := fun (u : Value) (W : World) (h : RsRow W u l) => (rright_any l u W h hb (by omega)).cast (v := .bool r) (by rw [hr])
  obtain ⟨hh, hhh⟩ : ∃ hh, hasS l m = hh := ⟨_, rfl⟩
  have ch := fun (u : Value) (W : World) (h : SpRow W u l) => (sphas_any l m u W h (by omega)).cast (v := .bool hh) (by rw [hhh])
  have crh := fun (u : Value) (W : World) (h : RsRow W u l) => (rhas_any l u m W h hb (by omega)).cast (v := .bool hh) (by rw [hhh])
  haveI : In64 y := ⟨by omega⟩
  haveI : In64 m := ⟨by omega⟩
  have q1 : (y != y) = false := by simp
  have q2 : (r != r) = false := by simp
  have q3 : (hh != hh) = false := by simp
  have q4 : (sm != sm) = false := by simp
  have RSl : RS 60 l := ⟨hrt, hb, hn60⟩
  have hO := RSl.others
  have eofl := of_right hrt hb
  have cof := fun (u : Value) (W : World) (h : SpRow W u l) => (givesO (spof_yes l u W h hb h4 hbad)).mono (R' := fun e w' => ∃ p c, e = .returned (.tuple #[.slice p (ofL l).length c, .int .i64 0]) ∧ Hid (w'.ownsRow W.heap.size 39 2 (.slice p (ofL l).length c) (ofL l).length ((ofL l).flatMap spCells)) ∧ Hid (SpRow w' (.slice p (ofL l).length c) (ofL l)) ∧ ∃ x : Ext W, w' = x.w) (fun e w' ⟨p, c, he, ho, hx⟩ => ⟨p, c, he, ho, Lib.hid (sp_row ho.out), hx⟩)
  rw [eofl] at cof
  have crof := fun (u : Value) (W : World) (h : RsRow W u l) => (rof_any l u W h hb h4).mono (R' := fun e w' => ∃ p c, e = .returned (.tuple #[.slice p l.length c, .int .i64 0]) ∧ Hid (RsRow w' (.slice p l.length c) l) ∧ ∃ x : Ext W, w' = x.w) (fun e w' ⟨h1, h2⟩ => by
    unfold RofPost at h1
    rw [if_neg (by rw [hbad]; simp), eofl] at h1
    obtain ⟨p, c, q1, q2⟩ := h1
    exact ⟨p, c, q1, q2, h2⟩)
  have cc := fun (u : Value) (W : World) (h : SpRow W u l) => spcount_yes l u W h hb hrt h4
  have crc := fun (u : Value) (W : World) (h : RsRow W u l) => rcount_any l u W h hb hrt (by omega)
  have co := fun (u : Value) (W : World) (h : SpRow W u l) => givesO (spothers_yes l u W h hrt hb h4)
  have cro := fun (u : Value) (W : World) (h : RsRow W u l) => rothers_any l u W h hb hle (by omega)
  have cx := fun (u : Value) (W : World) (gg : Good W) (h : SpRow W u l) => sptext_yes l u W gg h hb hrt h4
  have crx := fun (u : Value) (W : World) (h : RsRow W u l) => rwrite_any l u W h hb hle (by omega)
  have cp := fun (u : Value) (W : World) (h : SpRow W u l) => spprefixes_yes l u W h hb hrt h4
  have crp := fun (u : Value) (W : World) (h : RsRow W u l) => rprefixes_any l u W h hb hle h4
  have csp := fun (a b : Value) (b1 b2 : Nat) (W : World) (ha : W.ownsRow b1 62 2 a (prefixesL l).length ((prefixesL l).flatMap pfCells)) (hb2 : W.ownsRow b2 62 2 b (prefixesL l).length ((prefixesL l).flatMap pfCells)) => samep_any (prefixesL l) a b b1 b2 W ha hb2 (by have := prefixesL_len hb hle; omega)
  have eq1 := fun (a b : Value) (W : World) (h : SpRow W a l) (k : RsRow W b l) => equals_yes l a b W h k hb (by omega)
  have eq2 := fun (a b : Value) (W : World) (h : SpRow W a (othersL l)) (k : RsRow W b (othersL l)) => equals_yes (othersL l) a b W h k hO.b (by have := hO.l; omega)
  have cs := fun (u v : Value) (W : World) (h : SpRow W u l) (k : SpRow W v l) => same_yes l u v W h k (by omega)
  have lO := hO.l
  have RV := Lib.hid hv
  obtain ⟨pa, ca, hva⟩ := sp_len hv
  subst hva
  unfold GivesR at ct cro
  unfold GivesO at co
  generalize othersL l = O at *
  generalize countL l = C at *
  generalize prefixesL l = PL at *
  generalize textS l = TX at *
  generalize l.length = N at *
  have qc : (C != C) = false := by simp
  have d4 : decide ((4200 : Int) < N) = false := decide_eq_false (by omega)
  clear hv hb he hy hsm hr hhh hrt hle hbad RSl hO eofl
  unfold Gives
  go_enter Tryz.func32, Tryz.ntmps32
  go_upto_region 1 with fail
  go_cut [39] (fun v wx => v = .bool false ∧ w = wx)
  case first =>
    rcases hn with hn | hn
    · have d2 : decide ((60 : Int) < N) = false := decide_eq_false (by omega)
      go_wp2_with fail
      go_meet
      exact ⟨rfl, rfl⟩
    · have d2 : decide ((60 : Int) < N) = true := decide_eq_true (by omega)
      have d3 : decide ((N : Int) ≤ 4096) = false := decide_eq_false (by omega)
      go_wp2_with fail
      go_meet
      exact ⟨rfl, rfl⟩
  case rest =>
    obtain ⟨rfl, rfl⟩ := hcut
    clear hn d4
    go_upto_region 19 with (first
      | (go_at_call 41; (with_reducible refine Calls.mono cl ?_); clear cl; rintro e w' ⟨p1, c1, rfl, R1, x1, rfl⟩)
      | (go_at_call 42; (with_reducible refine Calls.mono (ct _ inferInstance) ?_); clear ct; rintro e w' ⟨p2, c2, rfl, R2, x2, rfl⟩)
      | (go_at_call 43; (with_reducible refine (cw _ x2.w R2.out).mono ?_); clear cw; rintro e w' ⟨rfl, x3, rfl⟩)
      | (go_at_call 22; (with_reducible refine Calls.mono (cof _ x3.w (R1.out.up upI)) ?_); clear cof; rintro e w' ⟨p4, c4, rfl, O4, S4, x4, rfl⟩)
      | (go_at_call 67; (with_reducible refine Calls.mono (crof _ x4.w (R2.out.up upI)) ?_); clear crof; rintro e w' ⟨p5, c5, rfl, R5, x5, rfl⟩)
      | (go_at_call 17; (with_reducible refine (cc _ x5.w (R1.out.up upI)).mono ?_); clear cc; rintro e w' ⟨rfl, x6, rfl⟩)
      | (go_at_call 16; (with_reducible refine Calls.mono (co _ x6.w (R1.out.up upI)) ?_); clear co; rintro e w' ⟨p7, c7, rfl, O7, x7, rfl⟩)
      | (go_at_call 21; (with_reducible refine (cx _ x7.w (g.up upI) (R1.out.up upI)).mono ?_); clear cx; rintro e w' ⟨rfl, x8, rfl⟩)
      | (go_at_call 20; (with_reducible refine Calls.mono (cp _ x8.w (R1.out.up upI)) ?_); clear cp; rintro e w' ⟨v9, rfl, o9, x9, rfl⟩; have O9 := Lib.hid o9; clear o9)
      | (go_at_call 24; (with_reducible refine (cn _ x9.w (R1.out.up upI)).mono ?_); clear cn; rintro e w' ⟨rfl, x10, rfl⟩)
      | (go_at_call 68; (with_reducible refine (crn _ x10.w (R2.out.up upI)).mono ?_); clear crn; rintro e w' ⟨rfl, x11, rfl⟩)
      | (go_at_call 44; (with_reducible refine (eq1 _ _ x11.w (S4.out.up upI) (R5.out.up upI)).mono ?_); clear eq1; rintro e w' ⟨rfl, x12, rfl⟩)
      | (go_at_call 23; (with_reducible refine (cr _ x12.w (R1.out.up upI)).mono ?_); clear cr; rintro e w' ⟨rfl, x13, rfl⟩)
      | (go_at_call 69; (with_reducible refine (crr _ x13.w (R2.out.up upI)).mono ?_); clear crr; rintro e w' ⟨rfl, x14, rfl⟩)
      | (go_at_call 25; (with_reducible refine (ch _ x14.w (R1.out.up upI)).mono ?_); clear ch; rintro e w' ⟨rfl, x15, rfl⟩)
      | (go_at_call 70; (with_reducible refine (crh _ x15.w (R2.out.up upI)).mono ?_); clear crh; rintro e w' ⟨rfl, x16, rfl⟩)
      | (go_at_call 71; (with_reducible refine (crc _ x16.w (R2.out.up upI)).mono ?_); clear crc; rintro e w' ⟨rfl, x17, rfl⟩)
      | (go_at_call 72; (with_reducible refine (crx _ x17.w (R2.out.up upI)).mono ?_); clear crx; rintro e w' ⟨rfl, x18, rfl⟩)
      | (go_at_call 73; (with_reducible refine Calls.mono (cro _ x18.w (R2.out.up upI)) ?_); clear cro; rintro e w' ⟨p19, c19, rfl, R19, x19, rfl⟩)
      | (go_at_call 44; (with_reducible refine (eq2 _ _ x19.w (sp_row (owns_up O7.out upI)) R19.out).mono ?_); clear eq2 R19; rintro e w' ⟨rfl, x20, rfl⟩)
      | (go_at_call 75; (with_reducible refine Calls.mono (crp _ x20.w (R2.out.up upI)) ?_); clear crp; rintro e w' ⟨v21, rfl, O21, x21, rfl⟩)
      | (go_at_call 74; (with_reducible refine (csp _ _ _ _ x21.w (owns_up O9.out upI) O21.out).mono ?_); clear csp O21; rintro e w' ⟨rfl, x22, rfl⟩))
    have rows : ∀ x ∈ ([(.slice p4 N c4, N), (.slice p7 O.length c7, O.length)] : List VN), WrRow x3.w.heap.size 39 x22.w x.1 x.2 ∧ x.2 ≤ 1000 ∧ ∃ p c, x.1 = .slice p x.2 c := by
      intro x hx
      simp only [List.mem_cons, List.mem_nil_iff, or_false] at hx
      rcases hx with rfl | rfl
      · exact ⟨WrRow.of_owns (owns_up O4.out (upI : Up x4.w x22.w)) (Nat.le_refl _), by simp only; omega, _, _, rfl⟩
      · exact ⟨WrRow.of_owns (owns_up O7.out (upI : Up x7.w x22.w)) (upI : Up x3.w x6.w).size, by simp only; omega, _, _, rfl⟩
    have Q1 := Lib.hid (R1.out.up (upI : Up x1.w x3.w))
    have P1 := Lib.hid (RV.out.up (upI : Up w x3.w))
    have HW4 := Lib.hid (upI : Up w x3.w)
    obtain ⟨A, hA⟩ : ∃ A, x22.w.heap.size = A := ⟨_, rfl⟩
    obtain ⟨sets, hsets⟩ : ∃ sets : List VN, sets = [(.slice p4 N c4, N), (.slice p7 O.length c7, O.length)] := ⟨_, rfl⟩
    have hlen : sets.length = 2 := by rw [hsets]; rfl
    clear R1 R2 O4 S4 R5 O7 O9 RV
    go_upto_region 20 with fail
    refine wp_letterS (fun Z => OverSt x3.w A 25 39 sets Z) ?hst ?_
    case hst =>
      subst hA
      exact ⟨(upI : Up x3.w x22.w).alloc _, by rw [alloc_get, if_pos rfl, hsets]; rfl, fun x hx => ((rows x (hsets ▸ hx)).1).up ((Up.refl _).alloc _)⟩
    (try rw [hA])
    rintro Z hZ
    have rows2 := Lib.hid (fun x (hx : x ∈ sets) => (rows x (hsets ▸ hx)).2)
    have Hlen := Lib.hid hlen
    clear rows hsets hA hlen
    go_loopw [186] (fun i wr => ∃ k : Nat, k ≤ 2 ∧ i = .int .i64 (k : Int) ∧ OverSt x3.w A 25 39 sets wr) (fun i _ => 2 - (intOf i).toNat)
    case atStart => exact ⟨0, by omega, rfl, hZ⟩
    case round =>
      clear hZ
      obtain ⟨k, hk, rfl, hov⟩ := hrel
      by_cases hlt : k < 2
      · have hlt' : (k : Int) < 2 := by omega
        have k0 : (0 : Int) ≤ (k : Int) := by omega
        obtain ⟨s, hs⟩ : ∃ s, sets[k]? = some s := ⟨_, List.getElem?_eq_getElem (by rw [Hlen.out]; exact hlt)⟩
        obtain ⟨hnb, ps, cs, hv⟩ := rows2.out s (List.mem_of_getElem? hs)
        have cA : wr.cell? ⟨A, k, none⟩ = some (.slice ps s.2 cs) := by rw [cell_of_cells hov.lit]; simp [hs, hv]
        haveI : LtSize A wr := ⟨cell_lt' cA⟩
        have Hs := Lib.hid hs; have Hv := Lib.hid hv
        obtain ⟨n, hn⟩ : ∃ n, s.2 = n := ⟨_, rfl⟩
        rw [hn] at cA hv Hv hnb
        have Hn := Lib.hid hn
        have n0 : (0 : Int) ≤ (n : Int) := by omega
        clear hs hv hn
        go_upto_region 23 with fail
        go_loopw [192] (fun i W => ∃ j : Nat, j ≤ n ∧ i = .int .i64 (j : Int) ∧ OverSt x3.w A 25 39 sets W) (fun i _ => n - (intOf i).toNat)
        case atStart => exact ⟨0, by omega, rfl, hov⟩
        case round =>
          clear hov cA
          obtain ⟨j, hj, rfl, hov⟩ := hrel
          by_cases hjl : j < n
          · have hjl' : (j : Int) < (n : Int) := by omega
            have j0 : (0 : Int) ≤ (j : Int) := by omega
            have hrow := hov.rows s (List.mem_of_getElem? Hs.out)
            rw [Hn.out, Hv.out] at hrow
            obtain ⟨g, cap, hp, hg, hgw, ⟨u0, c0⟩, ⟨u1, c1⟩, hfz⟩ := wr_lt hrow hjl
            simp only [Value.slice.injEq, true_and] at hp
            obtain ⟨rfl, rfl⟩ := hp
            have hne := wr_ne hrow hov.lit (by decide)
            have f0 := hfz (j * 2); have f1 := hfz (j * 2 + 1)
            haveI : LtSize g wr := ⟨hgw⟩
            haveI : In64 ((j : Int) + 1) := ⟨by omega⟩
            have hg' := Lib.hid hg
            clear hrow hfz
            go_wp2_with fail
            go_roundw
            case rel => exact ⟨j + 1, by omega, by go_num, (hov.set hg'.out hne _).set hg'.out hne _⟩
            case measure => simp [intOf]; omega
          · obtain rfl : j = n := by omega
            have jn : ¬ (j : Int) < (j : Int) := by omega
            go_wp2_with fail
            go_roundw
            case rel => exact ⟨k + 1, by omega, by go_num, hov⟩
            case measure => simp [intOf]; omega
      · obtain rfl : k = 2 := by omega
        haveI : UpI x3.w wr := ⟨hov.up⟩
        haveI : UpI w wr := ⟨HW4.out.trans hov.up⟩
        go_wp2_with (go_at_call 26; (with_reducible refine (cs _ _ wr (Q1.out.up upI) (P1.out.up upI)).mono ?_); clear cs; rintro e w' ⟨rfl, y1, rfl⟩)
        go_ret
        exact ⟨rfl, mkI⟩
theorem one_any (l : List Sp) (m : Int) (v : Value) (w : World) (g : Good w) (hv : SpRow w v l) (hb : ∀ x ∈ l, SpB x) (m0 : 0 ≤ m) (m1 : m < 4294967296) : Gives Tryz.prog 32 #[v, .int .u32 m] w (.bool true) := by
  by_cases hin : OneIn l.length
  · by_cases he : wrongL l = 0
    · exact one_yes l m v w g hv hb m0 m1 hin he
    · have hz : (wrongL l != 0) = true := by simpa using he
      have nilEq := fun (E : Int) (hE : (E != 0) = true) (a b : Value) (W : World) (ha : IsNil W a) (hb : IsNil W b) => (show Gives Tryz.prog 44 #[a, .int .i64 E, b, .int .i64 E] W (.bool true) by
        unfold IsNil at ha hb
        subst ha hb
        exact equals_err (.slice none 0 0) E (.slice none 0 0) W hE 0)
      have upNil : ∀ {W W' : World} {v : Value}, IsNil W v → Up W W' → IsNil W' v := fun h _ => h
      by_cases hm : 4096 < l.length
      · exact one_no l m v w hv hb m0 m1 hin _ rfl hz IsNil IsNil 5 (fun u W h => gp_nil (spof_many l u W h hm)) (fun u W h => gp_nil (rof_many l u W h hm)) upNil upNil (nilEq 5 rfl)
      · cases hbd : badS l
        · have hle := badS_no hbd
          exact one_no l m v w hv hb m0 m1 hin _ rfl hz (fun W v => SpRow W v (ofL l)) (fun W v => RsRow W v (ofL l)) 0
            (fun u W h => (spof_yes l u W h hb (by omega) hbd).mono fun e w' ⟨u, he, ho, hx⟩ => ⟨u, he, Lib.hid (sp_row ho), hx⟩)
            (fun u W h => (rof_any l u W h hb (by omega)).mono fun e w' ⟨h1, h2⟩ => by
              unfold RofPost at h1
              rw [if_neg (by rw [hbd]; simp)] at h1
              obtain ⟨p, c, q1, q2⟩ := h1
              exact ⟨_, q1, q2, h2⟩)
            (fun h u => RowOf.up h u) (fun h u => RowOf.up h u) (fun a b W ha hb2 => equals_yes _ a b W ha hb2 (othersL_b (rF_le (rF_others hle))) (by
              have q1 := others_len hle
              have q2 := others_len (rF_le (rF_others hle))
              unfold ofL; omega))
        · exact one_no l m v w hv hb m0 m1 hin _ rfl hz IsNil IsNil 2
            (fun u W h => (spof_any l u W h hb (by omega)).mono fun e w' ⟨h1, h2⟩ => by
              rcases h1 with ⟨_, h3⟩ | ⟨h3, _⟩
              · exact ⟨_, h3, Lib.hid rfl, h2⟩
              · rw [hbd] at h3; cases h3)
            (fun u W h => (rof_any l u W h hb (by omega)).mono fun e w' ⟨h1, h2⟩ => by
              unfold RofPost at h1
              rw [if_pos hbd] at h1
              exact ⟨_, h1, Lib.hid rfl, h2⟩)
            upNil upNil (nilEq 2 rfl)
  · obtain ⟨p, c, rfl⟩ := sp_len hv
    exact one_skip _ hin p c m w
end Go.Proofs.YtgfkcbflnkpogaaGreatDoor
