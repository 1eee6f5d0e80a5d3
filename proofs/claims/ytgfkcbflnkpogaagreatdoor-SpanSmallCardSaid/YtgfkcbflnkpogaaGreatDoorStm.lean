/- The law's lent and equals; prefixes lent and kept; OfPrefixes refused, the reference's Of and OfPrefixes; SpanTexts, walked. -/
import Derived.Test.YtgfkcbflnkpogaaGreatDoorSr1
import Derived.Test.YtgfkcbflnkpogaaGreatDoorRowPut2
import Derived.Deep.CutBlock
import Derived.Deep.DeepCutAuto
import Derived.Test.YtgfkcbflnkpogaaGreatDoorSrd
set_option linter.unusedSimpArgs false
set_option linter.unusedVariables false
namespace Go.Ab
open Go.RowKit
/-- A row of the call's own whose contents do not matter: it may be written. -/
def WrRow (base : Nat) (t : TypeId) (W : World) (v : Value) (n : Nat) : Prop :=
  (v = .slice none 0 0 ∧ n = 0) ∨ ∃ g cap cur, v = .slice (some ⟨g, 0, none⟩) n cap ∧ base ≤ g ∧ W.heap[g]? = some (.cells cur t (0, 0)) ∧ n * 2 ≤ cur.size
theorem WrRow.of_owns {base b : Nat} {t : TypeId} {W : World} {v : Value} {n : Nat} {xs : List Value} (h : W.ownsRow b t 2 v n xs) (hb : base ≤ b) : WrRow base t W v n := by
  rcases h.2 with ⟨h1, h2⟩ | ⟨g, cap, cur, hv, hg, hh, hc, _, hs, ht⟩
  · exact .inl ⟨h1, h2⟩
  · refine .inr ⟨g, cap, cur, hv, Nat.le_trans hb hg, hh, ?_⟩
    have := congrArg List.length ht
    rw [List.length_take, h.1] at this
    simp at this
    omega
theorem WrRow.up {base : Nat} {t : TypeId} {W W' : World} {v : Value} {n : Nat} (h : WrRow base t W v n) (u : Up W W') : WrRow base t W' v n := by
  rcases h with h | ⟨g, cap, cur, hv, hg, hh, hs⟩
  · exact .inl h
  · exact .inr ⟨g, cap, cur, hv, hg, (u.block g (Array.getElem?_eq_some_iff.1 hh).1).trans hh, hs⟩
theorem WrRow.set {base : Nat} {t : TypeId} {W : World} {v : Value} {n : Nat} (h : WrRow base t W v n) (g j : Nat) (u : Value) : WrRow base t (W.setCell ⟨g, j, none⟩ u) v n := by
  rcases h with h | ⟨g', cap, cur, hv, hg, hh, hs⟩
  · exact .inl h
  · by_cases he : g' = g
    · subst he
      exact .inr ⟨g', cap, cur.setIfInBounds j u, hv, hg, heap_setCell_same W g' j cur t u hh, by simpa using hs⟩
    · exact .inr ⟨g', cap, cur, hv, hg, (heap_setCell_other W ⟨g, j, none⟩ g' u (fun e => he e)).trans hh, hs⟩
theorem up_set {w W : World} (h : Up w W) {g j : Nat} (hg : w.heap.size ≤ g) (u : Value) : Up w (W.setCell ⟨g, j, none⟩ u) where
  os := h.os
  tape := h.tape
  output := h.output
  size := by simpa using h.size
  block := fun k hk => (heap_setCell_other W ⟨g, j, none⟩ k u (fun e => by simp at e; omega)).trans (h.block k hk)
end Go.Ab
namespace Go.Proofs.YtgfkcbflnkpogaaGreatDoor
open Go.RowKit Go.Ab
attribute [local go_sem high] wrapI64 wrapK64
set_option maxHeartbeats 8000000 in
set_option maxRecDepth 100000 in
theorem slent_any (l : List Sp) (v : Value) (w : World) (hv : SpRow w v l) (hl : l.length ≤ 1000000) :
    Calls Tryz.prog 41 #[v] w fun e w' => ∃ p c, e = .returned (.slice p l.length c) ∧ Hid (SpRow w' (.slice p l.length c) l) ∧ ∃ x : Ext w, w' = x.w := by
  obtain ⟨i0, hi, hy0, hy1, hy2⟩ := info_parts infoSpan
  obtain ⟨N, hN⟩ : ∃ N, l.length = N := ⟨_, rfl⟩
  have HR := Lib.hid hv
  obtain ⟨p, cap, rfl⟩ := sp_len hv
  rw [hN] at HR hl ⊢
  obtain ⟨mc, hms, hmk⟩ : ∃ mc : Array Value, mc.size = (N + 3) * 2 ∧ ∀ W : World, (Instr.makeSlice 25 (.int .i64 0) (.int .i64 ((N : Int) + 3))).run Tryz.prog W = .ok (.slice (some ⟨W.heap.size, 0, none⟩) 0 (N + 3)) (W.alloc (.cells mc 39)) := by
    refine ⟨madeCells (Value.agg #[.int .u32 0, .int .u32 0]).cells ((N + 3) * 2), size_madeCells _ _, fun W => ?_⟩
    have := run_makeSlice (P := Tryz.prog) (w := W) 25 39 i0 _ Tryz.underlying25 hi hy0 .i64 .i64 0 ((N : Int) + 3) (Int.le_refl _) (by omega) (by rw [hy1]; omega) (by rw [hy2]; omega) (by omega)
    rw [show ((N : Int) + 3).toNat = N + 3 by omega, hy1] at this
    exact this
  have Hi := Lib.hid hi; have Hy0 := Lib.hid hy0; have Hy1 := Lib.hid hy1; have Hy2 := Lib.hid hy2
  have Hms := Lib.hid hms
  have HN := Lib.hid hN
  haveI : In64 ((N : Int) + 3) := ⟨by omega⟩
  clear hi hy0 hy1 hy2 hN hms hv
  go_enter Tryz.func41, Tryz.ntmps41
  go_wp2_with (at_builtin; refine wpList_append_list2 (cells := spCells) (k := 2) spCells_length sp_oneB (by decide) rfl _ _ 25 24 39 rfl Tryz.underlying24 w.heap.size 39 i0 (.agg #[.int .u32 0, .int .u32 0]) 8 Tryz.underlying25 Hi.out Hy0.out Hy1.out Hy2.out rfl [] _ rfl (World.ownsRow_made w mc (N + 3) (Nat.le_refl _) (by unfold maxLen; omega) Hms.out) l _ rfl (HR.out.up upI) (by rw [HN.out]; unfold maxLen; simp; omega) (by rw [HN.out]; simp; omega) (upI : Up w _).size ?_; intro v1 w1 hown1 hgrow1)
  have hup1 : Up w w1 := (upI : Up w _).grown hgrow1 (fun k hk => owns_row (World.ownsRow_made (e := 39) (size := 2) w mc (N + 3) (Nat.le_refl _) (by unfold maxLen; omega) Hms.out) k hk)
  rw [List.nil_append] at hown1
  have R1 := Lib.hid (sp_row hown1)
  obtain ⟨p1, c1, hv1⟩ := owns_sliceN hown1
  rw [HN.out] at hv1
  subst hv1
  (try rw [HN.out] at R1)
  go_ret
  exact ⟨_, _, rfl, R1, hup1.mk⟩
set_option maxHeartbeats 8000000 in
set_option maxRecDepth 100000 in
theorem equals_err (v : Value) (e : Int) (u : Value) (w : World) (hz : (e != 0) = true) (c : Nat) : Gives Tryz.prog 44 #[.slice none 0 c, .int .i64 e, u, .int .i64 e] w (.bool true) := by
  have he : (e == e) = true := by simp
  have hne : (e != e) = false := by simp
  unfold Gives
  go_enter Tryz.func44, Tryz.ntmps44
  go_wp2_with fail
  go_ret
  exact ⟨rfl, mkI⟩
theorem eq_rspan (w : World) (p M q N : Int) : (Op.equalIn 10000 137 (.agg #[.int .i64 p, .int .i64 M]) (.agg #[.int .i64 q, .int .i64 N])).run Tryz.prog w = .ok (p == q && M == N) w := by
  cases h : (p == q) <;> cases h2 : (M == N) <;> simp_all [go_sem]
attribute [local go_sem high] eq_rspan
set_option maxHeartbeats 8000000 in
set_option maxRecDepth 100000 in
theorem equals_yes (a : List Sp) (va vb : Value) (w : World) (ra : SpRow w va a) (rb : RsRow w vb a) (ba : ∀ x ∈ a, SpB x) (la : a.length ≤ 1000000) : Gives Tryz.prog 44 #[va, .int .i64 0, vb, .int .i64 0] w (.bool true) := by
  have ht := turned_any a va w ra ba la
  have Hcb := Lib.hid (fun k x (h : a[k]? = some x) (p : Option Addr) (n cap : Nat) (e : vb = .slice p n cap) => rs_at rb e h)
  obtain ⟨pa, capa, rfl⟩ := sp_len ra
  obtain ⟨q, cbp, rfl, hlb, _⟩ := rb
  obtain ⟨N, hN⟩ : ∃ N, a.length = N := ⟨_, rfl⟩
  unfold GivesR at ht
  rw [hN] at hlb la Hcb ht ⊢
  have HN := Lib.hid hN
  clear hN ra ba
  unfold Gives
  go_enter Tryz.func44, Tryz.ntmps44
  go_wp2_with (go_at_call 42; refine Calls.mono ht ?_; clear ht; rintro e w' ⟨p1, c1, rfl, R1, x1, rfl⟩)
  have Hc1 := Lib.hid (fun k x (h : a[k]? = some x) => rs_at R1.out rfl h)
  go_loopw [35] (fun i wr => ∃ k : Nat, k ≤ N ∧ i = .int .i64 (k : Int) ∧ ∃ x : Ext x1.w, wr = x.w) (fun i _ => N - (intOf i).toNat)
  case atStart => exact ⟨0, Nat.zero_le _, rfl, mkI⟩
  case round =>
    obtain ⟨k, hk, rfl, x0, rfl⟩ := hrel
    by_cases hlt : k < N
    · have hlt' : (k : Int) < (N : Int) := by omega
      have k0 : (0 : Int) ≤ (k : Int) := by omega
      obtain ⟨x, hx⟩ : ∃ x, a[k]? = some x := ⟨_, List.getElem?_eq_getElem (by rw [HN.out]; exact hlt)⟩
      obtain ⟨b1, o1, rfl, hb1, c0, c1'⟩ := Hc1.out k x hx
      obtain ⟨b2, o2, rfl, hb2, d0, d1⟩ := Hcb.out k x hx _ _ _ rfl
      haveI : LtSize b1 x1.w := ⟨hb1⟩
      haveI : LtSize b2 w := ⟨hb2⟩
      haveI : LtSize b2 x1.w := ⟨Nat.lt_of_lt_of_le hb2 x1.up.size⟩
      have d0' := x1.up.cell_some d0
      have d1' := x1.up.cell_some d1
      have hb : (x.1 == x.1 && x.2 == x.2) = true := by simp
      clear hx Hc1 Hcb
      go_wp2_with fail
      (refine wp_region_ext (by kernel_rfl) (by kernel_rfl) ?_; (repeat (go_big_quiet_step (fail))); refine wpQuiet_nil ?_; rintro _ ⟨y1, rfl⟩)
      go_wp2_with fail
      go_roundw
      case rel => exact ⟨k + 1, by omega, by go_num, mkI⟩
      case measure => simp [intOf]; omega
    · obtain rfl : k = N := by omega
      go_wp2_with fail
      go_ret
      exact ⟨rfl, mkI⟩
/-- What holds of two sets' lengths, if the law looks at them. -/
structure TwoIn (N M : Nat) : Prop where
  n : N ≤ 60 ∨ 4096 < N
  m : M ≤ 60 ∨ 4096 < M
  n2 : N ≤ 4200
  m2 : M ≤ 4200
set_option maxHeartbeats 8000000 in
set_option maxRecDepth 100000 in
theorem two_skip (N M : Nat) (h : ¬ TwoIn N M) (pa pb : Option Addr) (ca cb : Nat) (w : World) : Gives Tryz.prog 18 #[.slice pa N ca, .slice pb M cb] w (.bool true) := by
  unfold Gives
  have h' : 60 < N ∧ N ≤ 4096 ∨ ¬ (60 < N ∧ N ≤ 4096) ∧ (60 < M ∧ M ≤ 4096) ∨ ¬ (60 < N ∧ N ≤ 4096) ∧ ¬ (60 < M ∧ M ≤ 4096) ∧ 4200 < N ∨ ¬ (60 < N ∧ N ≤ 4096) ∧ ¬ (60 < M ∧ M ≤ 4096) ∧ ¬ 4200 < N ∧ 4200 < M := by
    by_cases h1 : 60 < N ∧ N ≤ 4096
    · exact .inl h1
    · by_cases h2 : 60 < M ∧ M ≤ 4096
      · exact .inr (.inl ⟨h1, h2⟩)
      · by_cases h3 : 4200 < N
        · exact .inr (.inr (.inl ⟨h1, h2, h3⟩))
        · by_cases h4 : 4200 < M
          · exact .inr (.inr (.inr ⟨h1, h2, h3, h4⟩))
          · exact absurd ⟨by omega, by omega, by omega, by omega⟩ h
  clear h
  obtain ⟨b1, hb1⟩ : ∃ b, decide ((60 : Int) < N) = b := ⟨_, rfl⟩
  obtain ⟨b2, hb2⟩ : ∃ b, decide ((N : Int) ≤ 4096) = b := ⟨_, rfl⟩
  obtain ⟨b3, hb3⟩ : ∃ b, decide ((60 : Int) < M) = b := ⟨_, rfl⟩
  obtain ⟨b4, hb4⟩ : ∃ b, decide ((M : Int) ≤ 4096) = b := ⟨_, rfl⟩
  obtain ⟨b5, hb5⟩ : ∃ b, decide ((4200 : Int) < N) = b := ⟨_, rfl⟩
  obtain ⟨b6, hb6⟩ : ∃ b, decide ((4200 : Int) < M) = b := ⟨_, rfl⟩
  have hc : (b1 && b2 || b3 && b4 || b5 || b6) = true := by
    subst hb1 hb2 hb3 hb4 hb5 hb6
    simp only [Bool.or_eq_true, Bool.and_eq_true, decide_eq_true_eq]
    omega
  clear h'
  go_enter Tryz.func18, Tryz.ntmps18
  cases b1 <;> cases b2 <;> cases b3 <;> cases b4 <;> cases b5 <;> cases b6 <;> first | (exfalso; revert hc; decide) | skip
  all_goals
    clear hc
    go_wp2_with fail
    go_ret
    exact ⟨rfl, mkI⟩
abbrev GivesO (f : FuncId) (args : Array Value) (W : World) (L : List Sp) : Prop := Calls Tryz.prog f args W fun e w' => ∃ p c, e = .returned (.tuple #[.slice p L.length c, .int .i64 0]) ∧ Hid (w'.ownsRow W.heap.size 39 2 (.slice p L.length c) L.length (L.flatMap spCells)) ∧ ∃ x : Ext W, w' = x.w
theorem givesO {f : FuncId} {args : Array Value} {W : World} {L : List Sp} (h : GivesS f args W L) : GivesO f args W L := by
  unfold GivesS at h
  exact h.mono fun e w' ⟨u, he, ho, hx⟩ => by
    obtain ⟨p, c, rfl⟩ := owns_sliceN ho
    exact ⟨p, c, he, Lib.hid ho, hx⟩
theorem wrongLs_zero {a b : List Sp} (h : wrongLs [a, b] = 0) : a.length ≤ 4096 ∧ b.length ≤ 4096 ∧ rightS a = true ∧ rightS b = true := by
  rw [wrongLs_two] at h
  split at h
  · cases h
  · split at h
    · rename_i h1 h2
      exact ⟨by omega, by omega, h2.1, h2.2⟩
    · cases h
set_option maxHeartbeats 64000000 in
set_option maxRecDepth 100000 in
theorem two_no (a b : List Sp) (va vb : Value) (w : World) (ra : SpRow w va a) (rb : SpRow w vb b) (ba : ∀ x ∈ a, SpB x) (bb : ∀ x ∈ b, SpB x) (hin : TwoIn a.length b.length) (e : Int) (he : wrongLs [a, b] = e) (hz : (e != 0) = true) :
    Gives Tryz.prog 18 #[va, vb] w (.bool true) := by
  obtain ⟨hn, hm, hn2, hm2⟩ := hin
  have cl1 := slent_any a va w ra (by omega)
  have cl2 := fun (W : World) (u : UpI w W) => slent_any b vb W (rb.up u.up) (by omega)
  have ct1 := fun (W : World) (u : UpI w W) => turned_any a va W (ra.up u.up) ba (by omega)
  have ct2 := fun (W : World) (u : UpI w W) => turned_any b vb W (rb.up u.up) bb (by omega)
  have cw := fun (v u : Value) (W : World) (h : RsRow W v a) (k : RsRow W u b) => (rwrong_any a b v u W h k ba bb (by omega) (by omega)).cast (v := .int .i64 e) (by rw [he])
  have cu := fun (v u : Value) (W : World) (h : SpRow W v a) (k : SpRow W u b) => spunion_no a b v u W h k ba bb (by omega) (by omega) e he hz
  have cc := fun (v u : Value) (W : World) (h : SpRow W v a) (k : SpRow W u b) => spcommon_no a b v u W h k ba bb (by omega) (by omega) e he hz
  have co := fun (v u : Value) (W : World) (h : SpRow W v a) (k : SpRow W u b) => spwithout_no a b v u W h k ba bb (by omega) (by omega) e he hz
  have ci := fun (v u : Value) (W : World) (h : SpRow W v a) (k : SpRow W u b) => spwithin_no a b v u W h k ba bb (by omega) (by omega) e he hz
  have cq := fun (W : World) => equals_err (.slice none 0 0) e (.slice none 0 0) W hz 0
  have cs1 := fun (v u : Value) (W : World) (h : SpRow W v a) (k : SpRow W u a) => same_yes a v u W h k (by omega)
  have cs2 := fun (v u : Value) (W : World) (h : SpRow W v b) (k : SpRow W u b) => same_yes b v u W h k (by omega)
  have hee : (e == e) = true := by simp
  have RA := Lib.hid ra; have RB := Lib.hid rb
  obtain ⟨pa, capa, hva⟩ := sp_len ra
  obtain ⟨pb, capb, hvb⟩ := sp_len rb
  subst hva hvb
  unfold GivesR at ct1 ct2
  generalize a.length = N at *
  generalize b.length = M at *
  clear ra rb ba bb he
  unfold Gives
  go_enter Tryz.func18, Tryz.ntmps18
  have d5 : decide ((4200 : Int) < N) = false := decide_eq_false (by omega)
  have d6 : decide ((4200 : Int) < M) = false := decide_eq_false (by omega)
  go_upto_region 1 with fail
  go_cut [48] (fun v wx => v = .bool false ∧ wx = w)
  case first =>
    rcases hn with hn | hn <;> rcases hm with hm | hm
    · have d1 : decide ((60 : Int) < N) = false := decide_eq_false (by omega)
      have d3 : decide ((60 : Int) < M) = false := decide_eq_false (by omega)
      go_wp2_with fail
      go_meet
      exact ⟨rfl, rfl⟩
    · have d1 : decide ((60 : Int) < N) = false := decide_eq_false (by omega)
      have d3 : decide ((60 : Int) < M) = true := decide_eq_true (by omega)
      have d4 : decide ((M : Int) ≤ 4096) = false := decide_eq_false (by omega)
      go_wp2_with fail
      go_meet
      exact ⟨rfl, rfl⟩
    · have d1 : decide ((60 : Int) < N) = true := decide_eq_true (by omega)
      have d2 : decide ((N : Int) ≤ 4096) = false := decide_eq_false (by omega)
      have d3 : decide ((60 : Int) < M) = false := decide_eq_false (by omega)
      go_wp2_with fail
      go_meet
      exact ⟨rfl, rfl⟩
    · have d1 : decide ((60 : Int) < N) = true := decide_eq_true (by omega)
      have d2 : decide ((N : Int) ≤ 4096) = false := decide_eq_false (by omega)
      have d3 : decide ((60 : Int) < M) = true := decide_eq_true (by omega)
      have d4 : decide ((M : Int) ≤ 4096) = false := decide_eq_false (by omega)
      go_wp2_with fail
      go_meet
      exact ⟨rfl, rfl⟩
  case rest =>
    obtain ⟨rfl, rfl⟩ := hcut
    clear hn hm d5 d6
    go_wp2_with (first
      | (go_at_call 41; (with_reducible refine Calls.mono cl1 ?_); clear cl1; rintro e w' ⟨p1, c1, rfl, R1, x1, rfl⟩)
      | (go_at_call 41; (with_reducible refine Calls.mono (cl2 _ inferInstance) ?_); clear cl2; rintro e w' ⟨p2, c2, rfl, R2, x2, rfl⟩)
      | (go_at_call 42; (with_reducible refine Calls.mono (ct1 _ inferInstance) ?_); clear ct1; rintro e w' ⟨p3, c3, rfl, R3, x3, rfl⟩)
      | (go_at_call 42; (with_reducible refine Calls.mono (ct2 _ inferInstance) ?_); clear ct2; rintro e w' ⟨p4, c4, rfl, R4, x4, rfl⟩)
      | (go_at_call 13; (with_reducible refine (cu _ _ x4.w (R1.out.up upI) (R2.out.up upI)).mono ?_); clear cu; rintro e w' ⟨rfl, x5, rfl⟩)
      | (go_at_call 14; (with_reducible refine (cc _ _ x5.w (R1.out.up upI) (R2.out.up upI)).mono ?_); clear cc; rintro e w' ⟨rfl, x6, rfl⟩)
      | (go_at_call 15; (with_reducible refine (co _ _ x6.w (R1.out.up upI) (R2.out.up upI)).mono ?_); clear co; rintro e w' ⟨rfl, x7, rfl⟩)
      | (go_at_call 19; (with_reducible refine (ci _ _ x7.w (R1.out.up upI) (R2.out.up upI)).mono ?_); clear ci; rintro e w' ⟨rfl, x8, rfl⟩)
      | (go_at_call 43; (with_reducible refine (cw _ _ x8.w (R3.out.up upI) (R4.out.up upI)).mono ?_); clear cw; rintro e w' ⟨rfl, x9, rfl⟩)
      | (go_at_call 44; (with_reducible refine (cq _).mono ?_); rintro e w' ⟨rfl, x10, rfl⟩)
      | (go_at_call 26; (with_reducible refine (cs1 _ _ x10.w (R1.out.up upI) (RA.out.up upI)).mono ?_); clear cs1; rintro e w' ⟨rfl, x11, rfl⟩)
      | (go_at_call 26; (with_reducible refine (cs2 _ _ x11.w (R2.out.up upI) (RB.out.up upI)).mono ?_); clear cs2; rintro e w' ⟨rfl, x12, rfl⟩))
    go_ret
    exact ⟨rfl, mkI⟩
end Go.Proofs.YtgfkcbflnkpogaaGreatDoor
namespace Go.Ab
open Go.RowKit
def markA (i : Nat) : Int := ((8000024 + (i : Int)) * 2654435769) % 4294967296
def markP (i : Nat) : Int × Int := (markA i, 0)
def marksP (n : Nat) : List (Int × Int) := (List.range n).map markP
theorem marksP_succ (n : Nat) : marksP (n + 1) = marksP n ++ [markP n] := by simp [marksP, List.range_succ]
theorem marksP_len (n : Nat) : (marksP n).length = n := by simp [marksP]
end Go.Ab
namespace Go.Proofs.YtgfkcbflnkpogaaGreatDoor
open Go.RowKit Go.Ab
attribute [local go_sem high] wrapI64 wrapK64
theorem one_rowP (W : World) (x : Int × Int) (b : Nat) (h : b = W.heap.size) : PfRow (W.alloc (.cells #[.int .u32 x.1, .int .u8 x.2] 62)) (.slice (some ⟨b, 0, none⟩) 1 1) [x] := by
  subst h
  exact RowOf.of_block (cells := pfCells) (k := 2) pfCells_length (l := [x]) (t := 62) (fz := (0, 0)) (by rw [alloc_get, if_pos rfl]; rfl) (Nat.le_refl _)
theorem infoPfx : (Tryz.prog.info? 62).map (fun i => (i.zero, i.size, i.bytes)) = some (some (.agg #[.int .u32 0, .int .u8 0]), 2, 8) := by kernel_rfl
set_option maxHeartbeats 8000000 in
set_option maxRecDepth 100000 in
theorem markp_any (i : Nat) (hi : i < 12) (w : World) : Gives Tryz.prog 90 #[.int .i64 1, .int .i64 (i : Int)] w (.agg #[.int .u32 (markA i), .int .u8 0]) := by
  have hw : ∀ w, Gives Tryz.prog 117 #[.int .i64 1, .int .i64 (i : Int)] w (.int .u32 (markA i)) := by
    intro w
    have hm : Gives Tryz.prog 141 #[.int .i64 1, .int .i64 (i : Int)] w (.int .i64 (8000024 + (i : Int))) := by
      haveI : In64 (8000024 + (i : Int)) := ⟨by omega⟩
      unfold Gives
      go_enter Tryz.func141, Tryz.ntmps141
      go_wp2_with fail
      go_ret
      exact ⟨rfl, mkI⟩
    have e1 : IntKind.u32.wrap (8000024 + (i : Int)) = 8000024 + (i : Int) := IntWalk.u32_in _ ⟨by omega, by omega⟩
    have e2 : IntKind.u32.wrap ((8000024 + (i : Int)) * 2654435769) = markA i := by rw [IntKind.wrap_u32]; rfl
    unfold Gives
    go_enter Tryz.func117, Tryz.ntmps117
    go_wp2_with (go_at_call 141; refine hm.mono ?_; rintro e w' ⟨rfl, z, rfl⟩)
    go_ret
    simp only [e1, e2]
    exact ⟨rfl, mkI⟩
  unfold Gives
  go_enter Tryz.func90, Tryz.ntmps90
  go_wp2_with (go_at_call 117; refine (hw _).mono ?_; rintro e w' ⟨rfl, z, rfl⟩)
  refine bodyPost_ret (v := .agg #[.int .u32 (markA i), .int .u8 0]) (by simp [results, Tryz.results90, loadVar, go_sem]) rfl ⟨rfl, ?_⟩
  exact mkI
theorem eq_pfx (w : World) (p M q N : Int) : (Op.equalIn 10000 62 (.agg #[.int .u32 p, .int .u8 M]) (.agg #[.int .u32 q, .int .u8 N])).run Tryz.prog w = .ok (p == q && M == N) w := by
  cases h : (p == q) <;> cases h2 : (M == N) <;> simp_all [go_sem]
set_option maxHeartbeats 16000000 in
set_option maxRecDepth 100000 in
theorem lentp_any (l : List (Int × Int)) (v : Value) (w : World) (hv : PfRow w v l) (hl : l.length ≤ 100000) :
    Calls Tryz.prog 58 #[v] w fun e w' => ∃ g cap, e = .returned (.slice (some ⟨g, 0, none⟩) l.length cap) ∧ l.length + 12 ≤ cap ∧ Hid (PfRow w' (.slice (some ⟨g, 0, none⟩) (l.length + 12) cap) (l ++ marksP 12)) ∧ ∃ x : Ext w, w' = x.w := by
  obtain ⟨i0, hi, hy0, hy1, hy2⟩ := info_parts infoPfx
  obtain ⟨N, hN⟩ : ∃ N, l.length = N := ⟨_, rfl⟩
  have HR := Lib.hid hv
  obtain ⟨p, cap, rfl, hle, _⟩ := hv
  rw [hN] at hle hl HR ⊢
  obtain ⟨mc, hms, hmk⟩ : ∃ mc : Array Value, mc.size = (N + 12) * 2 ∧ ∀ W : World, (Instr.makeSlice 42 (.int .i64 0) (.int .i64 ((N : Int) + 12))).run Tryz.prog W = .ok (.slice (some ⟨W.heap.size, 0, none⟩) 0 (N + 12)) (W.alloc (.cells mc 62)) := by
    refine ⟨madeCells (Value.agg #[.int .u32 0, .int .u8 0]).cells ((N + 12) * 2), size_madeCells _ _, fun W => ?_⟩
    have := run_makeSlice (P := Tryz.prog) (w := W) 42 62 i0 _ Tryz.underlying42 hi hy0 .i64 .i64 0 ((N : Int) + 12) (Int.le_refl _) (by omega) (by rw [hy1]; omega) (by rw [hy2]; omega) (by omega)
    rw [show ((N : Int) + 12).toNat = N + 12 by omega, hy1] at this
    exact this
  have Hi := Lib.hid hi; have Hy0 := Lib.hid hy0; have Hy1 := Lib.hid hy1; have Hy2 := Lib.hid hy2
  have Hms := Lib.hid hms
  have HN := Lib.hid hN
  haveI : In64 ((N : Int) + 12) := ⟨by omega⟩
  clear hi hy0 hy1 hy2 hN hms
  go_enter Tryz.func58, Tryz.ntmps58
  go_upto_region 3 with (at_builtin; refine wpList_append_list (cells := pfCells) (k := 2) pfCells_length (fun e u h => pf_one e u h) (by decide) rfl _ _ 42 rfl w.heap.size 62 i0 (.agg #[.int .u32 0, .int .u8 0]) 8 Tryz.underlying42 Hi.out Hy0.out Hy1.out Hy2.out rfl [] _ rfl (World.ownsRow_made w mc (N + 12) (Nat.le_refl _) (by unfold maxLen; omega) Hms.out) l _ rfl (HR.out.up upI) (by rw [HN.out]; unfold maxLen; simp; omega) (by rw [HN.out]; simp; omega) (upI : Up w _).size ?_; intro v1 w1 hown1 hgrow1)
  have hup1 : Up w w1 := (upI : Up w _).grown hgrow1 (fun k hk => owns_row (World.ownsRow_made (e := 62) (size := 2) w mc (N + 12) (Nat.le_refl _) (by unfold maxLen; omega) Hms.out) k hk)
  haveI : UpI w w1 := ⟨hup1⟩
  rw [List.nil_append] at hown1
  have HO := Lib.hid hown1
  clear hown1 hgrow1 hmk Hms
  go_wp2_with fail
  go_loopw [3, 4] (fun out i wr => ∃ k : Nat, k ≤ 12 ∧ i = .int .i64 (k : Int) ∧ Hid (wr.ownsRow w.heap.size 62 2 out (l ++ marksP k).length ((l ++ marksP k).flatMap pfCells)) ∧ Up w wr) (fun _ i _ => 12 - (intOf i).toNat)
  case atStart => exact ⟨0, by omega, rfl, Lib.hid (by rw [show marksP 0 = [] from rfl, List.append_nil]; exact HO.out), hup1⟩
  case round =>
    clear HO
    obtain ⟨k, hk, rfl, Hown, hu⟩ := hrel
    haveI : UpI w wr := ⟨hu⟩
    by_cases hlt : k < 12
    · have hlt' : (k : Int) < 12 := by omega
      have hmk := fun W => markp_any k hlt W
      have HS := Lib.hid (show l ++ marksP (k + 1) = l ++ marksP k ++ [markP k] by rw [marksP_succ, ← List.append_assoc])
      have hlen : (l ++ marksP k).length = N + k := by rw [List.length_append, marksP_len, HN.out]
      obtain ⟨m, hm⟩ : ∃ m, markP k = m := ⟨_, rfl⟩
      have hm1 : markA k = m.1 := by rw [← hm]; rfl
      have hm2 : (0 : Int) = m.2 := by rw [← hm]; rfl
      rw [hm1] at hmk
      rw [show (Value.int IntKind.u8 0) = .int .u8 m.2 by rw [← hm2]] at hmk
      rw [hm] at HS
      clear hm hm1
      generalize l ++ marksP k = O at *
      go_wp2_with (first
        | (go_at_call 90; refine (hmk _).mono ?_; rintro e w' ⟨rfl, z1, rfl⟩)
        | (at_builtin; refine wpList_append_list (cells := pfCells) (k := 2) pfCells_length (fun e u h => pf_one e u h) (by decide) rfl _ _ 42 rfl w.heap.size 62 i0 (.agg #[.int .u32 0, .int .u8 0]) 8 Tryz.underlying42 Hi.out Hy0.out Hy1.out Hy2.out rfl O _ rfl (owns_up Hown.out (upI : Up wr _)) [m] _ rfl (one_rowP z1.w m _ rfl) (by rw [hlen]; unfold maxLen; simp; omega) (by rw [hlen]; simp; omega) (upI : Up w _).size ?_; intro v2 w2 hown2 hgrow2))
      have hup3 : Up w w2 := (upI : Up w _).grown hgrow2 (owns_row Hown.out)
      have HO2 := Lib.hid hown2
      clear hown2 hgrow2
      go_wp2_with fail
      go_roundw
      case rel => exact ⟨k + 1, by omega, by go_num, by rw [HS.out]; exact HO2, hup3⟩
      case measure => simp [intOf]; omega
    · obtain rfl : k = 12 := by omega
      have hL : (l ++ marksP 12).length = N + 12 := by rw [List.length_append, HN.out, marksP_len]
      have hown2 := Hown.out
      rw [hL] at hown2
      have hrow2 := RowOf.of_owns (cells := pfCells) (k := 2) pfCells_length Hown.out
      obtain ⟨g, cap2, hv3, _, _, hcap2, _⟩ := owns_cells hown2 (by omega)
      subst hv3
      have HR2 := Lib.hid (show PfRow wr (.slice (some ⟨g, 0, none⟩) (N + 12) cap2) (l ++ marksP 12) from (by exact hrow2))
      have s1 : (N : Int) ≤ (cap2 : Int) := by omega
      clear hrow2 hown2 Hown HR
      go_wp2_with fail
      go_ret
      exact ⟨g, cap2, rfl, hcap2, HR2, mkI⟩
theorem pfrow_own {W : World} {g n cap : Nat} {l m : List (Int × Int)} (h : PfRow W (.slice (some ⟨g, 0, none⟩) (l.length + n) cap) (l ++ m)) : PfRow W (.slice (some ⟨g, 0, none⟩) l.length cap) l := by
  obtain ⟨p, c, hv, hle, hc⟩ := h
  simp only [Value.slice.injEq] at hv
  obtain ⟨rfl, _, rfl⟩ := hv
  exact ⟨_, _, rfl, by rw [List.length_append] at hle; omega, fun i e he => hc i e (by rw [List.getElem?_append_left (List.getElem?_eq_some_iff.1 he).1]; exact he)⟩
attribute [local go_sem high] eq_pfx
set_option maxHeartbeats 16000000 in
set_option maxRecDepth 100000 in
theorem keptp_any (l : List (Int × Int)) (v : Value) (g cap N : Nat) (w : World) (hN : l.length = N) (hv : PfRow w v l) (ho : PfRow w (.slice (some ⟨g, 0, none⟩) (l.length + 12) cap) (l ++ marksP 12)) (hcap : l.length + 12 ≤ cap) (hl : l.length ≤ 100000) :
    Gives Tryz.prog 61 #[.slice (some ⟨g, 0, none⟩) N cap, v] w (.bool true) := by
  obtain ⟨p, cap2, rfl, hle, hc⟩ := hv
  rw [hN] at hle hl hcap ho ⊢
  have hoc := fun (j : Nat) (x : Int × Int) (h : (l ++ marksP 12)[j]? = some x) => (show w.cell? ⟨g, j * 2, none⟩ = some (.int .u32 x.1) ∧ w.cell? ⟨g, j * 2 + 1, none⟩ = some (.int .u8 x.2) ∧ g < w.heap.size by
    obtain ⟨p', c', hv', _, hc'⟩ := ho
    obtain ⟨b, o, hp, hb, h2⟩ := hc' j x h
    simp only [Value.slice.injEq] at hv'
    rw [← hv'.1] at hp
    simp only [Option.some.injEq, Addr.mk.injEq, and_true] at hp
    obtain ⟨rfl, rfl⟩ := hp
    have q0 := h2 0 _ rfl
    have q1 := h2 1 _ rfl
    rw [Nat.zero_add] at q0 q1
    exact ⟨q0, q1, hb⟩)
  have hg : g < w.heap.size := (hoc (N + 0) (markP 0) (by rw [List.getElem?_append_right (by omega), hN, show N + 0 - N = 0 by omega]; rfl)).2.2
  have Hoc := Lib.hid hoc
  have Hc := Lib.hid hc
  have HN := Lib.hid hN
  clear hoc hc hN ho
  haveI : In64 ((N : Int) + 12) := ⟨by omega⟩
  have s0 : (0 : Int) ≤ (N : Int) + 12 := by omega
  have s1 : (N : Int) + 12 ≤ (cap : Int) := by omega
  have s2 : ((N : Int) + 12).toNat = N + 12 := by omega
  unfold Gives
  go_enter Tryz.func61, Tryz.ntmps61
  go_wp2_with fail
  go_loopw [6] (fun i wr => ∃ k : Nat, k ≤ N + 12 ∧ i = .int .i64 (k : Int) ∧ ∃ x : Ext w, wr = x.w) (fun i _ => N + 12 - (intOf i).toNat)
  case atStart => exact ⟨0, by omega, rfl, mkI⟩
  case round =>
    obtain ⟨k, hk, rfl, x0, rfl⟩ := hrel
    haveI : LtSize g w := ⟨hg⟩
    have k0 : (0 : Int) ≤ (k : Int) := by omega
    by_cases hlt : k < N
    · have hlt' : (k : Int) < (N : Int) := by omega
      have hlt2 : (k : Int) < (N : Int) + 12 := by omega
      obtain ⟨x, hs⟩ : ∃ x, l[k]? = some x := ⟨_, List.getElem?_eq_getElem (by rw [HN.out]; exact hlt)⟩
      obtain ⟨b1, o1, rfl, hb1, hc1⟩ := Hc.out k x hs
      have c0 := hc1 0 _ rfl
      have c1 := hc1 1 _ rfl
      rw [Nat.add_zero] at c0
      obtain ⟨d0, d1, _⟩ := Hoc.out k x (by rw [List.getElem?_append_left (by rw [HN.out]; exact hlt)]; exact hs)
      haveI : LtSize b1 w := ⟨hb1⟩
      have t1 : decide (k < N) = true := decide_eq_true hlt
      have t2 : decide (N ≤ k) = false := decide_eq_false (by omega)
      have hb : (x.1 == x.1 && x.2 == x.2) = true := by simp
      clear hc1 hs
      go_wp2_with fail
      (refine wp_region_ext (by kernel_rfl) (by kernel_rfl) ?_; (repeat (go_big_quiet_step (fail))); refine wpQuiet_nil ?_; rintro _ ⟨y, rfl⟩)
      go_wp2_with fail
      go_roundw
      case rel => exact ⟨k + 1, by omega, by go_num, mkI⟩
      case measure => simp [intOf]; omega
    · by_cases hlt2 : k < N + 12
      · have hlt3 : (k : Int) < (N : Int) + 12 := by omega
        have hge : (N : Int) ≤ (k : Int) := by omega
        have t1 : decide (k < N) = false := decide_eq_false (by omega)
        have t2 : decide (N ≤ k) = true := decide_eq_true (by omega)
        obtain ⟨j, hj⟩ : ∃ j, k - N = j := ⟨_, rfl⟩
        have hkj : (k : Int) - (N : Int) = (j : Int) := by omega
        have hmk := fun W => markp_any j (by omega) W
        obtain ⟨d0, d1, _⟩ := Hoc.out k (markP j) (by
          rw [List.getElem?_append_right (by rw [HN.out]; omega), HN.out, hj]
          unfold marksP
          rw [List.getElem?_map, List.getElem?_range (by omega)]; rfl)
        obtain ⟨m, hm⟩ : ∃ m, markP j = m := ⟨_, rfl⟩
        have hm1 : markA j = m.1 := by rw [← hm]; rfl
        have hm2 : (0 : Int) = m.2 := by rw [← hm]; rfl
        rw [hm1] at hmk
        rw [show (Value.int IntKind.u8 0) = .int .u8 m.2 by rw [← hm2]] at hmk
        rw [hm] at d0 d1
        haveI : In64 (j : Int) := ⟨by omega⟩
        clear hm hm1 hm2
        clear hj
        go_wp2_with fail
        (refine wp_region_ext (by kernel_rfl) (by kernel_rfl) ?_; (repeat (go_big_quiet_step ((go_at_call 90; exact (hmk _).ext)))); refine wpQuiet_nil ?_; rintro _ ⟨y, rfl⟩)
        go_wp2_with fail
        go_roundw
        case rel => exact ⟨k + 1, by omega, by go_num, mkI⟩
        case measure => simp [intOf]; omega
      · have hge : (N : Int) + 12 ≤ (k : Int) := by omega
        go_wp2_with fail
        go_ret
        exact ⟨rfl, mkI⟩
end Go.Proofs.YtgfkcbflnkpogaaGreatDoor
namespace Go.Ab
open Go.RowKit
def badP (l : List (Int × Int)) : Bool := l.any fun p => !rightB p.1 p.2
theorem badP_no {l : List (Int × Int)} (h : badP l = false) : ∀ p ∈ l, rightB p.1 p.2 = true := fun p hp => by
  unfold badP at h
  rw [List.any_eq_false] at h
  have := h p hp
  simpa using this
theorem badP_all {l : List (Int × Int)} (h : ∀ j, j < l.length → ∀ p, l[j]? = some p → rightB p.1 p.2 = true) : badP l = false := by
  unfold badP
  rw [List.any_eq_false]
  intro p hp
  obtain ⟨j, hj⟩ := List.getElem?_of_mem hp
  have := h j (List.getElem?_eq_some_iff.1 hj).1 p hj
  simp [this]
end Go.Ab
namespace Go.Proofs.YtgfkcbflnkpogaaGreatDoor
open Go.RowKit Go.Ab
attribute [local go_sem high] wrapI64 wrapK64
set_option maxHeartbeats 8000000 in
set_option maxRecDepth 100000 in
theorem ofprefixes_many (l : List (Int × Int)) (v : Value) (w : World) (hv : PfRow w v l) (hl : 4096 < l.length) : Gives Tryz.prog 29 #[v] w (.tuple #[.slice none 0 0, .int .i64 5]) := by
  obtain ⟨p, cap, rfl, hle, hc⟩ := hv
  generalize l.length = n at *
  have h : (4096 : Int) < (n : Int) := by omega
  clear hc hl
  unfold Gives
  go_enter Tryz.func29, Tryz.ntmps29
  go_wp2_with fail
  go_ret2
  exact ⟨rfl, mkI⟩
set_option maxHeartbeats 8000000 in
set_option maxRecDepth 100000 in
theorem rofprefixes_many (l : List (Int × Int)) (v : Value) (w : World) (hv : PfRow w v l) (hl : 4096 < l.length) : Gives Tryz.prog 60 #[v] w (.tuple #[.slice none 0 0, .int .i64 5]) := by
  obtain ⟨p, cap, rfl, hle, hc⟩ := hv
  generalize l.length = n at *
  have h : (4096 : Int) < (n : Int) := by omega
  clear hc hl
  unfold Gives
  go_enter Tryz.func60, Tryz.ntmps60
  go_wp2_with fail
  go_ret2
  exact ⟨rfl, mkI⟩
set_option maxHeartbeats 8000000 in
set_option maxRecDepth 100000 in
theorem rof_many (l : List Sp) (v : Value) (w : World) (hv : RsRow w v l) (hl : 4096 < l.length) : Gives Tryz.prog 67 #[v] w (.tuple #[.slice none 0 0, .int .i64 5]) := by
  obtain ⟨p, cap, rfl, hle, hc⟩ := hv
  generalize l.length = n at *
  have h : (4096 : Int) < (n : Int) := by omega
  clear hc hl
  unfold Gives
  go_enter Tryz.func67, Tryz.ntmps67
  go_wp2_with fail
  go_ret2
  exact ⟨rfl, mkI⟩
/-- What a call that makes a reference's set, and an error, gives. -/
abbrev GivesRE (f : FuncId) (args : Array Value) (w : World) (L : List Sp) : Prop := Calls Tryz.prog f args w fun e w' => ∃ p c, e = .returned (.tuple #[.slice p L.length c, .int .i64 0]) ∧ Hid (RsRow w' (.slice p L.length c) L) ∧ ∃ x : Ext w, w' = x.w
def RofPost (P : World → Value → List Sp → Prop) (l : List Sp) (e : Ending) (w' : World) : Prop :=
  if badS l = true then e = .returned (.tuple #[.slice none 0 0, .int .i64 2]) else ∃ p c, e = .returned (.tuple #[.slice p (ofL l).length c, .int .i64 0]) ∧ Hid (P w' (.slice p (ofL l).length c) (ofL l))
theorem RofPost.bad {P : World → Value → List Sp → Prop} {l : List Sp} {w' : World} (h : badS l = true) : RofPost P l (.returned (.tuple #[.slice none 0 0, .int .i64 2])) w' := by unfold RofPost; rw [if_pos h]
theorem RofPost.good {P : World → Value → List Sp → Prop} {l : List Sp} {w' : World} {p : Option Addr} {c : Nat} (h : badS l = false) (k : Hid (P w' (.slice p (ofL l).length c) (ofL l))) : RofPost P l (.returned (.tuple #[.slice p (ofL l).length c, .int .i64 0])) w' := by unfold RofPost; rw [if_neg (by rw [h]; simp)]; exact ⟨p, c, rfl, k⟩
theorem badS_at {l : List Sp} {k : Nat} {x : Sp} (hx : l[k]? = some x) (h : x.2 < x.1) : badS l = true := List.any_eq_true.2 ⟨x, List.mem_of_getElem? hx, decide_eq_true h⟩
theorem badS_all {l : List Sp} (h : ∀ j, j < l.length → ∀ x, l[j]? = some x → x.1 ≤ x.2) : badS l = false := by
  unfold badS
  rw [List.any_eq_false]
  intro x hx
  obtain ⟨j, hj⟩ := List.getElem?_of_mem hx
  have := h j (List.getElem?_eq_some_iff.1 hj).1 x hj
  simp; omega
set_option maxHeartbeats 8000000 in
set_option maxRecDepth 100000 in
theorem rof_any (l : List Sp) (v : Value) (w : World) (hv : RsRow w v l) (hb : ∀ x ∈ l, SpB x) (hl : l.length ≤ 4096) :
    Calls Tryz.prog 67 #[v] w fun e w' => RofPost RsRow l e w' ∧ ∃ x : Ext w, w' = x.w := by
  have RV := Lib.hid hv
  have Hb := Lib.hid hb
  obtain ⟨p, cap, rfl, hle, hc⟩ := hv
  have Hc := Lib.hid hc
  obtain ⟨N, hN⟩ : ∃ N, l.length = N := ⟨_, rfl⟩
  rw [hN] at hle hl RV ⊢
  have HN := Lib.hid hN
  have hbig : decide ((4096 : Int) < N) = false := decide_eq_false (by omega)
  clear hN hc hb
  go_enter Tryz.func67, Tryz.ntmps67
  go_wp2_with fail
  go_loopw [4] (fun i wr => ∃ (k : Nat), k ≤ N ∧ i = .int .i64 (k : Int) ∧ Hid (∀ j, j < k → ∀ x, l[j]? = some x → x.1 ≤ x.2) ∧ ∃ x : Ext w, wr = x.w) (fun i _ => N - (intOf i).toNat)
  case atStart => exact ⟨0, Nat.zero_le _, rfl, Lib.hid (fun j h => absurd h (Nat.not_lt_zero j)), mkI⟩
  case round =>
    obtain ⟨k, hk, rfl, Hk, x0, rfl⟩ := hrel
    by_cases hlt : k < N
    · have hlt' : (k : Int) < (N : Int) := by omega
      have k0 : (0 : Int) ≤ (k : Int) := by omega
      obtain ⟨x, hx⟩ : ∃ x, l[k]? = some x := ⟨_, List.getElem?_eq_getElem (by rw [HN.out]; exact hlt)⟩
      obtain ⟨b, o, rfl, hbb, hcc⟩ := Hc.out k x hx
      haveI : LtSize b w := ⟨hbb⟩
      have c0 := hcc 0 _ rfl
      have c1 := hcc 1 _ rfl
      simp only [Nat.add_zero] at c0
      have Hx := Lib.hid hx
      clear hcc hx Hc
      by_cases hgt : x.2 < x.1
      · have hd : decide (x.2 < x.1) = true := decide_eq_true hgt
        have E := Lib.hid (badS_at Hx.out hgt)
        go_wp2_with fail
        (refine wp_region_ext (by kernel_rfl) (by kernel_rfl) ?_; (repeat (go_big_quiet_step (fail))); refine wpQuiet_nil ?_; rintro _ ⟨y, rfl⟩)
        go_wp2_with fail
        go_ret2
        exact ⟨.bad E.out, mkI⟩
      · have hd : decide (x.2 < x.1) = false := decide_eq_false hgt
        go_wp2_with fail
        (refine wp_region_ext (by kernel_rfl) (by kernel_rfl) ?_; (repeat (go_big_quiet_step (fail))); refine wpQuiet_nil ?_; rintro _ ⟨y, rfl⟩)
        go_wp2_with fail
        go_roundw
        case rel => exact ⟨k + 1, by omega, by go_num, Lib.hid (fun j hj z hz => by
          rcases Nat.lt_or_eq_of_le (Nat.le_of_lt_succ hj) with h | h
          · exact Hk.out j h z hz
          · subst h; rw [Hx.out] at hz; cases hz; omega), mkI⟩
        case measure => simp [intOf]; omega
    · obtain rfl : k = N := by omega
      have E := badS_all (l := l) (fun j hj => Hk.out j (by rw [HN.out] at hj; exact hj))
      have hle2 := badS_no E
      have h1 := fun (W : World) (u : UpI w W) => rothers_any l _ W (RV.out.up u.up) Hb.out hle2 (by rw [HN.out]; omega)
      have h2 := fun (v : Value) (W : World) (h : RsRow W v (othersL l)) => rothers_any (othersL l) v W h (othersL_b hle2) (rF_le (rF_others hle2)) (by have := others_len hle2; rw [HN.out] at this; omega)
      have EE := Lib.hid E
      unfold GivesR at h1 h2
      clear E hle2 Hc
      go_wp2_with (first
        | (go_at_call 73; (with_reducible refine Calls.mono (h1 _ inferInstance) ?_); clear h1; rintro e w' ⟨p1, c1, rfl, R1, x1, rfl⟩)
        | (go_at_call 73; (with_reducible refine Calls.mono (h2 _ x1.w R1.out) ?_); clear h2; rintro e w' ⟨p2, c2, rfl, R2, x2, rfl⟩))
      go_ret2
      exact ⟨.good EE.out R2, mkI⟩
set_option maxHeartbeats 64000000 in
set_option maxRecDepth 100000 in
theorem ofprefixes_bad (l : List (Int × Int)) (v : Value) (w : World) (hv : PfRow w v l) (hb : ∀ p ∈ l, PfB p) (hbad : badP l = true) (hl : l.length ≤ 4096) :
    Gives Tryz.prog 29 #[v] w (.tuple #[.slice none 0 0, .int .i64 2]) := by
  have Hv := Lib.hid hv
  obtain ⟨p, cap, rfl, hle, hc⟩ := hv
  have Hb := Lib.hid hb
  have Hr := Lib.hid hbad
  have Hc := Lib.hid hc
  obtain ⟨N, hN⟩ : ∃ N, l.length = N := ⟨_, rfl⟩
  rw [hN] at hle hl ⊢
  have HN := Lib.hid hN
  obtain ⟨i0, hi, hy0, hy1, hy2⟩ := info_parts infoSpan
  have Hi := Lib.hid hi; have Hy0 := Lib.hid hy0; have Hy1 := Lib.hid hy1; have Hy2 := Lib.hid hy2
  have hbig : decide ((N : Int) > 4096) = false := by simp; omega
  have hbig' : decide ((4096 : Int) < N) = false := by simp; omega
  clear hi hy0 hy1 hy2 hN hc hb hbad
  unfold Gives
  go_enter Tryz.func29, Tryz.ntmps29
  go_wp2_with fail
  go_loopw [4, 15] (fun u i wr => ∃ (k : Nat), k ≤ N ∧ i = .int .i64 (k : Int) ∧ Hid (∀ j, j < k → ∀ p, l[j]? = some p → rightB p.1 p.2 = true) ∧ Hid (wr.ownsRow w.heap.size 39 2 u ((l.take k).map boundS).length (((l.take k).map boundS).flatMap spCells)) ∧ Up w wr) (fun _ i _ => N - (intOf i).toNat)
  case atStart => exact ⟨0, Nat.zero_le _, rfl, Lib.hid (fun j h => absurd h (Nat.not_lt_zero j)), Lib.hid (World.ownsRow_nil _ _ _ _), Up.refl _⟩
  case round =>
    obtain ⟨k, hk, rfl, Hk, Hown, hup⟩ := hrel
    haveI : UpI w wr := ⟨hup⟩
    by_cases hlt : k < N
    · have hlt' : (k : Int) < (N : Int) := by omega
      have k0 : (0 : Int) ≤ (k : Int) := by omega
      obtain ⟨x, hx⟩ : ∃ x, l[k]? = some x := ⟨_, List.getElem?_eq_getElem (by rw [HN.out]; exact hlt)⟩
      obtain ⟨b, o, rfl, hb, hcc⟩ := Hc.out k x hx
      haveI : LtSize b wr := ⟨Nat.lt_of_lt_of_le hb hup.size⟩
      have c0 := hup.cell_some (hcc 0 _ rfl)
      have c1 := hup.cell_some (hcc 1 _ rfl)
      simp only [Nat.add_zero] at c0
      have hxb := Hb.out x (List.mem_of_getElem? hx)
      cases hxr : rightB x.1 x.2
      · have hbd := fun (W : World) => (bounds_any x.1 x.2 W hxb.n0 hxb.a0 hxb.a1).cast (v := .tuple #[.int .u32 0, .int .u32 0, .int .i64 31]) (by rw [if_neg (by rw [hxr]; simp)])
        clear hcc hx hxb hxr Hc Hb Hr
        go_wp2_with (go_at_call 30; refine (hbd _).mono ?_; clear hbd; rintro e w' ⟨rfl, y1, rfl⟩)
        go_ret2
        exact ⟨rfl, mkI⟩
      · have hbd := fun (W : World) => (bounds_any x.1 x.2 W hxb.n0 hxb.a0 hxb.a1).cast (v := .tuple #[.int .u32 (boundS x).1, .int .u32 (boundS x).2, .int .i64 0]) (by rw [if_pos hxr]; rfl)
        have hbs := boundS_b hxb hxr
        obtain ⟨bf0, bf1, bt0, bt1⟩ := hbs
        haveI : In64 (boundS x).1 := ⟨by omega⟩
        haveI : In64 (boundS x).2 := ⟨by omega⟩
        have E := Lib.hid (show (l.take (k + 1)).map boundS = (l.take k).map boundS ++ [boundS x] by rw [List.take_add_one, hx]; simp)
        have hlen : ((l.take k).map boundS).length = k := by rw [List.length_map, List.length_take, HN.out]; omega
        have Hx := Lib.hid hx
        have Hxr := Lib.hid hxr
        clear hcc hx hxb hxr Hc Hb Hr
        generalize (l.take k).map boundS = O at *
        generalize boundS x = y at *
        go_wp2_with (first
          | (go_at_call 30; refine (hbd _).mono ?_; clear hbd; rintro e w' ⟨rfl, y1, rfl⟩)
          | (at_builtin; refine wpList_append_list (cells := spCells) (k := 2) spCells_length sp_oneB (by decide) rfl _ _ 24 rfl w.heap.size 39 i0 (.agg #[.int .u32 0, .int .u32 0]) 8 Tryz.underlying24 Hi.out Hy0.out Hy1.out Hy2.out rfl O _ rfl (owns_up Hown.out (upI : Up wr _)) [y] _ rfl (one_rowA y1.w y _ rfl) (by rw [hlen]; unfold maxLen; simp; omega) (by rw [hlen]; simp; omega) (by have := (upI : Up w y1.w).size; simp; omega) ?_; intro v' w1 hown' hgrow))
        have hup3 : Up w w1 := ((upI : Up w _)).grown hgrow (owns_row Hown.out)
        go_roundw
        case rel => exact ⟨k + 1, by omega, by go_num, Lib.hid (fun j hj z hz => by
          rcases Nat.lt_or_eq_of_le (Nat.le_of_lt_succ hj) with h | h
          · exact Hk.out j h z hz
          · subst h; rw [Hx.out] at hz; cases hz; exact Hxr.out), by rw [E.out]; exact Lib.hid hown', hup3⟩
        case measure => simp [intOf]; omega
    · obtain rfl : k = N := by omega
      exact absurd (badP_all (l := l) (fun j hj => Hk.out j (by rw [HN.out] at hj; exact hj))) (by rw [Hr.out]; simp)
set_option maxHeartbeats 64000000 in
set_option maxRecDepth 100000 in
theorem rofprefixes_bad (l : List (Int × Int)) (v : Value) (w : World) (hv : PfRow w v l) (hb : ∀ p ∈ l, PfB p) (hbad : badP l = true) (hl : l.length ≤ 4096) :
    Gives Tryz.prog 60 #[v] w (.tuple #[.slice none 0 0, .int .i64 2]) := by
  have Hv := Lib.hid hv
  obtain ⟨p, cap, rfl, hle, hc⟩ := hv
  have Hb := Lib.hid hb
  have Hr := Lib.hid hbad
  have Hc := Lib.hid hc
  obtain ⟨N, hN⟩ : ∃ N, l.length = N := ⟨_, rfl⟩
  rw [hN] at hle hl ⊢
  have HN := Lib.hid hN
  obtain ⟨i0, hi, hy0, hy1, hy2⟩ := info_parts infoRSpan
  have Hi := Lib.hid hi; have Hy0 := Lib.hid hy0; have Hy1 := Lib.hid hy1; have Hy2 := Lib.hid hy2
  have hbig : decide ((N : Int) > 4096) = false := by simp; omega
  have hbig' : decide ((4096 : Int) < N) = false := by simp; omega
  clear hi hy0 hy1 hy2 hN hc hb hbad
  unfold Gives
  go_enter Tryz.func60, Tryz.ntmps60
  go_wp2_with fail
  go_loopw [4, 5] (fun u i wr => ∃ (k : Nat), k ≤ N ∧ i = .int .i64 (k : Int) ∧ Hid (∀ j, j < k → ∀ p, l[j]? = some p → rightB p.1 p.2 = true) ∧ Hid (wr.ownsRow w.heap.size 137 2 u ((l.take k).map boundS).length (((l.take k).map boundS).flatMap rsCells)) ∧ Up w wr) (fun _ i _ => N - (intOf i).toNat)
  case atStart => exact ⟨0, Nat.zero_le _, rfl, Lib.hid (fun j h => absurd h (Nat.not_lt_zero j)), Lib.hid (World.ownsRow_nil _ _ _ _), Up.refl _⟩
  case round =>
    obtain ⟨k, hk, rfl, Hk, Hown, hup⟩ := hrel
    haveI : UpI w wr := ⟨hup⟩
    by_cases hlt : k < N
    · have hlt' : (k : Int) < (N : Int) := by omega
      have k0 : (0 : Int) ≤ (k : Int) := by omega
      obtain ⟨x, hx⟩ : ∃ x, l[k]? = some x := ⟨_, List.getElem?_eq_getElem (by rw [HN.out]; exact hlt)⟩
      obtain ⟨b, o, rfl, hb, hcc⟩ := Hc.out k x hx
      haveI : LtSize b wr := ⟨Nat.lt_of_lt_of_le hb hup.size⟩
      have c0 := hup.cell_some (hcc 0 _ rfl)
      have c1 := hup.cell_some (hcc 1 _ rfl)
      simp only [Nat.add_zero] at c0
      have hxb := Hb.out x (List.mem_of_getElem? hx)
      cases hxr : rightB x.1 x.2
      · have hbd := fun (W : World) => (refBounds_any x.1 x.2 W hxb.n0 hxb.n1 hxb.a0 hxb.a1).cast (v := .tuple #[.int .u32 0, .int .u32 0, .int .i64 31]) (by rw [if_neg (by rw [hxr]; simp)])
        clear hcc hx hxb hxr Hc Hb Hr
        go_wp2_with (go_at_call 92; refine (hbd _).mono ?_; clear hbd; rintro e w' ⟨rfl, y1, rfl⟩)
        go_ret2
        exact ⟨rfl, mkI⟩
      · have hbd := fun (W : World) => (refBounds_any x.1 x.2 W hxb.n0 hxb.n1 hxb.a0 hxb.a1).cast (v := .tuple #[.int .u32 (boundS x).1, .int .u32 (boundS x).2, .int .i64 0]) (by rw [if_pos hxr]; rfl)
        have hbs := boundS_b hxb hxr
        obtain ⟨bf0, bf1, bt0, bt1⟩ := hbs
        haveI : In64 (boundS x).1 := ⟨by omega⟩
        haveI : In64 (boundS x).2 := ⟨by omega⟩
        have E := Lib.hid (show (l.take (k + 1)).map boundS = (l.take k).map boundS ++ [boundS x] by rw [List.take_add_one, hx]; simp)
        have hlen : ((l.take k).map boundS).length = k := by rw [List.length_map, List.length_take, HN.out]; omega
        have Hx := Lib.hid hx
        have Hxr := Lib.hid hxr
        clear hcc hx hxb hxr Hc Hb Hr
        generalize (l.take k).map boundS = O at *
        generalize boundS x = y at *
        go_wp2_with (first
          | (go_at_call 92; refine (hbd _).mono ?_; clear hbd; rintro e w' ⟨rfl, y1, rfl⟩)
          | (at_builtin; refine wpList_append_list (cells := rsCells) (k := 2) rsCells_length rs_one (by decide) rfl _ _ 78 rfl w.heap.size 137 i0 (.agg #[.int .i64 0, .int .i64 0]) 16 Tryz.underlying78 Hi.out Hy0.out Hy1.out Hy2.out rfl O _ rfl (owns_up Hown.out (upI : Up wr _)) [y] _ rfl (one_rowR y1.w y _ rfl) (by rw [hlen]; unfold maxLen; simp; omega) (by rw [hlen]; simp; omega) (by have := (upI : Up w y1.w).size; simp; omega) ?_; intro v' w1 hown' hgrow))
        have hup3 : Up w w1 := ((upI : Up w _)).grown hgrow (owns_row Hown.out)
        go_roundw
        case rel => exact ⟨k + 1, by omega, by go_num, Lib.hid (fun j hj z hz => by
          rcases Nat.lt_or_eq_of_le (Nat.le_of_lt_succ hj) with h | h
          · exact Hk.out j h z hz
          · subst h; rw [Hx.out] at hz; cases hz; exact Hxr.out), by rw [E.out]; exact Lib.hid hown', hup3⟩
        case measure => simp [intOf]; omega
    · obtain rfl : k = N := by omega
      exact absurd (badP_all (l := l) (fun j hj => Hk.out j (by rw [HN.out] at hj; exact hj))) (by rw [Hr.out]; simp)
set_option maxHeartbeats 64000000 in
set_option maxRecDepth 100000 in
theorem rofprefixes_yes (l : List (Int × Int)) (v : Value) (w : World) (hv : PfRow w v l) (hb : ∀ p ∈ l, PfB p) (hr : ∀ p ∈ l, rightB p.1 p.2 = true) (hl : l.length ≤ 4096) :
    GivesRE 60 #[v] w (ofL (l.map boundS)) := by
  have Hv := Lib.hid hv
  obtain ⟨p, cap, rfl, hle, hc⟩ := hv
  have Hb := Lib.hid hb
  have Hr := Lib.hid hr
  have Hc := Lib.hid hc
  obtain ⟨N, hN⟩ : ∃ N, l.length = N := ⟨_, rfl⟩
  rw [hN] at hle hl ⊢
  have HN := Lib.hid hN
  obtain ⟨i0, hi, hy0, hy1, hy2⟩ := info_parts infoRSpan
  have Hi := Lib.hid hi; have Hy0 := Lib.hid hy0; have Hy1 := Lib.hid hy1; have Hy2 := Lib.hid hy2
  have hbig : decide ((N : Int) > 4096) = false := by simp; omega
  have hbig' : decide ((4096 : Int) < N) = false := by simp; omega
  clear hi hy0 hy1 hy2 hN hc hb hr
  unfold GivesRE
  go_enter Tryz.func60, Tryz.ntmps60
  go_wp2_with fail
  go_loopw [4, 5] (fun u i wr => ∃ (k : Nat), k ≤ N ∧ i = .int .i64 (k : Int) ∧ Hid (wr.ownsRow w.heap.size 137 2 u ((l.take k).map boundS).length (((l.take k).map boundS).flatMap rsCells)) ∧ Up w wr) (fun _ i _ => N - (intOf i).toNat)
  case atStart => exact ⟨0, Nat.zero_le _, rfl, Lib.hid (World.ownsRow_nil _ _ _ _), Up.refl _⟩
  case round =>
    obtain ⟨k, hk, rfl, Hown, hup⟩ := hrel
    haveI : UpI w wr := ⟨hup⟩
    by_cases hlt : k < N
    · have hlt' : (k : Int) < (N : Int) := by omega
      have k0 : (0 : Int) ≤ (k : Int) := by omega
      obtain ⟨x, hx⟩ : ∃ x, l[k]? = some x := ⟨_, List.getElem?_eq_getElem (by rw [HN.out]; exact hlt)⟩
      obtain ⟨b, o, rfl, hb, hcc⟩ := Hc.out k x hx
      haveI : LtSize b wr := ⟨Nat.lt_of_lt_of_le hb hup.size⟩
      have c0 := hup.cell_some (hcc 0 _ rfl)
      have c1 := hup.cell_some (hcc 1 _ rfl)
      simp only [Nat.add_zero] at c0
      have hxb := Hb.out x (List.mem_of_getElem? hx)
      have hxr := Hr.out x (List.mem_of_getElem? hx)
      have hbd := fun (W : World) => (refBounds_any x.1 x.2 W hxb.n0 hxb.n1 hxb.a0 hxb.a1).cast (v := .tuple #[.int .u32 (boundS x).1, .int .u32 (boundS x).2, .int .i64 0]) (by rw [if_pos hxr]; rfl)
      have hbs := boundS_b hxb hxr
      obtain ⟨bf0, bf1, bt0, bt1⟩ := hbs
      haveI : In64 (boundS x).1 := ⟨by omega⟩
      haveI : In64 (boundS x).2 := ⟨by omega⟩
      have E := Lib.hid (show (l.take (k + 1)).map boundS = (l.take k).map boundS ++ [boundS x] by rw [List.take_add_one, hx]; simp)
      have hlen : ((l.take k).map boundS).length = k := by rw [List.length_map, List.length_take, HN.out]; omega
      have Hx := Lib.hid hx
      have Hxr := Lib.hid hxr
      clear hcc hx hxb hxr Hc Hb Hr
      generalize (l.take k).map boundS = O at *
      generalize boundS x = y at *
      go_wp2_with (first
        | (go_at_call 92; refine (hbd _).mono ?_; clear hbd; rintro e w' ⟨rfl, y1, rfl⟩)
        | (at_builtin; refine wpList_append_list (cells := rsCells) (k := 2) rsCells_length rs_one (by decide) rfl _ _ 78 rfl w.heap.size 137 i0 (.agg #[.int .i64 0, .int .i64 0]) 16 Tryz.underlying78 Hi.out Hy0.out Hy1.out Hy2.out rfl O _ rfl (owns_up Hown.out (upI : Up wr _)) [y] _ rfl (one_rowR y1.w y _ rfl) (by rw [hlen]; unfold maxLen; simp; omega) (by rw [hlen]; simp; omega) (by have := (upI : Up w y1.w).size; simp; omega) ?_; intro v' w1 hown' hgrow))
      have hup3 : Up w w1 := ((upI : Up w _)).grown hgrow (owns_row Hown.out)
      go_roundw
      case rel => exact ⟨k + 1, by omega, by go_num, by rw [E.out]; exact Lib.hid hown', hup3⟩
      case measure => simp [intOf]; omega
    · obtain rfl : k = N := by omega
      have e0 : l.take k = l := List.take_of_length_le (by rw [HN.out]; exact Nat.le_refl _)
      rw [e0] at Hown
      have hof := fun (u : Value) (W : World) (h : RsRow W u (l.map boundS)) => rof_any (l.map boundS) u W h (fun x hx => by
        obtain ⟨p, hp, rfl⟩ := List.mem_map.1 hx
        exact boundS_b (Hb.out p hp) (Hr.out p hp)) (by rw [List.length_map, HN.out]; exact hl)
      have HB := Lib.hid (badS_bounds l)
      have RL := Lib.hid (rs_row Hown.out)
      clear Hown e0 Hc Hb Hr Hv
      go_wp2_with (go_at_call 67; (with_reducible refine Calls.mono (hof _ wr RL.out) ?_); clear hof; rintro e w' ⟨hq, xo, rfl⟩; unfold RofPost at hq; rw [if_neg (by rw [HB.out]; simp)] at hq; obtain ⟨po, co, rfl, Ro⟩ := hq)
      go_ret2
      exact ⟨_, _, rfl, Ro, mkI⟩
end Go.Proofs.YtgfkcbflnkpogaaGreatDoor
namespace Go.Ab
open Go.RowKit
/-- What the law looks at: texts of at most 1000 bytes, few prefixes or too many. -/
structure TxIn (T N : Nat) : Prop where
  t : T ≤ 1000
  n : N ≤ 60 ∨ 4096 < N
  n2 : N ≤ 4200
def IsNil (w : World) (v : Value) : Prop := v = .slice none 0 0
end Go.Ab
namespace Go.Proofs.YtgfkcbflnkpogaaGreatDoor
open Go.RowKit Go.Ab
attribute [local go_sem high] wrapI64 wrapK64
abbrev GivesP (f : FuncId) (args : Array Value) (W : World) (P : World → Value → Prop) (E : Int) : Prop := Calls Tryz.prog f args W fun e w' => ∃ v, e = .returned (.tuple #[v, .int .i64 E]) ∧ Hid (P w' v) ∧ ∃ x : Ext W, w' = x.w
set_option maxHeartbeats 8000000 in
set_option maxRecDepth 100000 in
theorem texts_skip (t : List UInt8) (N : Nat) (h : ¬ TxIn t.length N) (pa : Option Addr) (ca : Nat) (w : World) : Gives Tryz.prog 27 #[.string ⟨t.toArray⟩, .slice pa N ca] w (.bool true) := by
  unfold Gives
  have h' : ¬ (t.length ≤ 1000 ∧ (N ≤ 60 ∨ 4096 < N) ∧ N ≤ 4200) := fun ⟨h1, h2, h3⟩ => h ⟨h1, h2, h3⟩
  clear h
  obtain ⟨T, hT⟩ : ∃ T, t.length = T := ⟨_, rfl⟩
  obtain ⟨b1, hb1⟩ : ∃ b, decide ((1000 : Int) < (t.length : Int)) = b := ⟨_, rfl⟩
  obtain ⟨b2, hb2⟩ : ∃ b, decide ((60 : Int) < N) = b := ⟨_, rfl⟩
  obtain ⟨b3, hb3⟩ : ∃ b, decide ((N : Int) ≤ 4096) = b := ⟨_, rfl⟩
  obtain ⟨b4, hb4⟩ : ∃ b, decide ((4200 : Int) < N) = b := ⟨_, rfl⟩
  have hc : (b1 || b2 && b3 || b4) = true := by
    subst hb1 hb2 hb3 hb4
    simp only [Bool.or_eq_true, Bool.and_eq_true, decide_eq_true_eq]
    omega
  clear h' hT
  go_enter Tryz.func27, Tryz.ntmps27
  cases b1 <;> cases b2 <;> cases b3 <;> cases b4 <;> first | (exfalso; revert hc; decide) | skip
  all_goals
    clear hc
    go_wp2_with fail
    go_ret
    exact ⟨rfl, mkI⟩
set_option maxHeartbeats 32000000 in
set_option maxRecDepth 100000 in
theorem texts_core (t : List UInt8) (l : List (Int × Int)) (v : Value) (w : World) (hv : PfRow w v l) (hin : TxIn t.length l.length) (P1 P2 P3 P4 : World → Value → Prop) (E F : Int)
    (up1 : ∀ {W W' : World} {v : Value}, P1 W v → Up W W' → P1 W' v) (up2 : ∀ {W W' : World} {v : Value}, P2 W v → Up W W' → P2 W' v) (up3 : ∀ {W W' : World} {v : Value}, P3 W v → Up W W' → P3 W' v)
    (h1 : ∀ W : World, UpI w W → GivesP 28 #[.string ⟨t.toArray⟩] W P1 E) (h2 : ∀ W : World, UpI w W → GivesP 59 #[.string ⟨t.toArray⟩] W P2 E)
    (h3 : ∀ (u : Value) (W : World), PfRow W u l → GivesP 29 #[u] W P3 F) (h4 : ∀ (u : Value) (W : World), PfRow W u l → GivesP 60 #[u] W P4 F)
    (e1 : ∀ (a b : Value) (W : World), P1 W a → P2 W b → Gives Tryz.prog 44 #[a, .int .i64 E, b, .int .i64 E] W (.bool true))
    (e2 : ∀ (a b : Value) (W : World), P3 W a → P4 W b → Gives Tryz.prog 44 #[a, .int .i64 F, b, .int .i64 F] W (.bool true)) (up4 : ∀ {W W' : World} {v : Value}, P4 W v → Up W W' → P4 W' v) :
    Gives Tryz.prog 27 #[.string ⟨t.toArray⟩, v] w (.bool true) := by
  obtain ⟨ht, hn, hn2⟩ := hin
  have cl := lentp_any l v w hv (by omega)
  have ck := fun (g cap : Nat) (W : World) (h : PfRow W (.slice (some ⟨g, 0, none⟩) (l.length + 12) cap) (l ++ marksP 12)) (hc : l.length + 12 ≤ cap) (u : UpI w W) => keptp_any l v g cap l.length W rfl (hv.up u.up) h hc (by omega)
  have ho := fun (g cap : Nat) (W : World) (h : PfRow W (.slice (some ⟨g, 0, none⟩) (l.length + 12) cap) (l ++ marksP 12)) (hc : l.length + 12 ≤ cap) => (pfrow_own h : PfRow W (.slice (some ⟨g, 0, none⟩) l.length cap) l)
  have RV := Lib.hid hv
  obtain ⟨p, cap, rfl, hle, _⟩ := hv
  have d1 : decide ((1000 : Int) < (t.length : Int)) = false := decide_eq_false (by omega)
  generalize l.length = N at *
  have d4 : decide ((4200 : Int) < N) = false := decide_eq_false (by omega)
  clear hle
  unfold Gives
  go_enter Tryz.func27, Tryz.ntmps27
  go_upto_region 1 with fail
  go_cut [31] (fun v wx => v = .bool false ∧ wx = w)
  case first =>
    rcases hn with hn | hn
    · have d2 : decide ((60 : Int) < N) = false := decide_eq_false (by omega)
      go_wp2_with fail
      go_meet
      exact ⟨rfl, rfl⟩
    · have d2 : decide ((60 : Int) < N) = true := decide_eq_true (by omega)
      have d3 : decide ((N : Int) ≤ 4096) = false := decide_eq_false (by omega)
      go_wp2_with fail
      go_meet
      exact ⟨rfl, rfl⟩
  case rest =>
    obtain ⟨rfl, rfl⟩ := hcut
    clear d1 d4
    go_wp2_with (first
      | (go_at_call 58; (with_reducible refine Calls.mono cl ?_); clear cl; rintro e w' ⟨g5, c5, rfl, hc5, R5, x5, rfl⟩)
      | (go_at_call 28; (with_reducible refine Calls.mono (h1 _ inferInstance) ?_); clear h1; rintro e w' ⟨v6, rfl, R6, x6, rfl⟩)
      | (go_at_call 59; (with_reducible refine Calls.mono (h2 _ inferInstance) ?_); clear h2; rintro e w' ⟨v7, rfl, R7, x7, rfl⟩)
      | (go_at_call 29; (with_reducible refine Calls.mono (h3 _ x7.w (ho _ _ _ (R5.out.up upI) hc5)) ?_); clear h3; rintro e w' ⟨v8, rfl, R8, x8, rfl⟩)
      | (go_at_call 60; (with_reducible refine Calls.mono (h4 _ x8.w (RV.out.up upI)) ?_); clear h4; rintro e w' ⟨v9, rfl, R9, x9, rfl⟩)
      | (go_at_call 44; (with_reducible refine (e1 _ _ x9.w (up1 R6.out upI) (up2 R7.out upI)).mono ?_); clear e1; rintro e w' ⟨rfl, x10, rfl⟩)
      | (go_at_call 44; (with_reducible refine (e2 _ _ x10.w (up3 R8.out upI) (up4 R9.out upI)).mono ?_); clear e2; rintro e w' ⟨rfl, x11, rfl⟩)
      | (go_at_call 61; (with_reducible refine (ck _ _ x11.w (R5.out.up upI) hc5 inferInstance).mono ?_); clear ck; rintro e w' ⟨rfl, x12, rfl⟩))
    go_ret
    exact ⟨rfl, mkI⟩
theorem read_row (t : List UInt8) (s : List Sp) (h : readS t = some s) (w : World) (g : Good w) (hs : t.length < 4294967281) : GivesL 28 #[.string ⟨t.toArray⟩] w s := by
  by_cases ht : t = []
  · subst ht
    obtain rfl : s = [] := by
      unfold readS at h; rw [if_pos rfl] at h; cases h; rfl
    exact (spread_empty w).mono fun e w' ⟨he, hx⟩ => ⟨none, 0, he, Lib.hid (RowOf.nil _), hx⟩
  · exact (spread_some t ht w g hs).mono fun e w' ⟨h1, h2⟩ => by
      unfold ReadPost at h1
      rw [h] at h1
      obtain ⟨u, he, ho⟩ := h1
      obtain ⟨p, c, rfl⟩ := owns_sliceN ho
      exact ⟨p, c, he, Lib.hid (sp_row ho), h2⟩
theorem read_none (t : List UInt8) (h : readS t = none) (w : World) (g : Good w) (hs : t.length < 4294967281) : Gives Tryz.prog 28 #[.string ⟨t.toArray⟩] w (.tuple #[.slice none 0 0, .int .i64 40]) := by
  have ht : t ≠ [] := by rintro rfl; unfold readS at h; rw [if_pos rfl] at h; cases h
  exact (spread_some t ht w g hs).mono fun e w' ⟨h1, h2⟩ => by
    unfold ReadPost at h1
    rw [h] at h1
    exact ⟨h1, h2⟩
theorem gp_nil {f : FuncId} {args : Array Value} {W : World} {E : Int} (h : Gives Tryz.prog f args W (.tuple #[.slice none 0 0, .int .i64 E])) : GivesP f args W IsNil E := by
  unfold Gives at h
  exact h.mono fun e w' ⟨he, hx⟩ => ⟨_, he, Lib.hid rfl, hx⟩
theorem texts_any (t : List UInt8) (l : List (Int × Int)) (v : Value) (w : World) (g : Good w) (hv : PfRow w v l) (hb : ∀ p ∈ l, PfB p) : Gives Tryz.prog 27 #[.string ⟨t.toArray⟩, v] w (.bool true) := by
  by_cases hin : TxIn t.length l.length
  · have ht := hin.t
    have nilEq := fun (E : Int) (hE : (E != 0) = true) (a b : Value) (W : World) (ha : IsNil W a) (hb : IsNil W b) => (show Gives Tryz.prog 44 #[a, .int .i64 E, b, .int .i64 E] W (.bool true) by
      unfold IsNil at ha hb
      subst ha hb
      exact equals_err (.slice none 0 0) E (.slice none 0 0) W hE 0)
    have upNil : ∀ {W W' : World} {v : Value}, IsNil W v → Up W W' → IsNil W' v := fun h _ => h
    have main : ∀ (P1 P2 : World → Value → Prop) (E : Int), (∀ {W W' : World} {v : Value}, P1 W v → Up W W' → P1 W' v) → (∀ {W W' : World} {v : Value}, P2 W v → Up W W' → P2 W' v) →
        (∀ W : World, UpI w W → GivesP 28 #[.string ⟨t.toArray⟩] W P1 E) → (∀ W : World, UpI w W → GivesP 59 #[.string ⟨t.toArray⟩] W P2 E) →
        (∀ (a b : Value) (W : World), P1 W a → P2 W b → Gives Tryz.prog 44 #[a, .int .i64 E, b, .int .i64 E] W (.bool true)) → Gives Tryz.prog 27 #[.string ⟨t.toArray⟩, v] w (.bool true) := by
      intro P1 P2 E u1 u2 h1 h2 e1
      by_cases hm : 4096 < l.length
      · exact texts_core t l v w hv hin P1 P2 IsNil IsNil E 5 u1 u2 upNil h1 h2 (fun u W h => gp_nil (ofprefixes_many l u W h hm)) (fun u W h => gp_nil (rofprefixes_many l u W h hm)) e1 (nilEq 5 rfl) upNil
      · cases hbd : badP l
        · have hr := badP_no hbd
          have hB : ∀ x ∈ l.map boundS, SpB x := fun x hx => by
            obtain ⟨p, hp, rfl⟩ := List.mem_map.1 hx
            exact boundS_b (hb p hp) (hr p hp)
          have hlen : (ofL (l.map boundS)).length ≤ 1000000 := by
            have h2 := badS_no (badS_bounds l)
            have q1 := others_len (s := l.map boundS) h2
            have q2 := others_len (s := othersL (l.map boundS)) (rF_le (rF_others h2))
            unfold ofL
            rw [List.length_map] at q1
            omega
          have hO : ∀ x ∈ ofL (l.map boundS), SpB x := othersL_b (rF_le (rF_others (badS_no (badS_bounds l))))
          exact texts_core t l v w hv hin P1 P2 (fun W v => SpRow W v (ofL (l.map boundS))) (fun W v => RsRow W v (ofL (l.map boundS))) E 0 u1 u2 (fun h u => RowOf.up h u) h1 h2
            (fun u W h => (ofprefixes_yes l u W h hb hr (by omega)).mono fun e w' ⟨p, c, he, hR, hx⟩ => ⟨_, he, hR, hx⟩) (fun u W h => (rofprefixes_yes l u W h hb hr (by omega)).mono fun e w' ⟨p, c, he, hR, hx⟩ => ⟨_, he, hR, hx⟩) e1
            (fun a b W ha hb2 => equals_yes _ a b W ha hb2 hO hlen) (fun h u => RowOf.up h u)
        · exact texts_core t l v w hv hin P1 P2 IsNil IsNil E 2 u1 u2 upNil h1 h2 (fun u W h => gp_nil (ofprefixes_bad l u W h hb hbd (by omega))) (fun u W h => gp_nil (rofprefixes_bad l u W h hb hbd (by omega))) e1 (nilEq 2 rfl) upNil
    cases hr : readS t with
    | none =>
      exact main IsNil IsNil 40 upNil upNil (fun W u => gp_nil (read_none t hr W (g.up u.up) (by omega))) (fun W u => (rread_any t W (by omega)).mono fun e w' ⟨h, hx⟩ => by
        unfold RReadPost at h
        rw [hr] at h
        exact ⟨_, h, Lib.hid rfl, hx⟩) (nilEq 40 rfl)
    | some s =>
      obtain ⟨_, _, e3, e4⟩ := span_read_some hr
      exact main (fun W v => SpRow W v s) (fun W v => RsRow W v s) 0 (fun h u => RowOf.up h u) (fun h u => RowOf.up h u) (fun W u => (read_row t s hr W (g.up u.up) (by omega)).mono fun e w' ⟨p, c, he, hR, hx⟩ => ⟨_, he, hR, hx⟩) (fun W u => (rread_any t W (by omega)).mono fun e w' ⟨h, hx⟩ => by
        unfold RReadPost at h
        rw [hr] at h
        obtain ⟨p, c, he, hR⟩ := h
        exact ⟨_, he, hR, hx⟩) (fun a b W ha hb2 => equals_yes s a b W ha hb2 e4 (by omega))
  · obtain ⟨p, c, rfl, _⟩ := hv
    exact texts_skip t _ hin p c w
set_option maxHeartbeats 8000000 in
set_option maxRecDepth 100000 in
theorem stexts_any (t : List UInt8) (l : List (Int × Int)) (v : Value) (w : World) (g : Good w) (hv : PfRow w v l) (hb : ∀ p ∈ l, PfB p) : Gives Tryz.prog 8 #[.string ⟨t.toArray⟩, v] w (.bool true) := by
  have c := texts_any t l v w g hv hb
  clear hv hb
  unfold Gives
  go_enter Tryz.func8, Tryz.ntmps8
  go_wp2_with (first
    | (go_at_call 27; refine c.mono ?_; clear c; rintro e w' ⟨rfl, x0, rfl⟩)
    | (go_at_call 11; refine (spawake_any _ (g.up upI)).mono ?_; rintro e w' ⟨rfl, x1, rfl⟩))
  go_ret
  exact ⟨rfl, mkI⟩
end Go.Proofs.YtgfkcbflnkpogaaGreatDoor
