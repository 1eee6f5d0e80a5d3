/- The law's lent and equals; two sets compared with the reference. -/
import Derived.Test.YtgfkcbflnkpogaaGreatDoorSr1
import Derived.Test.YtgfkcbflnkpogaaGreatDoorRowPut2
import Derived.Deep.CutBlock
import Derived.Deep.DeepCutAuto
set_option linter.unusedSimpArgs false
set_option linter.unusedVariables false
namespace Go.Ab
open Go.RowKit
/-- A row of the call's own whose contents do not matter: it may be written. -/
def WrRow (base : Nat) (t : TypeId) (W : World) (v : Value) (n : Nat) : Prop :=
  (v = .slice none 0 0 ∧ n = 0) ∨ ∃ g cap cur, v = .slice (some ⟨g, 0, none⟩) n cap ∧ base ≤ g ∧ W.heap[g]? = some (.cells cur t (0, 0)) ∧ n * 2 ≤ cur.size
theorem WrRow.of_owns {base b : Nat} {t : TypeId} {W : World} {v : Value} {n : Nat} {xs : List Value} (h : W.ownsRow b t 2 v n xs) (hb : base ≤ b) : WrRow base t W v n := by
  rcases h.2 with ⟨h1, h2⟩ | ⟨g, cap, cur, hv, hg, hh, hc, _, hs, ht⟩
  · exact .inl ⟨h1, h2⟩
  · refine .inr ⟨g, cap, cur, hv, Nat.le_trans hb hg, hh, ?_⟩
    have := congrArg List.length ht
    rw [List.length_take, h.1] at this
    simp at this
    omega
theorem WrRow.up {base : Nat} {t : TypeId} {W W' : World} {v : Value} {n : Nat} (h : WrRow base t W v n) (u : Up W W') : WrRow base t W' v n := by
  rcases h with h | ⟨g, cap, cur, hv, hg, hh, hs⟩
  · exact .inl h
  · exact .inr ⟨g, cap, cur, hv, hg, (u.block g (Array.getElem?_eq_some_iff.1 hh).1).trans hh, hs⟩
theorem WrRow.set {base : Nat} {t : TypeId} {W : World} {v : Value} {n : Nat} (h : WrRow base t W v n) (g j : Nat) (u : Value) : WrRow base t (W.setCell ⟨g, j, none⟩ u) v n := by
  rcases h with h | ⟨g', cap, cur, hv, hg, hh, hs⟩
  · exact .inl h
  · by_cases he : g' = g
    · subst he
      exact .inr ⟨g', cap, cur.setIfInBounds j u, hv, hg, heap_setCell_same W g' j cur t u hh, by simpa using hs⟩
    · exact .inr ⟨g', cap, cur, hv, hg, (heap_setCell_other W ⟨g, j, none⟩ g' u (fun e => he e)).trans hh, hs⟩
theorem up_set {w W : World} (h : Up w W) {g j : Nat} (hg : w.heap.size ≤ g) (u : Value) : Up w (W.setCell ⟨g, j, none⟩ u) where
  os := h.os
  tape := h.tape
  output := h.output
  size := by simpa using h.size
  block := fun k hk => (heap_setCell_other W ⟨g, j, none⟩ k u (fun e => by simp at e; omega)).trans (h.block k hk)
end Go.Ab
namespace Go.Proofs.YtgfkcbflnkpogaaGreatDoor
open Go.RowKit Go.Ab
attribute [local go_sem high] wrapI64 wrapK64
set_option maxHeartbeats 8000000 in
set_option maxRecDepth 100000 in
theorem slent_any (l : List Sp) (v : Value) (w : World) (hv : SpRow w v l) (hl : l.length ≤ 1000000) :
    Calls Tryz.prog 41 #[v] w fun e w' => ∃ p c, e = .returned (.slice p l.length c) ∧ Hid (SpRow w' (.slice p l.length c) l) ∧ ∃ x : Ext w, w' = x.w := by
  obtain ⟨i0, hi, hy0, hy1, hy2⟩ := info_parts infoSpan
  obtain ⟨N, hN⟩ : ∃ N, l.length = N := ⟨_, rfl⟩
  have HR := Lib.hid hv
  obtain ⟨p, cap, rfl⟩ := sp_len hv
  rw [hN] at HR hl ⊢
  obtain ⟨mc, hms, hmk⟩ : ∃ mc : Array Value, mc.size = (N + 3) * 2 ∧ ∀ W : World, (Instr.makeSlice 25 (.int .i64 0) (.int .i64 ((N : Int) + 3))).run Tryz.prog W = .ok (.slice (some ⟨W.heap.size, 0, none⟩) 0 (N + 3)) (W.alloc (.cells mc 39)) := by
    refine ⟨madeCells (Value.agg #[.int .u32 0, .int .u32 0]).cells ((N + 3) * 2), size_madeCells _ _, fun W => ?_⟩
    have := run_makeSlice (P := Tryz.prog) (w := W) 25 39 i0 _ Tryz.underlying25 hi hy0 .i64 .i64 0 ((N : Int) + 3) (Int.le_refl _) (by omega) (by rw [hy1]; omega) (by rw [hy2]; omega) (by omega)
    rw [show ((N : Int) + 3).toNat = N + 3 by omega, hy1] at this
    exact this
  have Hi := Lib.hid hi; have Hy0 := Lib.hid hy0; have Hy1 := Lib.hid hy1; have Hy2 := Lib.hid hy2
  have Hms := Lib.hid hms
  have HN := Lib.hid hN
  haveI : In64 ((N : Int) + 3) := ⟨by omega⟩
  clear hi hy0 hy1 hy2 hN hms hv
  go_enter Tryz.func41, Tryz.ntmps41
  go_wp2_with (at_builtin; refine wpList_append_list2 (cells := spCells) (k := 2) spCells_length sp_oneB (by decide) rfl _ _ 25 24 39 rfl Tryz.underlying24 w.heap.size 39 i0 (.agg #[.int .u32 0, .int .u32 0]) 8 Tryz.underlying25 Hi.out Hy0.out Hy1.out Hy2.out rfl [] _ rfl (World.ownsRow_made w mc (N + 3) (Nat.le_refl _) (by unfold maxLen; omega) Hms.out) l _ rfl (HR.out.up upI) (by rw [HN.out]; unfold maxLen; simp; omega) (by rw [HN.out]; simp; omega) (upI : Up w _).size ?_; intro v1 w1 hown1 hgrow1)
  have hup1 : Up w w1 := (upI : Up w _).grown hgrow1 (fun k hk => owns_row (World.ownsRow_made (e := 39) (size := 2) w mc (N + 3) (Nat.le_refl _) (by unfold maxLen; omega) Hms.out) k hk)
  rw [List.nil_append] at hown1
  have R1 := Lib.hid (sp_row hown1)
  obtain ⟨p1, c1, hv1⟩ := owns_sliceN hown1
  rw [HN.out] at hv1
  subst hv1
  (try rw [HN.out] at R1)
  go_ret
  exact ⟨_, _, rfl, R1, hup1.mk⟩
set_option maxHeartbeats 8000000 in
set_option maxRecDepth 100000 in
theorem equals_err (v : Value) (e : Int) (u : Value) (w : World) (hz : (e != 0) = true) (c : Nat) : Gives Tryz.prog 44 #[.slice none 0 c, .int .i64 e, u, .int .i64 e] w (.bool true) := by
  have he : (e == e) = true := by simp
  have hne : (e != e) = false := by simp
  unfold Gives
  go_enter Tryz.func44, Tryz.ntmps44
  go_wp2_with fail
  go_ret
  exact ⟨rfl, mkI⟩
theorem eq_rspan (w : World) (p M q N : Int) : (Op.equalIn 10000 137 (.agg #[.int .i64 p, .int .i64 M]) (.agg #[.int .i64 q, .int .i64 N])).run Tryz.prog w = .ok (p == q && M == N) w := by
  cases h : (p == q) <;> cases h2 : (M == N) <;> simp_all [go_sem]
attribute [local go_sem high] eq_rspan
set_option maxHeartbeats 8000000 in
set_option maxRecDepth 100000 in
theorem equals_yes (a : List Sp) (va vb : Value) (w : World) (ra : SpRow w va a) (rb : RsRow w vb a) (ba : ∀ x ∈ a, SpB x) (la : a.length ≤ 1000000) : Gives Tryz.prog 44 #[va, .int .i64 0, vb, .int .i64 0] w (.bool true) := by
  have ht := turned_any a va w ra ba la
  have Hcb := Lib.hid (fun k x (h : a[k]? = some x) (p : Option Addr) (n cap : Nat) (e : vb = .slice p n cap) => rs_at rb e h)
  obtain ⟨pa, capa, rfl⟩ := sp_len ra
  obtain ⟨q, cbp, rfl, hlb, _⟩ := rb
  obtain ⟨N, hN⟩ : ∃ N, a.length = N := ⟨_, rfl⟩
  unfold GivesR at ht
  rw [hN] at hlb la Hcb ht ⊢
  have HN := Lib.hid hN
  clear hN ra ba
  unfold Gives
  go_enter Tryz.func44, Tryz.ntmps44
  go_wp2_with (go_at_call 42; refine Calls.mono ht ?_; clear ht; rintro e w' ⟨p1, c1, rfl, R1, x1, rfl⟩)
  have Hc1 := Lib.hid (fun k x (h : a[k]? = some x) => rs_at R1.out rfl h)
  go_loopw [35] (fun i wr => ∃ k : Nat, k ≤ N ∧ i = .int .i64 (k : Int) ∧ ∃ x : Ext x1.w, wr = x.w) (fun i _ => N - (intOf i).toNat)
  case atStart => exact ⟨0, Nat.zero_le _, rfl, mkI⟩
  case round =>
    obtain ⟨k, hk, rfl, x0, rfl⟩ := hrel
    by_cases hlt : k < N
    · have hlt' : (k : Int) < (N : Int) := by omega
      have k0 : (0 : Int) ≤ (k : Int) := by omega
      obtain ⟨x, hx⟩ : ∃ x, a[k]? = some x := ⟨_, List.getElem?_eq_getElem (by rw [HN.out]; exact hlt)⟩
      obtain ⟨b1, o1, rfl, hb1, c0, c1'⟩ := Hc1.out k x hx
      obtain ⟨b2, o2, rfl, hb2, d0, d1⟩ := Hcb.out k x hx _ _ _ rfl
      haveI : LtSize b1 x1.w := ⟨hb1⟩
      haveI : LtSize b2 w := ⟨hb2⟩
      haveI : LtSize b2 x1.w := ⟨Nat.lt_of_lt_of_le hb2 x1.up.size⟩
      have d0' := x1.up.cell_some d0
      have d1' := x1.up.cell_some d1
      have hb : (x.1 == x.1 && x.2 == x.2) = true := by simp
      clear hx Hc1 Hcb
      go_wp2_with fail
      (refine wp_region_ext (by kernel_rfl) (by kernel_rfl) ?_; (repeat (go_big_quiet_step (fail))); refine wpQuiet_nil ?_; rintro _ ⟨y1, rfl⟩)
      go_wp2_with fail
      go_roundw
      case rel => exact ⟨k + 1, by omega, by go_num, mkI⟩
      case measure => simp [intOf]; omega
    · obtain rfl : k = N := by omega
      go_wp2_with fail
      go_ret
      exact ⟨rfl, mkI⟩
/-- What holds of two sets' lengths, if the law looks at them. -/
structure TwoIn (N M : Nat) : Prop where
  n : N ≤ 60 ∨ 4096 < N
  m : M ≤ 60 ∨ 4096 < M
  n2 : N ≤ 4200
  m2 : M ≤ 4200
set_option maxHeartbeats 8000000 in
set_option maxRecDepth 100000 in
theorem two_skip (N M : Nat) (h : ¬ TwoIn N M) (pa pb : Option Addr) (ca cb : Nat) (w : World) : Gives Tryz.prog 18 #[.slice pa N ca, .slice pb M cb] w (.bool true) := by
  unfold Gives
  have h' : 60 < N ∧ N ≤ 4096 ∨ ¬ (60 < N ∧ N ≤ 4096) ∧ (60 < M ∧ M ≤ 4096) ∨ ¬ (60 < N ∧ N ≤ 4096) ∧ ¬ (60 < M ∧ M ≤ 4096) ∧ 4200 < N ∨ ¬ (60 < N ∧ N ≤ 4096) ∧ ¬ (60 < M ∧ M ≤ 4096) ∧ ¬ 4200 < N ∧ 4200 < M := by
    by_cases h1 : 60 < N ∧ N ≤ 4096
    · exact .inl h1
    · by_cases h2 : 60 < M ∧ M ≤ 4096
      · exact .inr (.inl ⟨h1, h2⟩)
      · by_cases h3 : 4200 < N
        · exact .inr (.inr (.inl ⟨h1, h2, h3⟩))
        · by_cases h4 : 4200 < M
          · exact .inr (.inr (.inr ⟨h1, h2, h3, h4⟩))
          · exact absurd ⟨by omega, by omega, by omega, by omega⟩ h
  clear h
  obtain ⟨b1, hb1⟩ : ∃ b, decide ((60 : Int) < N) = b := ⟨_, rfl⟩
  obtain ⟨b2, hb2⟩ : ∃ b, decide ((N : Int) ≤ 4096) = b := ⟨_, rfl⟩
  obtain ⟨b3, hb3⟩ : ∃ b, decide ((60 : Int) < M) = b := ⟨_, rfl⟩
  obtain ⟨b4, hb4⟩ : ∃ b, decide ((M : Int) ≤ 4096) = b := ⟨_, rfl⟩
  obtain ⟨b5, hb5⟩ : ∃ b, decide ((4200 : Int) < N) = b := ⟨_, rfl⟩
  obtain ⟨b6, hb6⟩ : ∃ b, decide ((4200 : Int) < M) = b := ⟨_, rfl⟩
  have hc : (b1 && b2 || b3 && b4 || b5 || b6) = true := by
    subst hb1 hb2 hb3 hb4 hb5 hb6
    simp only [Bool.or_eq_true, Bool.and_eq_true, decide_eq_true_eq]
    omega
  clear h'
  go_enter Tryz.func18, Tryz.ntmps18
  cases b1 <;> cases b2 <;> cases b3 <;> cases b4 <;> cases b5 <;> cases b6 <;> first | (exfalso; revert hc; decide) | skip
  all_goals
    clear hc
    go_wp2_with fail
    go_ret
    exact ⟨rfl, mkI⟩
abbrev GivesO (f : FuncId) (args : Array Value) (W : World) (L : List Sp) : Prop := Calls Tryz.prog f args W fun e w' => ∃ p c, e = .returned (.tuple #[.slice p L.length c, .int .i64 0]) ∧ Hid (w'.ownsRow W.heap.size 39 2 (.slice p L.length c) L.length (L.flatMap spCells)) ∧ ∃ x : Ext W, w' = x.w
theorem givesO {f : FuncId} {args : Array Value} {W : World} {L : List Sp} (h : GivesS f args W L) : GivesO f args W L := by
  unfold GivesS at h
  exact h.mono fun e w' ⟨u, he, ho, hx⟩ => by
    obtain ⟨p, c, rfl⟩ := owns_sliceN ho
    exact ⟨p, c, he, Lib.hid ho, hx⟩
theorem wrongLs_zero {a b : List Sp} (h : wrongLs [a, b] = 0) : a.length ≤ 4096 ∧ b.length ≤ 4096 ∧ rightS a = true ∧ rightS b = true := by
  rw [wrongLs_two] at h
  split at h
  · cases h
  · split at h
    · rename_i h1 h2
      exact ⟨by omega, by omega, h2.1, h2.2⟩
    · cases h
set_option maxHeartbeats 64000000 in
set_option maxRecDepth 100000 in
theorem two_no (a b : List Sp) (va vb : Value) (w : World) (ra : SpRow w va a) (rb : SpRow w vb b) (ba : ∀ x ∈ a, SpB x) (bb : ∀ x ∈ b, SpB x) (hin : TwoIn a.length b.length) (e : Int) (he : wrongLs [a, b] = e) (hz : (e != 0) = true) :
    Gives Tryz.prog 18 #[va, vb] w (.bool true) := by
  obtain ⟨hn, hm, hn2, hm2⟩ := hin
  have cl1 := slent_any a va w ra (by omega)
  have cl2 := fun (W : World) (u : UpI w W) => slent_any b vb W (rb.up u.up) (by omega)
  have ct1 := fun (W : World) (u : UpI w W) => turned_any a va W (ra.up u.up) ba (by omega)
  have ct2 := fun (W : World) (u : UpI w W) => turned_any b vb W (rb.up u.up) bb (by omega)
  have cw := fun (v u : Value) (W : World) (h : RsRow W v a) (k : RsRow W u b) => (rwrong_any a b v u W h k ba bb (by omega) (by omega)).cast (v := .int .i64 e) (by rw [he])
  have cu := fun (v u : Value) (W : World) (h : SpRow W v a) (k : SpRow W u b) => spunion_no a b v u W h k ba bb (by omega) (by omega) e he hz
  have cc := fun (v u : Value) (W : World) (h : SpRow W v a) (k : SpRow W u b) => spcommon_no a b v u W h k ba bb (by omega) (by omega) e he hz
  have co := fun (v u : Value) (W : World) (h : SpRow W v a) (k : SpRow W u b) => spwithout_no a b v u W h k ba bb (by omega) (by omega) e he hz
  have ci := fun (v u : Value) (W : World) (h : SpRow W v a) (k : SpRow W u b) => spwithin_no a b v u W h k ba bb (by omega) (by omega) e he hz
  have cq := fun (W : World) => equals_err (.slice none 0 0) e (.slice none 0 0) W hz 0
  have cs1 := fun (v u : Value) (W : World) (h : SpRow W v a) (k : SpRow W u a) => same_yes a v u W h k (by omega)
  have cs2 := fun (v u : Value) (W : World) (h : SpRow W v b) (k : SpRow W u b) => same_yes b v u W h k (by omega)
  have hee : (e == e) = true := by simp
  have RA := Lib.hid ra; have RB := Lib.hid rb
  obtain ⟨pa, capa, hva⟩ := sp_len ra
  obtain ⟨pb, capb, hvb⟩ := sp_len rb
  subst hva hvb
  unfold GivesR at ct1 ct2
  generalize a.length = N at *
  generalize b.length = M at *
  clear ra rb ba bb he
  unfold Gives
  go_enter Tryz.func18, Tryz.ntmps18
  have d5 : decide ((4200 : Int) < N) = false := decide_eq_false (by omega)
  have d6 : decide ((4200 : Int) < M) = false := decide_eq_false (by omega)
  go_upto_region 1 with fail
  go_cut [48] (fun v wx => v = .bool false ∧ wx = w)
  case first =>
    rcases hn with hn | hn <;> rcases hm with hm | hm
    · have d1 : decide ((60 : Int) < N) = false := decide_eq_false (by omega)
      have d3 : decide ((60 : Int) < M) = false := decide_eq_false (by omega)
      go_wp2_with fail
      go_meet
      exact ⟨rfl, rfl⟩
    · have d1 : decide ((60 : Int) < N) = false := decide_eq_false (by omega)
      have d3 : decide ((60 : Int) < M) = true := decide_eq_true (by omega)
      have d4 : decide ((M : Int) ≤ 4096) = false := decide_eq_false (by omega)
      go_wp2_with fail
      go_meet
      exact ⟨rfl, rfl⟩
    · have d1 : decide ((60 : Int) < N) = true := decide_eq_true (by omega)
      have d2 : decide ((N : Int) ≤ 4096) = false := decide_eq_false (by omega)
      have d3 : decide ((60 : Int) < M) = false := decide_eq_false (by omega)
      go_wp2_with fail
      go_meet
      exact ⟨rfl, rfl⟩
    · have d1 : decide ((60 : Int) < N) = true := decide_eq_true (by omega)
      have d2 : decide ((N : Int) ≤ 4096) = false := decide_eq_false (by omega)
      have d3 : decide ((60 : Int) < M) = true := decide_eq_true (by omega)
      have d4 : decide ((M : Int) ≤ 4096) = false := decide_eq_false (by omega)
      go_wp2_with fail
      go_meet
      exact ⟨rfl, rfl⟩
  case rest =>
    obtain ⟨rfl, rfl⟩ := hcut
    clear hn hm d5 d6
    go_wp2_with (first
      | (go_at_call 41; (with_reducible refine Calls.mono cl1 ?_); clear cl1; rintro e w' ⟨p1, c1, rfl, R1, x1, rfl⟩)
      | (go_at_call 41; (with_reducible refine Calls.mono (cl2 _ inferInstance) ?_); clear cl2; rintro e w' ⟨p2, c2, rfl, R2, x2, rfl⟩)
      | (go_at_call 42; (with_reducible refine Calls.mono (ct1 _ inferInstance) ?_); clear ct1; rintro e w' ⟨p3, c3, rfl, R3, x3, rfl⟩)
      | (go_at_call 42; (with_reducible refine Calls.mono (ct2 _ inferInstance) ?_); clear ct2; rintro e w' ⟨p4, c4, rfl, R4, x4, rfl⟩)
      | (go_at_call 13; (with_reducible refine (cu _ _ x4.w (R1.out.up upI) (R2.out.up upI)).mono ?_); clear cu; rintro e w' ⟨rfl, x5, rfl⟩)
      | (go_at_call 14; (with_reducible refine (cc _ _ x5.w (R1.out.up upI) (R2.out.up upI)).mono ?_); clear cc; rintro e w' ⟨rfl, x6, rfl⟩)
      | (go_at_call 15; (with_reducible refine (co _ _ x6.w (R1.out.up upI) (R2.out.up upI)).mono ?_); clear co; rintro e w' ⟨rfl, x7, rfl⟩)
      | (go_at_call 19; (with_reducible refine (ci _ _ x7.w (R1.out.up upI) (R2.out.up upI)).mono ?_); clear ci; rintro e w' ⟨rfl, x8, rfl⟩)
      | (go_at_call 43; (with_reducible refine (cw _ _ x8.w (R3.out.up upI) (R4.out.up upI)).mono ?_); clear cw; rintro e w' ⟨rfl, x9, rfl⟩)
      | (go_at_call 44; (with_reducible refine (cq _).mono ?_); rintro e w' ⟨rfl, x10, rfl⟩)
      | (go_at_call 26; (with_reducible refine (cs1 _ _ x10.w (R1.out.up upI) (RA.out.up upI)).mono ?_); clear cs1; rintro e w' ⟨rfl, x11, rfl⟩)
      | (go_at_call 26; (with_reducible refine (cs2 _ _ x11.w (R2.out.up upI) (RB.out.up upI)).mono ?_); clear cs2; rintro e w' ⟨rfl, x12, rfl⟩))
    go_ret
    exact ⟨rfl, mkI⟩
end Go.Proofs.YtgfkcbflnkpogaaGreatDoor
