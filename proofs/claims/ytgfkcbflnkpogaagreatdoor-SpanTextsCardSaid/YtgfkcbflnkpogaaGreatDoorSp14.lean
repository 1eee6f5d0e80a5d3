/- The statements' own check of the chapter's examples: awake of layer 4. -/
import Derived.Test.YtgfkcbflnkpogaaGreatDoorSp13
set_option linter.unusedSimpArgs false
set_option linter.unusedVariables false
namespace Go.Proofs.YtgfkcbflnkpogaaGreatDoor
open Go.RowKit Go.Ab
theorem sp_row {w : World} {base : Nat} {v : Value} {L : List Sp} (h : w.ownsRow base 39 2 v L.length (L.flatMap spCells)) : SpRow w v L := RowOf.of_owns (cells := spCells) (k := 2) (t := 39) (fun x => rfl) (base := base) h
theorem spB_of (l : List Sp) (h : l.all (fun x => decide (0 ≤ x.1) && decide (x.1 < 4294967296) && decide (0 ≤ x.2) && decide (x.2 < 4294967296)) = true) : ∀ x ∈ l, SpB x := fun x hx => by
  have := List.all_eq_true.1 h x hx
  simp only [Bool.and_eq_true, decide_eq_true_eq] at this
  exact ⟨this.1.1.1, this.1.1.2, this.1.2, this.2⟩
/-- A set out of the literal of its bounds. -/
theorem spans_lit (l : List Sp) (W : World) (t : TypeId) (hb : ∀ x ∈ l, SpB x) (hl : l.length ≤ 1000) (n : Nat) (hn : n = l.length * 2) :
    Calls Tryz.prog 34 #[.slice (some ⟨W.heap.size, 0, none⟩) n n] (W.alloc (.cells (l.flatMap spCells).toArray t)) fun e w' => ∃ p c, e = .returned (.slice p l.length c) ∧ Hid (SpRow w' (.slice p l.length c) l) ∧ ∃ x : Ext (W.alloc (.cells (l.flatMap spCells).toArray t)), w' = x.w :=
  (spans_any l W.heap.size n n _ hn (Nat.le_refl _) hb (by omega) (fun j u hj => by rw [World.cell?_alloc_at _ _ _ _ rfl]; simpa using hj) (by simp)).mono fun e w' ⟨u, he, ho, hx⟩ => by
    obtain ⟨p, c, rfl⟩ := owns_sliceN ho
    exact ⟨p, c, he, Lib.hid (sp_row ho), hx⟩
/-- What a call that makes a known set gives. -/
theorem GivesS.lit {f : FuncId} {args : Array Value} {w : World} {L : List Sp} (h : GivesS f args w L) : Calls Tryz.prog f args w fun e w' => ∃ p c, e = .returned (.tuple #[.slice p L.length c, .int .i64 0]) ∧ Hid (SpRow w' (.slice p L.length c) L) ∧ ∃ x : Ext w, w' = x.w :=
  Calls.mono h fun e w' ⟨u, he, ho, hx⟩ => by
    obtain ⟨p, c, rfl⟩ := owns_sliceN ho
    exact ⟨p, c, he, Lib.hid (sp_row ho), hx⟩
theorem spof_yes (l : List Sp) (v : Value) (w : World) (hv : SpRow w v l) (hb : ∀ x ∈ l, SpB x) (hl : l.length ≤ 4096) (h : badS l = false) : GivesS 22 #[v] w (ofL l) :=
  (spof_any l v w hv hb hl).mono fun e w' ⟨h1, h2⟩ => by
    rcases h1 with ⟨h3, _⟩ | ⟨_, u, h4, h5⟩
    · rw [h] at h3; cases h3
    · exact ⟨u, h4, h5, h2⟩
theorem same_yes (l : List Sp) (va vb : Value) (w : World) (ra : SpRow w va l) (rb : SpRow w vb l) (hl : l.length ≤ 1000000000) : Gives Tryz.prog 26 #[va, vb] w (.bool true) := (same_any l l va vb w ra rb hl hl).cast (by simp)
theorem spl_A (W : World) : Calls Tryz.prog 34 #[.slice (some ⟨W.heap.size, 0, none⟩) 8 8] (W.alloc (.cells #[.int .u32 5, .int .u32 7, .int .u32 1, .int .u32 2, .int .u32 3, .int .u32 3, .int .u32 7, .int .u32 9] 37)) fun e w' => ∃ p c, e = .returned (.slice p 4 c) ∧ Hid (SpRow w' (.slice p 4 c) [(5, 7), (1, 2), (3, 3), (7, 9)]) ∧ ∃ x : Ext (W.alloc (.cells #[.int .u32 5, .int .u32 7, .int .u32 1, .int .u32 2, .int .u32 3, .int .u32 3, .int .u32 7, .int .u32 9] 37)), w' = x.w := spans_lit [(5, 7), (1, 2), (3, 3), (7, 9)] W 37 (spB_of _ (by decide)) (by decide) 8 rfl
theorem spl_B (W : World) : Calls Tryz.prog 34 #[.slice (some ⟨W.heap.size, 0, none⟩) 2 2] (W.alloc (.cells #[.int .u32 1, .int .u32 3] 37)) fun e w' => ∃ p c, e = .returned (.slice p 1 c) ∧ Hid (SpRow w' (.slice p 1 c) [(1, 3)]) ∧ ∃ x : Ext (W.alloc (.cells #[.int .u32 1, .int .u32 3] 37)), w' = x.w := spans_lit [(1, 3)] W 37 (spB_of _ (by decide)) (by decide) 2 rfl
theorem spl_C (W : World) : Calls Tryz.prog 34 #[.slice (some ⟨W.heap.size, 0, none⟩) 2 2] (W.alloc (.cells #[.int .u32 4, .int .u32 6] 37)) fun e w' => ∃ p c, e = .returned (.slice p 1 c) ∧ Hid (SpRow w' (.slice p 1 c) [(4, 6)]) ∧ ∃ x : Ext (W.alloc (.cells #[.int .u32 4, .int .u32 6] 37)), w' = x.w := spans_lit [(4, 6)] W 37 (spB_of _ (by decide)) (by decide) 2 rfl
theorem spl_D (W : World) : Calls Tryz.prog 34 #[.slice (some ⟨W.heap.size, 0, none⟩) 4 4] (W.alloc (.cells #[.int .u32 1, .int .u32 5, .int .u32 9, .int .u32 9] 37)) fun e w' => ∃ p c, e = .returned (.slice p 2 c) ∧ Hid (SpRow w' (.slice p 2 c) [(1, 5), (9, 9)]) ∧ ∃ x : Ext (W.alloc (.cells #[.int .u32 1, .int .u32 5, .int .u32 9, .int .u32 9] 37)), w' = x.w := spans_lit [(1, 5), (9, 9)] W 37 (spB_of _ (by decide)) (by decide) 4 rfl
theorem spl_E (W : World) : Calls Tryz.prog 34 #[.slice (some ⟨W.heap.size, 0, none⟩) 2 2] (W.alloc (.cells #[.int .u32 4, .int .u32 9] 37)) fun e w' => ∃ p c, e = .returned (.slice p 1 c) ∧ Hid (SpRow w' (.slice p 1 c) [(4, 9)]) ∧ ∃ x : Ext (W.alloc (.cells #[.int .u32 4, .int .u32 9] 37)), w' = x.w := spans_lit [(4, 9)] W 37 (spB_of _ (by decide)) (by decide) 2 rfl
theorem spl_F (W : World) : Calls Tryz.prog 34 #[.slice (some ⟨W.heap.size, 0, none⟩) 2 2] (W.alloc (.cells #[.int .u32 1, .int .u32 6] 37)) fun e w' => ∃ p c, e = .returned (.slice p 1 c) ∧ Hid (SpRow w' (.slice p 1 c) [(1, 6)]) ∧ ∃ x : Ext (W.alloc (.cells #[.int .u32 1, .int .u32 6] 37)), w' = x.w := spans_lit [(1, 6)] W 37 (spB_of _ (by decide)) (by decide) 2 rfl
theorem spl_G (W : World) : Calls Tryz.prog 34 #[.slice (some ⟨W.heap.size, 0, none⟩) 4 4] (W.alloc (.cells #[.int .u32 1, .int .u32 3, .int .u32 7, .int .u32 7] 37)) fun e w' => ∃ p c, e = .returned (.slice p 2 c) ∧ Hid (SpRow w' (.slice p 2 c) [(1, 3), (7, 7)]) ∧ ∃ x : Ext (W.alloc (.cells #[.int .u32 1, .int .u32 3, .int .u32 7, .int .u32 7] 37)), w' = x.w := spans_lit [(1, 3), (7, 7)] W 37 (spB_of _ (by decide)) (by decide) 4 rfl
theorem spl_H (W : World) : Calls Tryz.prog 34 #[.slice (some ⟨W.heap.size, 0, none⟩) 4 4] (W.alloc (.cells #[.int .u32 1, .int .u32 3, .int .u32 5, .int .u32 9] 37)) fun e w' => ∃ p c, e = .returned (.slice p 2 c) ∧ Hid (SpRow w' (.slice p 2 c) [(1, 3), (5, 9)]) ∧ ∃ x : Ext (W.alloc (.cells #[.int .u32 1, .int .u32 3, .int .u32 5, .int .u32 9] 37)), w' = x.w := spans_lit [(1, 3), (5, 9)] W 37 (spB_of _ (by decide)) (by decide) 4 rfl
theorem spl_I (W : World) : Calls Tryz.prog 34 #[.slice (some ⟨W.heap.size, 0, none⟩) 4 4] (W.alloc (.cells #[.int .u32 4, .int .u32 5, .int .u32 9, .int .u32 9] 37)) fun e w' => ∃ p c, e = .returned (.slice p 2 c) ∧ Hid (SpRow w' (.slice p 2 c) [(4, 5), (9, 9)]) ∧ ∃ x : Ext (W.alloc (.cells #[.int .u32 4, .int .u32 5, .int .u32 9, .int .u32 9] 37)), w' = x.w := spans_lit [(4, 5), (9, 9)] W 37 (spB_of _ (by decide)) (by decide) 4 rfl
theorem spl_J (W : World) : Calls Tryz.prog 34 #[.slice (some ⟨W.heap.size, 0, none⟩) 4 4] (W.alloc (.cells #[.int .u32 0, .int .u32 0, .int .u32 4, .int .u32 4294967295] 37)) fun e w' => ∃ p c, e = .returned (.slice p 2 c) ∧ Hid (SpRow w' (.slice p 2 c) [(0, 0), (4, 4294967295)]) ∧ ∃ x : Ext (W.alloc (.cells #[.int .u32 0, .int .u32 0, .int .u32 4, .int .u32 4294967295] 37)), w' = x.w := spans_lit [(0, 0), (4, 4294967295)] W 37 (spB_of _ (by decide)) (by decide) 4 rfl
theorem spl_K (W : World) : Calls Tryz.prog 34 #[.slice (some ⟨W.heap.size, 0, none⟩) 2 2] (W.alloc (.cells #[.int .u32 0, .int .u32 4294967295] 37)) fun e w' => ∃ p c, e = .returned (.slice p 1 c) ∧ Hid (SpRow w' (.slice p 1 c) [(0, 4294967295)]) ∧ ∃ x : Ext (W.alloc (.cells #[.int .u32 0, .int .u32 4294967295] 37)), w' = x.w := spans_lit [(0, 4294967295)] W 37 (spB_of _ (by decide)) (by decide) 2 rfl
theorem aw_of (va : Value) (w : World) (ra : SpRow w va [(5, 7), (1, 2), (3, 3), (7, 9)]) : Calls Tryz.prog 22 #[va] w fun e w' => ∃ p c, e = .returned (.tuple #[.slice p 2 c, .int .i64 0]) ∧ Hid (SpRow w' (.slice p 2 c) [(1, 3), (5, 9)]) ∧ ∃ x : Ext w, w' = x.w := by
  have h := ((show ofL [(5, 7), (1, 2), (3, 3), (7, 9)] = [(1, 3), (5, 9)] by decide +kernel) ▸ spof_yes [(5, 7), (1, 2), (3, 3), (7, 9)] va w ra (spB_of _ (by decide)) (by decide) (by decide)).lit
  exact h
theorem aw_count (va : Value) (w : World) (ra : SpRow w va [(1, 3), (5, 9)]) : Gives Tryz.prog 17 #[va] w (.tuple #[.int .i64 8, .int .i64 0]) := (spcount_yes [(1, 3), (5, 9)] va w ra (spB_of _ (by decide)) (by decide) (by decide)).cast (by rw [show countL [(1, 3), (5, 9)] = 8 by decide])
theorem aw_union (va vb : Value) (w : World) (ra : SpRow w va [(1, 3)]) (rb : SpRow w vb [(4, 6)]) : Calls Tryz.prog 13 #[va, vb] w fun e w' => ∃ p c, e = .returned (.tuple #[.slice p 1 c, .int .i64 0]) ∧ Hid (SpRow w' (.slice p 1 c) [(1, 6)]) ∧ ∃ x : Ext w, w' = x.w := by
  have h := ((show unionL [(1, 3)] [(4, 6)] = [(1, 6)] by decide +kernel) ▸ spunion_yes [(1, 3)] [(4, 6)] va vb w ra rb (by decide) (by decide) (spB_of _ (by decide)) (spB_of _ (by decide)) (by decide) (by decide)).lit
  exact h
theorem aw_common (va vb : Value) (w : World) (ra : SpRow w va [(1, 5), (9, 9)]) (rb : SpRow w vb [(4, 9)]) : Calls Tryz.prog 14 #[va, vb] w fun e w' => ∃ p c, e = .returned (.tuple #[.slice p 2 c, .int .i64 0]) ∧ Hid (SpRow w' (.slice p 2 c) [(4, 5), (9, 9)]) ∧ ∃ x : Ext w, w' = x.w := by
  have h := ((show commonL [(1, 5), (9, 9)] [(4, 9)] = [(4, 5), (9, 9)] by decide +kernel) ▸ spcommon_yes [(1, 5), (9, 9)] [(4, 9)] va vb w ra rb (by decide) (by decide) (spB_of _ (by decide)) (spB_of _ (by decide)) (by decide) (by decide)).lit
  exact h
theorem aw_without (va vb : Value) (w : World) (ra : SpRow w va [(1, 5), (9, 9)]) (rb : SpRow w vb [(4, 9)]) : Calls Tryz.prog 15 #[va, vb] w fun e w' => ∃ p c, e = .returned (.tuple #[.slice p 1 c, .int .i64 0]) ∧ Hid (SpRow w' (.slice p 1 c) [(1, 3)]) ∧ ∃ x : Ext w, w' = x.w := by
  have h := ((show withoutL [(1, 5), (9, 9)] [(4, 9)] = [(1, 3)] by decide +kernel) ▸ spwithout_yes [(1, 5), (9, 9)] [(4, 9)] va vb w ra rb (by decide) (by decide) (spB_of _ (by decide)) (spB_of _ (by decide)) (by decide) (by decide)).lit
  exact h
theorem aw_others (va : Value) (w : World) (ra : SpRow w va [(1, 3)]) : Calls Tryz.prog 16 #[va] w fun e w' => ∃ p c, e = .returned (.tuple #[.slice p 2 c, .int .i64 0]) ∧ Hid (SpRow w' (.slice p 2 c) [(0, 0), (4, 4294967295)]) ∧ ∃ x : Ext w, w' = x.w := by
  have h := ((show othersL [(1, 3)] = [(0, 0), (4, 4294967295)] by decide +kernel) ▸ spothers_yes [(1, 3)] va w ra (by decide) (spB_of _ (by decide)) (by decide)).lit
  exact h
theorem aw_others0  (w : World)  : Calls Tryz.prog 16 #[.slice none 0 0] w fun e w' => ∃ p c, e = .returned (.tuple #[.slice p 1 c, .int .i64 0]) ∧ Hid (SpRow w' (.slice p 1 c) [(0, 4294967295)]) ∧ ∃ x : Ext w, w' = x.w := by
  have h := ((show othersL [] = [(0, 4294967295)] by decide +kernel) ▸ spothers_yes [] (.slice none 0 0) w (RowOf.nil w) (by decide) (spB_of _ (by decide)) (by decide)).lit
  exact h
theorem aw_prefixes (va : Value) (w : World) (ra : SpRow w va [(1, 6)]) : Calls Tryz.prog 20 #[va] w fun e w' => ∃ p c, e = .returned (.tuple #[.slice p 4 c, .int .i64 0]) ∧ ∃ x : Ext w, w' = x.w :=
  (spprefixes_yes [(1, 6)] va w ra (spB_of _ (by decide)) (by decide) (by decide)).mono fun e w' ⟨u, he, ho, hx⟩ => by
    rw [show (prefixesL [(1, 6)]).length = 4 by decide +kernel] at ho
    obtain ⟨p, c, rfl⟩ := owns_sliceN ho
    exact ⟨p, c, he, hx⟩
theorem aw_text (va : Value) (w : World) (g : Good w) (ra : SpRow w va [(1, 3), (7, 7)]) : Gives Tryz.prog 21 #[va] w (.tuple #[.string ⟨#[49, 45, 51, 44, 55]⟩, .int .i64 0]) := (sptext_yes [(1, 3), (7, 7)] va w g ra (spB_of _ (by decide)) (by decide) (by decide)).cast (by rw [show textS [(1, 3), (7, 7)] = [49, 45, 51, 44, 55] by decide +kernel])
theorem aw_read (t : List UInt8) (hne : t ≠ []) (hl : t.length ≤ 100) (h : readS t = none) (w : World) (g : Good w) : Gives Tryz.prog 28 #[.string ⟨t.toArray⟩] w (.tuple #[.slice none 0 0, .int .i64 40]) :=
  (spread_some t hne w g (by omega)).mono fun e w' ⟨h1, h2⟩ => ⟨by unfold ReadPost at h1; rw [h] at h1; exact h1, h2⟩
theorem aw_next4 (va : Value) (w : World) (ra : SpRow w va [(1, 3), (7, 7)]) : Gives Tryz.prog 24 #[va, .int .u32 4] w (.tuple #[.int .u32 7, .bool true]) := (spnext_any [(1, 3), (7, 7)] 4 va w ra (spB_of _ (by decide)) (by decide) (by decide) (by decide)).cast (by rw [show nextL [(1, 3), (7, 7)] 4 = (7, true) by decide])
theorem aw_next8 (va : Value) (w : World) (ra : SpRow w va [(1, 3), (7, 7)]) : Gives Tryz.prog 24 #[va, .int .u32 8] w (.tuple #[.int .u32 0, .bool false]) := (spnext_any [(1, 3), (7, 7)] 8 va w ra (spB_of _ (by decide)) (by decide) (by decide) (by decide)).cast (by rw [show nextL [(1, 3), (7, 7)] 8 = (0, false) by decide])
def badTexts : List (List UInt8) := [[51, 45, 49], [49, 45, 50, 44, 51], [55, 44, 49], [49, 45, 49], [48, 49], [49, 44]]
theorem badTexts_no : ∀ t ∈ badTexts, t ≠ [] ∧ t.length ≤ 100 ∧ readS t = none := by decide +kernel
set_option maxHeartbeats 64000000 in
set_option maxRecDepth 100000 in
theorem spawake_any (w : World) (g : Good w) : Gives Tryz.prog 11 #[] w (.bool true) := by
  unfold Gives
  go_enter Tryz.func11, Tryz.ntmps11
  go_wp2_with (first
    | (go_at_call 34; (with_reducible refine (spl_A _).mono ?_); rintro e w' ⟨pA, cA, rfl, HA, xA, rfl⟩)
    | (go_at_call 34; (with_reducible refine (spl_B _).mono ?_); rintro e w' ⟨pB, cB, rfl, HB, xB, rfl⟩)
    | (go_at_call 34; (with_reducible refine (spl_C _).mono ?_); rintro e w' ⟨pC, cC, rfl, HC, xC, rfl⟩)
    | (go_at_call 34; (with_reducible refine (spl_D _).mono ?_); rintro e w' ⟨pD, cD, rfl, HD, xD, rfl⟩)
    | (go_at_call 34; (with_reducible refine (spl_E _).mono ?_); rintro e w' ⟨pE, cE, rfl, HE, xE, rfl⟩)
    | (go_at_call 34; (with_reducible refine (spl_F _).mono ?_); rintro e w' ⟨pF, cF, rfl, HF, xF, rfl⟩)
    | (go_at_call 34; (with_reducible refine (spl_G _).mono ?_); rintro e w' ⟨pG, cG, rfl, HG, xG, rfl⟩)
    | (go_at_call 34; (with_reducible refine (spl_H _).mono ?_); rintro e w' ⟨pH, cH, rfl, HH, xH, rfl⟩)
    | (go_at_call 34; (with_reducible refine (spl_I _).mono ?_); rintro e w' ⟨pI, cI, rfl, HI, xI, rfl⟩)
    | (go_at_call 34; (with_reducible refine (spl_J _).mono ?_); rintro e w' ⟨pJ, cJ, rfl, HJ, xJ, rfl⟩)
    | (go_at_call 34; (with_reducible refine (spl_K _).mono ?_); rintro e w' ⟨pK, cK, rfl, HK, xK, rfl⟩)
    | (go_at_call 22; (with_reducible refine (aw_of _ xA.w HA.out).mono ?_); rintro e w' ⟨pa, ca, rfl, Ha, ya, rfl⟩)
    | (go_at_call 17; (with_reducible refine (aw_count _ ya.w Ha.out).mono ?_); rintro e w' ⟨rfl, yn, rfl⟩)
    | (go_at_call 13; (with_reducible refine (aw_union _ _ xC.w (HB.out.up upI) HC.out).mono ?_); rintro e w' ⟨pb, cb, rfl, Hb, yb, rfl⟩)
    | (go_at_call 14; (with_reducible refine (aw_common _ _ xE.w (HD.out.up upI) HE.out).mono ?_); rintro e w' ⟨pc, cc, rfl, Hc, yc, rfl⟩)
    | (go_at_call 15; (with_reducible refine (aw_without _ _ xE.w (HD.out.up upI) HE.out).mono ?_); rintro e w' ⟨pd, cd, rfl, Hd, yd, rfl⟩)
    | (go_at_call 16; (with_reducible refine (aw_others _ xB.w HB.out).mono ?_); rintro e w' ⟨pf, cf, rfl, Hf, yf, rfl⟩)
    | (go_at_call 16; (with_reducible refine (aw_others0 _).mono ?_); rintro e w' ⟨pg, cg, rfl, Hgg, yg, rfl⟩)
    | (go_at_call 20; (with_reducible refine (aw_prefixes _ xF.w HF.out).mono ?_); rintro e w' ⟨pp, cp, rfl, yp, rfl⟩)
    | (go_at_call 21; (with_reducible refine (aw_text _ xG.w (g.up upI) HG.out).mono ?_); rintro e w' ⟨rfl, yt, rfl⟩)
    | (go_at_call 26; (with_reducible refine (same_yes [(1, 3), (5, 9)] _ _ xH.w (Ha.out.up upI) HH.out (by decide) ).mono ?_); rintro e w' ⟨rfl, sH, rfl⟩)
    | (go_at_call 26; (with_reducible refine (same_yes [(1, 6)] _ _ xF.w (Hb.out.up upI) HF.out (by decide) ).mono ?_); rintro e w' ⟨rfl, sF, rfl⟩)
    | (go_at_call 26; (with_reducible refine (same_yes [(4, 5), (9, 9)] _ _ xI.w (Hc.out.up upI) HI.out (by decide) ).mono ?_); rintro e w' ⟨rfl, sI, rfl⟩)
    | (go_at_call 26; (with_reducible refine (same_yes [(1, 3)] _ _ xB.w (Hd.out.up upI) HB.out (by decide) ).mono ?_); rintro e w' ⟨rfl, sB, rfl⟩)
    | (go_at_call 26; (with_reducible refine (same_yes [(0, 0), (4, 4294967295)] _ _ xJ.w (Hf.out.up upI) HJ.out (by decide) ).mono ?_); rintro e w' ⟨rfl, sJ, rfl⟩)
    | (go_at_call 26; (with_reducible refine (same_yes [(0, 4294967295)] _ _ xK.w (Hgg.out.up upI) HK.out (by decide) ).mono ?_); rintro e w' ⟨rfl, sK, rfl⟩))
  obtain ⟨B, hB⟩ : ∃ B, sK.w.heap.size = B := ⟨_, rfl⟩
  refine wp_letterS (fun Z => Up w Z ∧ B < Z.heap.size ∧ ∀ (j : Nat) t, badTexts[j]? = some t → Z.cell? ⟨B, j, none⟩ = some (.string ⟨t.toArray⟩)) ?hst ?_
  case hst =>
    subst hB
    refine ⟨upI, by simp, fun j t h => ?_⟩
    rw [World.cell?_alloc_at _ _ _ _ rfl]
    show ((badTexts.map fun t => Value.string ⟨t.toArray⟩).toArray)[j]? = _
    simp [h]
  rw [hB]
  rintro Z ⟨uZ, hBZ, hcs⟩
  haveI : UpI w Z := ⟨uZ⟩
  clear hB HA HB HC HD HE HF HG HH HI HJ HK Ha Hb Hc Hd Hf Hgg
  go_loopw [162] (fun i wr => ∃ k : Nat, k ≤ 6 ∧ i = .int .i64 (k : Int) ∧ Up Z wr) (fun i _ => 6 - (intOf i).toNat)
  case atStart => exact ⟨0, Nat.zero_le _, rfl, Up.refl _⟩
  case round =>
    obtain ⟨k, hk, rfl, hup⟩ := hrel
    haveI : UpI Z wr := ⟨hup⟩
    haveI : UpI w wr := ⟨uZ.trans hup⟩
    by_cases hlt : k < 6
    · have hlt' : (k : Int) < 6 := by omega
      have k0 : (0 : Int) ≤ (k : Int) := by omega
      obtain ⟨t, ht⟩ : ∃ t, badTexts[k]? = some t := ⟨_, List.getElem?_eq_getElem hlt⟩
      have c0 := hup.cell_some (hcs k t ht)
      haveI : LtSize B wr := ⟨Nat.lt_of_lt_of_le hBZ hup.size⟩
      obtain ⟨t1, t2, t3⟩ := badTexts_no t (List.mem_of_getElem? ht)
      have HR := Lib.hid (fun W (u : UpI w W) => aw_read t t1 t2 t3 W (g.up u.up))
      clear ht t1 t2 t3 hcs
      go_wp2_with (go_at_call 28; refine (HR.out _ inferInstance).mono ?_; clear HR; rintro e w' ⟨rfl, y, rfl⟩)
      go_roundw
      case rel => exact ⟨k + 1, by omega, by go_num, upI⟩
      case measure => simp [intOf]; omega
    · obtain rfl : k = 6 := by omega
      go_wp2_with (first
        | (go_at_call 34; (with_reducible refine (spl_G _).mono ?_); rintro e w' ⟨pG, cG, rfl, HG, xG, rfl⟩)
        | (go_at_call 24; (with_reducible refine (aw_next4 _ xG.w HG.out).mono ?_); rintro e w' ⟨rfl, yn4, rfl⟩)
        | (go_at_call 24; (with_reducible refine (aw_next8 _ xG.w HG.out).mono ?_); rintro e w' ⟨rfl, yn8, rfl⟩))
      go_ret
      exact ⟨rfl, mkI⟩
end Go.Proofs.YtgfkcbflnkpogaaGreatDoor
