/- SpanCounts, walked. SpanNext, walked. append of a slice that reads as a list (nil or not) onto a row of the call's own. OfPrefixes. -/
import Derived.Test.YtgfkcbflnkpogaaGreatDoorSp15
set_option linter.unusedSimpArgs false
set_option linter.unusedVariables false
namespace Go.Ab
open Go.RowKit
theorem lessL_far : ∀ {l : List Sp} {lo : Int} {x : Sp}, rF lo l = true → x.2 < lo → lessL x l = l
  | [], _, _, _, _ => rfl
  | y :: l, lo, x, hr, hx => by
    obtain ⟨h1, h2, h3⟩ := rF_cons.1 hr
    rw [lessL, if_pos (.inr (by omega)), lessL_far h3 (by omega)]
    rfl
theorem lessL_len (x : Sp) (hx : x.1 ≤ x.2) : ∀ {l : List Sp} {lo : Int}, rF lo l = true → (lessL x l).length ≤ l.length + 1
  | [], _, _ => by simp [lessL]
  | y :: l, lo, hr => by
    obtain ⟨h1, h2, h3⟩ := rF_cons.1 hr
    have ih := lessL_len x hx h3
    rw [lessL, List.length_append, List.length_cons]
    by_cases c1 : y.2 < x.1 ∨ x.2 < y.1
    · rw [if_pos c1]; simp; omega
    · rw [if_neg c1]
      by_cases c3 : x.2 < y.2
      · rw [lessL_far h3 (by omega), if_pos c3]
        split <;> simp <;> omega
      · rw [if_neg c3]
        split <;> simp <;> omega
theorem without_len : ∀ (b a : List Sp), rF 0 a = true → (∀ x ∈ b, x.1 ≤ x.2) → (withoutL a b).length ≤ a.length + b.length
  | [], a, _, _ => by simp [withoutL]
  | x :: b, a, ha, hb => by
    have h1 := lessL_len x (hb x (by simp)) ha
    have h2 := without_len b (lessL x a) (rF_less x (hb x (by simp)) ha) (fun y hy => hb y (by simp [hy]))
    unfold withoutL at h2 ⊢
    rw [List.foldl_cons, List.length_cons]
    omega
theorem others_len {s : List Sp} (h : ∀ x ∈ s, x.1 ≤ x.2) : (othersL s).length ≤ s.length + 1 := by
  have := without_len s allS (by decide) h
  simp only [allS, List.length_cons, List.length_nil] at this
  unfold othersL allS
  omega
theorem union_len {a b : List Sp} (ha : rightS a = true) (hb : rightS b = true) : (unionL a b).length ≤ a.length + b.length + 2 := by
  have h1 := others_len (app_all (rF_le ha) (rF_le hb))
  have h2 := others_len (rF_le (rF_others (app_all (rF_le ha) (rF_le hb))))
  unfold unionL ofL
  rw [List.length_append] at h1
  omega
theorem common_len {a b : List Sp} (ha : rightS a = true) (hb : rightS b = true) : (commonL a b).length ≤ a.length + b.length + 1 := by
  have h1 := others_len (rF_le hb)
  have h2 := without_len (othersL b) a ha (rF_le (rF_others (rF_le hb)))
  unfold commonL
  omega
/-- What is said of a right set of known length. -/
structure RS (n : Nat) (s : List Sp) : Prop where
  r : rightS s = true
  b : ∀ x ∈ s, SpB x
  l : s.length ≤ n
theorem RS.made {l : List SPc} (hb : ∀ x ∈ l, SPcB x) : RS 40 (madeS l) := by
  obtain ⟨h1, h2, h3⟩ := madeS_ok l hb
  exact ⟨h1, h2, h3⟩
theorem RS.union {n m : Nat} {a b : List Sp} (ha : RS n a) (hb : RS m b) : RS (n + m + 2) (unionL a b) :=
  ⟨rF_union ha.r hb.r, bd_of_chosen (chosen_union ha.r hb.r ha.b hb.b), by have := union_len ha.r hb.r; have := ha.l; have := hb.l; omega⟩
theorem RS.common {n m : Nat} {a b : List Sp} (ha : RS n a) (hb : RS m b) : RS (n + m + 1) (commonL a b) :=
  ⟨rF_common ha.r hb.r, bd_of_chosen (chosen_common ha.r hb.r ha.b), by have := common_len ha.r hb.r; have := ha.l; have := hb.l; omega⟩
theorem RS.without {n m : Nat} {a b : List Sp} (ha : RS n a) (hb : RS m b) : RS (n + m) (withoutL a b) :=
  ⟨rF_without _ _ ha.r (rF_le hb.r), bd_of_chosen (chosen_without ha.r hb.r ha.b), by have := without_len b a ha.r (rF_le hb.r); have := ha.l; have := hb.l; omega⟩
theorem RS.others {n : Nat} {a : List Sp} (ha : RS n a) : RS (n + 1) (othersL a) :=
  ⟨rF_others (rF_le ha.r), bd_of_chosen (chosen_others (b := []) ha.r), by have := others_len (rF_le ha.r); have := ha.l; omega⟩
theorem RS.mono {n m : Nat} {s : List Sp} (h : RS n s) (k : n ≤ m) : RS m s := ⟨h.r, h.b, Nat.le_trans h.l k⟩
theorem countL_nonneg {n : Nat} {s : List Sp} (h : RS n s) (hn : n ≤ 4096) : 0 ≤ countL s ∧ countL s ≤ 17592186044416 := by
  have := countL_bd s h.b (rF_le h.r) s.length
  rw [List.take_of_length_le (Nat.le_refl _)] at this
  have := h.l
  omega
end Go.Ab
namespace Go.Proofs.YtgfkcbflnkpogaaGreatDoor
open Go.RowKit Go.Ab
attribute [local go_sem high] wrapI64 wrapK64
abbrev GivesL (f : FuncId) (args : Array Value) (w : World) (L : List Sp) : Prop := Calls Tryz.prog f args w fun e w' => ∃ p c, e = .returned (.tuple #[.slice p L.length c, .int .i64 0]) ∧ Hid (SpRow w' (.slice p L.length c) L) ∧ ∃ x : Ext w, w' = x.w
/-- What Made gives, as a row. -/
theorem made_row (l : List SPc) (v : Value) (w : World) (hv : PcRow w v l) (hb : ∀ x ∈ l, SPcB x) (hl : l.length ≤ 9223372036854775807) :
    Calls Tryz.prog 12 #[v] w fun e w' => ∃ p c, e = .returned (.slice p (madeS l).length c) ∧ Hid (SpRow w' (.slice p (madeS l).length c) (madeS l)) ∧ ∃ x : Ext w, w' = x.w :=
  (made_any l v w hv hb hl).mono fun e w' ⟨u, he, ho, hx⟩ => by
    obtain ⟨p, c, rfl⟩ := owns_sliceN ho
    exact ⟨p, c, he, Lib.hid (sp_row ho), hx⟩
theorem union_row {n m : Nat} (a b : List Sp) (va vb : Value) (w : World) (ra : SpRow w va a) (rb : SpRow w vb b) (ha : RS n a) (hb : RS m b) (hn : n ≤ 4096) (hm : m ≤ 4096) : GivesL 13 #[va, vb] w (unionL a b) := (spunion_yes a b va vb w ra rb ha.r hb.r ha.b hb.b (Nat.le_trans ha.l hn) (Nat.le_trans hb.l hm)).lit
theorem common_row {n m : Nat} (a b : List Sp) (va vb : Value) (w : World) (ra : SpRow w va a) (rb : SpRow w vb b) (ha : RS n a) (hb : RS m b) (hn : n ≤ 4096) (hm : m ≤ 4096) : GivesL 14 #[va, vb] w (commonL a b) := (spcommon_yes a b va vb w ra rb ha.r hb.r ha.b hb.b (Nat.le_trans ha.l hn) (Nat.le_trans hb.l hm)).lit
theorem without_row {n m : Nat} (a b : List Sp) (va vb : Value) (w : World) (ra : SpRow w va a) (rb : SpRow w vb b) (ha : RS n a) (hb : RS m b) (hn : n ≤ 4096) (hm : m ≤ 4096) : GivesL 15 #[va, vb] w (withoutL a b) := (spwithout_yes a b va vb w ra rb ha.r hb.r ha.b hb.b (Nat.le_trans ha.l hn) (Nat.le_trans hb.l hm)).lit
theorem others_row {n : Nat} (a : List Sp) (va : Value) (w : World) (ra : SpRow w va a) (ha : RS n a) (hn : n ≤ 4096) : GivesL 16 #[va] w (othersL a) := (spothers_yes a va w ra ha.r ha.b (Nat.le_trans ha.l hn)).lit
set_option maxHeartbeats 64000000 in
set_option maxRecDepth 100000 in
theorem scounts_any (l m : List SPc) (vl vm : Value) (w : World) (g : Good w) (rl : PcRow w vl l) (rm : PcRow w vm m) (bl : ∀ x ∈ l, SPcB x) (bm : ∀ x ∈ m, SPcB x) (ll : l.length ≤ 9223372036854775807) (lm : m.length ≤ 9223372036854775807) :
    Gives Tryz.prog 3 #[vl, vm] w (.bool true) := by
  have m1 := fun (W : World) (u : UpI w W) => made_row l vl W (rl.up u.up) bl ll
  have m2 := fun (W : World) (u : UpI w W) => made_row m vm W (rm.up u.up) bm lm
  have ha := RS.made bl
  have hb := RS.made bm
  obtain ⟨pl, cl, hvl, _⟩ := rl
  obtain ⟨pm, cm, hvm, _⟩ := rm
  have Hvl := Lib.hid hvl; have Hvm := Lib.hid hvm
  clear bl bm hvl hvm
  generalize madeS l = a at *
  generalize madeS m = b at *
  have laws := Lib.hid (count_laws ha.r hb.r ha.b hb.b)
  have hU := ha.union hb
  have hC := ha.common hb
  have hW := ha.without hb
  have hO := ha.others
  have n1 := countL_nonneg ha (by decide); have n2 := countL_nonneg hb (by decide); have n3 := countL_nonneg hU (by decide); have n4 := countL_nonneg hC (by decide); have n5 := countL_nonneg hW (by decide); have n6 := countL_nonneg hO (by decide)
  have Ha := Lib.hid ha; have Hb := Lib.hid hb; have HU := Lib.hid hU; have HC := Lib.hid hC; have HW := Lib.hid hW; have HO := Lib.hid hO
  have N1 := Lib.hid n1; have N2 := Lib.hid n2; have N3 := Lib.hid n3; have N4 := Lib.hid n4; have N5 := Lib.hid n5; have N6 := Lib.hid n6
  have la := ha.l
  have lb := hb.l
  clear n1 n2 n3 n4 n5 n6 ha hb hU hC hW hO
  unfold Gives
  go_enter Tryz.func3, Tryz.ntmps3
  go_wp2_with (first
    | (go_at_call 11; refine (spawake_any _ g).mono ?_; rintro e w' ⟨rfl, x0, rfl⟩)
    | (go_at_call 12; (with_reducible refine (m1 x0.w inferInstance).mono ?_); clear m1; rintro e w' ⟨pa, ca, rfl, Ra, xa, rfl⟩)
    | (go_at_call 12; (with_reducible refine (m2 xa.w inferInstance).mono ?_); clear m2; rintro e w' ⟨pb, cb, rfl, Rb, xb, rfl⟩)
    | (go_at_call 13; (with_reducible refine Calls.mono (union_row a b _ _ xb.w (Ra.out.up upI) Rb.out Ha.out Hb.out (by decide) (by decide)) ?_); rintro e w' ⟨pu, cu, rfl, Ru, xu, rfl⟩)
    | (go_at_call 14; (with_reducible refine Calls.mono (common_row a b _ _ xu.w (Ra.out.up upI) (Rb.out.up upI) Ha.out Hb.out (by decide) (by decide)) ?_); rintro e w' ⟨pc, cc, rfl, Rc, xc, rfl⟩)
    | (go_at_call 15; (with_reducible refine Calls.mono (without_row a b _ _ xc.w (Ra.out.up upI) (Rb.out.up upI) Ha.out Hb.out (by decide) (by decide)) ?_); rintro e w' ⟨pw, cw, rfl, Rw, xw, rfl⟩)
    | (go_at_call 16; (with_reducible refine Calls.mono (others_row a _ xw.w (Ra.out.up upI) Ha.out (by decide)) ?_); rintro e w' ⟨po, co, rfl, Ro, xo, rfl⟩))
  have Sets := Lib.hid (show ∀ x ∈ ([(.slice pa a.length ca, a), (.slice pb b.length cb, b), (.slice pu (unionL a b).length cu, unionL a b), (.slice pc (commonL a b).length cc, commonL a b), (.slice pw (withoutL a b).length cw, withoutL a b), (.slice po (othersL a).length co, othersL a)] : List VS), SpRow xo.w x.1 x.2 ∧ RS 4096 x.2 by
    intro x hx
    simp only [List.mem_cons, List.mem_nil_iff, or_false] at hx
    rcases hx with rfl | rfl | rfl | rfl | rfl | rfl
    · exact ⟨Ra.out.up upI, Ha.out.mono (by decide)⟩
    · exact ⟨Rb.out.up upI, Hb.out.mono (by decide)⟩
    · exact ⟨Ru.out.up upI, HU.out.mono (by decide)⟩
    · exact ⟨Rc.out.up upI, HC.out.mono (by decide)⟩
    · exact ⟨Rw.out.up upI, HW.out.mono (by decide)⟩
    · exact ⟨Ro.out.up upI, HO.out.mono (by decide)⟩)
  clear Ra Rb Ru Rc Rw Ro Ha Hb HU HC HW HO
  generalize unionL a b = U at *
  generalize commonL a b = C at *
  generalize withoutL a b = D at *
  generalize othersL a = O at *
  obtain ⟨A, hA⟩ : ∃ A, xo.w.heap.size = A := ⟨_, rfl⟩
  refine wp_letterS (fun Z => Up xo.w Z ∧ Z.heap[A]? = some (.cells #[.int .i64 0, .int .i64 0, .int .i64 0, .int .i64 0, .int .i64 0, .int .i64 0] 31 (0, 0)) ∧ Z.heap[A + 1]? = some (.cells #[.slice pa a.length ca, .slice pb b.length cb, .slice pu U.length cu, .slice pc C.length cc, .slice pw D.length cw, .slice po O.length co] 25 (0, 0))) ?hst ?_
  case hst =>
    subst hA
    refine ⟨((Up.refl _).alloc _).alloc _, ?_, ?_⟩
    · rw [alloc_get, if_neg (by simp only [World.size_alloc]; omega), alloc_get, if_pos rfl]
    · rw [alloc_get, if_pos (by simp only [World.size_alloc])]
  rw [hA]
  rintro Z ⟨uZ, hZ1, hZ2⟩
  obtain ⟨sets, hsets⟩ : ∃ sets : List VS, sets = [(.slice pa a.length ca, a), (.slice pb b.length cb, b), (.slice pu U.length cu, U), (.slice pc C.length cc, C), (.slice pw D.length cw, D), (.slice po O.length co, O)] := ⟨_, rfl⟩
  rw [← hsets] at Sets
  have hlen : sets.length = 6 := by rw [hsets]; rfl
  have hcells : #[.slice pa a.length ca, .slice pb b.length cb, .slice pu U.length cu, .slice pc C.length cc, .slice pw D.length cw, .slice po O.length co] = (sets.map Prod.fst).toArray := by rw [hsets]; rfl
  rw [hcells] at hZ2
  have Hsets := Lib.hid hsets
  have Hlen := Lib.hid hlen
  have Hxo := Lib.hid (show Up w xo.w from upI)
  clear hcells hsets hlen
  go_loopw [57] (fun i wr => ∃ (k : Nat) (cs : Array Value), k ≤ 6 ∧ i = .int .i64 (k : Int) ∧ wr.heap[A]? = some (.cells cs 31 (0, 0)) ∧ cs.size = 6 ∧ Hid (∀ (j : Nat) x, j < k → sets[j]? = some x → cs[j]? = some (.int .i64 (countL x.2))) ∧ Hid (∀ j : Nat, j < 6 → ∃ n : Int, cs[j]? = some (.int .i64 n)) ∧ wr.heap[A + 1]? = some (.cells (sets.map Prod.fst).toArray 25 (0, 0)) ∧ Up xo.w wr) (fun i _ => 6 - (intOf i).toNat)
  case atStart => exact ⟨0, _, Nat.zero_le _, rfl, hZ1, rfl, Lib.hid (fun j x h => absurd h (Nat.not_lt_zero j)), Lib.hid (fun j hj => ⟨0, by rcases (by omega : j = 0 ∨ j = 1 ∨ j = 2 ∨ j = 3 ∨ j = 4 ∨ j = 5) with rfl | rfl | rfl | rfl | rfl | rfl <;> rfl⟩), hZ2, uZ⟩
  case round =>
    clear hZ1 hZ2
    obtain ⟨k, cs, hk, rfl, h1, hcs, Hk, Hint, h2, hup⟩ := hrel
    haveI : UpI xo.w wr := ⟨hup⟩
    haveI : UpI w wr := ⟨Hxo.out.trans hup⟩
    haveI : LtSize A wr := ⟨heap_lt h1⟩
    haveI : LtSize (A + 1) wr := ⟨heap_lt h2⟩
    by_cases hlt : k < 6
    · have hlt' : (k : Int) < 6 := by omega
      have k0 : (0 : Int) ≤ (k : Int) := by omega
      obtain ⟨⟨v, L⟩, hx⟩ : ∃ x, sets[k]? = some x := ⟨_, List.getElem?_eq_getElem (by rw [Hlen.out]; exact hlt)⟩
      obtain ⟨hrow, hrs⟩ := Sets.out _ (List.mem_of_getElem? hx)
      have c0 : wr.cell? ⟨A + 1, k, none⟩ = some v := by rw [cell_of_cells h2]; simp [hx]
      obtain ⟨n0, hn0⟩ := Hint.out k hlt
      have d0 : wr.cell? ⟨A, k, none⟩ = some (.int .i64 n0) := by rw [cell_of_cells h1]; exact hn0
      have f0 : wr.frozen? ⟨A, k, none⟩ = false := free_of_cells h1 k
      have hcnt := fun (W : World) (u : UpI xo.w W) => spcount_yes L v W (hrow.up u.up) hrs.b hrs.r hrs.l
      have H1 := Lib.hid h1; have H2 := Lib.hid h2; have HX := Lib.hid hx
      clear h1 h2 hx hrow hrs hn0
      generalize hcn : countL L = n at *
      go_wp2_with (go_at_call 17; refine (hcnt _ inferInstance).mono ?_; clear hcnt; rintro e w' ⟨rfl, y, rfl⟩)
      go_roundw
      case rel =>
        have e1 : (y.w.setCell ⟨A, k, none⟩ (.int .i64 n)).heap[A]? = some (.cells (cs.setIfInBounds k (.int .i64 n)) 31 (0, 0)) := heap_setCell_same y.w A k cs _ _ ((y.up.block A (heap_lt H1.out)).trans H1.out)
        refine ⟨k + 1, _, by omega, by go_num, e1, by simpa using hcs, Lib.hid (fun j x hj hx => ?_), Lib.hid (fun j hj => ?_), (heap_setCell_other y.w ⟨A, k, none⟩ (A + 1) _ (by simp)).trans ((y.up.block _ (heap_lt H2.out)).trans H2.out), (hup.trans y.up).setCell (by simp; omega) _⟩
        · rw [Array.getElem?_setIfInBounds]
          by_cases hjk : k = j
          · subst hjk; rw [HX.out] at hx; cases hx; rw [if_pos rfl, if_pos (by omega), hcn]
          · rw [if_neg hjk]; exact Hk.out j x (by omega) hx
        · rw [Array.getElem?_setIfInBounds]
          by_cases hjk : k = j
          · subst hjk; rw [if_pos rfl, if_pos (by omega)]; exact ⟨_, rfl⟩
          · rw [if_neg hjk]; exact Hint.out j hj
      case measure => simp [intOf]; omega
    · obtain rfl : k = 6 := by omega
      have q : ∀ (j : Nat) x, j < 6 → sets[j]? = some x → wr.cell? ⟨A, j, none⟩ = some (.int .i64 (countL x.2)) := fun j x hj hx => by rw [cell_of_cells h1]; exact Hk.out j x hj hx
      rw [Hsets.out] at q
      have q0 := q 0 _ (by omega) rfl; have q1 := q 1 _ (by omega) rfl; have q2 := q 2 _ (by omega) rfl; have q3 := q 3 _ (by omega) rfl; have q4 := q 4 _ (by omega) rfl; have q5 := q 5 _ (by omega) rfl
      obtain ⟨l1, l2, l3⟩ := laws.out
      have n1 := N1.out; have n2 := N2.out; have n3 := N3.out; have n4 := N4.out; have n5 := N5.out; have n6 := N6.out
      clear q h1 h2 Sets
      simp only at q0 q1 q2 q3 q4 q5
      generalize countL a = na at *
      generalize countL b = nb at *
      generalize countL U = nu at *
      generalize countL C = nc at *
      generalize countL D = nd at *
      generalize countL O = no at *
      haveI : In64 (na + nb) := ⟨by omega⟩
      haveI : In64 (nu + nc) := ⟨by omega⟩
      haveI : In64 (na + no) := ⟨by omega⟩
      haveI : In64 (na - nc) := ⟨by omega⟩
      have t1 : (na + nb == nu + nc) = true := by simpa using l1
      have t2 : (na + no == 4294967296) = true := by simpa using l2
      have t3 : (nd == na - nc) = true := by simpa using l3
      clear l1 l2 l3 n1 n2 n3 n4 n5 n6
      go_wp2_with fail
      go_ret
      exact ⟨rfl, mkI⟩
end Go.Proofs.YtgfkcbflnkpogaaGreatDoor
set_option linter.unusedSimpArgs false
set_option linter.unusedVariables false
namespace Go.Proofs.YtgfkcbflnkpogaaGreatDoor
open Go.RowKit Go.Ab
attribute [local go_sem high] wrapU32 wrapI64 wrapK64
theorem hasS_last {a : List Sp} {n : Int} (hr : rightS a = true) (h : ∀ m, n ≤ m → hasS a m = false) {x : Sp} (hx : x ∈ a) : x.2 < n := by
  by_cases c : x.2 < n
  · exact c
  · have := h x.2 (by omega)
    rw [hasS_mem hx (rF_le hr x hx) (Int.le_refl _)] at this
    cases this
theorem one_row (W : World) (x : Sp) : SpRow (W.alloc (.cells #[.int .u32 x.1, .int .u32 x.2] 39)) (.slice (some ⟨W.heap.size, 0, none⟩) 1 1) [x] := by
  exact RowOf.of_block (cells := spCells) (k := 2) (fun x => rfl) (l := [x]) (b := W.heap.size) (t := 39) (fz := (0, 0)) (by rw [alloc_get, if_pos rfl]; rfl) (Nat.le_refl _)
set_option maxHeartbeats 64000000 in
set_option maxRecDepth 100000 in
theorem snext_any (l : List SPc) (n : Int) (vl : Value) (w : World) (g : Good w) (rl : PcRow w vl l) (bl : ∀ x ∈ l, SPcB x) (ll : l.length ≤ 9223372036854775807) (n0 : 0 ≤ n) (n1 : n < 4294967296) :
    Gives Tryz.prog 6 #[vl, .int .u32 n] w (.bool true) := by
  have m1 := fun (W : World) (u : UpI w W) => made_row l vl W (rl.up u.up) bl ll
  have ha := RS.made bl
  obtain ⟨pl, cl, hvl, _⟩ := rl
  have Hvl := Lib.hid hvl
  clear bl hvl
  generalize madeS l = a at *
  have Ha := Lib.hid ha
  have la := ha.l
  have ok := nextL_ok a n
  have bd := nextL_bd a n n0 ha.b n1
  have cn := fun (v : Value) (W : World) (h : SpRow W v a) => spnext_any a n v W h ha.b n0 n1 (by omega)
  have ch := fun (m : Int) (q : Bool) (hq : hasS a m = q) (v : Value) (W : World) (h : SpRow W v a) => (sphas_any a m v W h (by omega)).cast (v := .bool q) (congrArg Value.bool hq)
  obtain ⟨⟨x, q⟩, hxq⟩ : ∃ y, nextL a n = y := ⟨_, rfl⟩
  rw [hxq] at ok bd cn
  simp only at bd cn
  obtain ⟨x0, x1⟩ := bd
  cases q
  · obtain ⟨hx, hno⟩ := ok.no rfl
    simp only at hx
    subst hx
    have Hno := Lib.hid hno
    have Hlast := Lib.hid (fun (x : Sp) (h : x ∈ a) => hasS_last ha.r hno h)
    clear ok hxq ha hno ch
    unfold Gives
    go_enter Tryz.func6, Tryz.ntmps6
    have e0 : a = [] ∨ a ≠ [] := by by_cases c : a = [] <;> simp [c]
    rcases e0 with e0 | e0
    · subst e0
      go_wp2_with (first
        | (go_at_call 11; refine (spawake_any _ g).mono ?_; rintro e w' ⟨rfl, x0, rfl⟩)
        | (go_at_call 12; (with_reducible refine (m1 x0.w inferInstance).mono ?_); clear m1; rintro e w' ⟨pa, ca, rfl, Ra, xa, rfl⟩)
        | (go_at_call 24; refine (cn _ xa.w Ra.out).mono ?_; clear cn; rintro e w' ⟨rfl, xn, rfl⟩))
      all_goals (go_ret; exact ⟨rfl, mkI⟩)
    · obtain ⟨L, hL⟩ : ∃ L, a.length = L + 1 := ⟨a.length - 1, by have := List.length_pos_iff.2 e0; omega⟩
      obtain ⟨y, hy⟩ : ∃ y, a[L]? = some y := ⟨_, List.getElem?_eq_getElem (by omega)⟩
      have hyn := Hlast.out y (List.mem_of_getElem? hy)
      have Hy := Lib.hid hy
      have HL := Lib.hid hL
      clear hy hL e0 Hlast Hno
      have cn' := fun (v : Value) (W : World) (h : SpRow W v a) => cn v W h
      simp only [HL.out] at m1 la
      haveI : In64 (((L + 1 : Nat) : Int) - 1) := ⟨by omega⟩
      have t0 : (((L + 1 : Nat) : Int) == 0) = false := by simp; omega
      have t1 : decide (y.2 < n) = true := by simpa using hyn
      have k0 : (0 : Int) ≤ ((L + 1 : Nat) : Int) - 1 := by omega
      have k1 : ((L + 1 : Nat) : Int) - 1 < ((L + 1 : Nat) : Int) := by omega
      have k2 : (((L + 1 : Nat) : Int) - 1).toNat = L := by omega
      go_wp2_with (first
        | (go_at_call 11; refine (spawake_any _ g).mono ?_; rintro e w' ⟨rfl, x0, rfl⟩)
        | (go_at_call 12; (with_reducible refine (m1 x0.w inferInstance).mono ?_); clear m1; rintro e w' ⟨pa, ca, rfl, Ra, xa, rfl⟩
           obtain ⟨b, o, rfl, hb, q0, q1⟩ := sp_at Ra.out rfl Hy.out)
        | (go_at_call 24; refine (cn _ xa.w Ra.out).mono ?_; clear cn; rintro e w' ⟨rfl, xn, rfl⟩))
      all_goals (go_ret; exact ⟨rfl, mkI⟩)
  · obtain ⟨hx, hhas, hno⟩ := ok.yes rfl
    simp only at hx hhas hno
    have c1 := ch x true hhas
    have Hno := Lib.hid hno
    by_cases c : n < x
    · have c2 := ch n false (hno n (Int.le_refl _) c)
      have hg : commonL a [(n, x - 1)] = [] := common_gap ha.r ha.b n0 (by omega) (fun m h0 h1 => hno m h0 (by omega))
      have h1 : RS 1 [(n, x - 1)] := ⟨rF_cons.2 ⟨n0, by simp only; omega, rfl⟩, fun y hy => by rw [List.mem_singleton.1 hy]; exact ⟨by simp only; omega, by simp only; omega, by simp only; omega, by simp only; omega⟩, by simp⟩
      have cc := fun (v : Value) (W X : World) (hX : X = W.alloc (.cells #[.int .u32 n, .int .u32 (x - 1)] 39)) (h : SpRow X v a) => hg ▸ common_row a [(n, x - 1)] v (.slice (some ⟨W.heap.size, 0, none⟩) 1 1) X h (hX ▸ one_row W (n, x - 1)) ha h1 (by decide) (by decide)
      have t0 : decide (x < n) = false := by simp; omega
      have t1 : decide (n < x) = true := by simpa using c
      have t2 : decide (x > n) = true := by simpa using c
      haveI : InU32 (x - 1) := ⟨by omega⟩
      clear ok hxq ha hno ch hg h1 hhas
      unfold Gives
      go_enter Tryz.func6, Tryz.ntmps6
      go_wp2_with (first
        | (go_at_call 11; refine (spawake_any _ g).mono ?_; rintro e w' ⟨rfl, x0, rfl⟩)
        | (go_at_call 12; (with_reducible refine (m1 x0.w inferInstance).mono ?_); clear m1; rintro e w' ⟨pa, ca, rfl, Ra, xa, rfl⟩)
        | (go_at_call 24; refine (cn _ xa.w Ra.out).mono ?_; clear cn; rintro e w' ⟨rfl, xn, rfl⟩)
        | (go_at_call 25; refine (c1 _ xn.w (Ra.out.up upI)).mono ?_; clear c1; rintro e w' ⟨rfl, xh, rfl⟩)
        | (go_at_call 25; refine (c2 _ xh.w (Ra.out.up upI)).mono ?_; clear c2; rintro e w' ⟨rfl, xi, rfl⟩)
        | (go_at_call 14; (with_reducible refine Calls.mono (cc _ xi.w _ rfl (Ra.out.up upI)) ?_); clear cc; rintro e w' ⟨pc, cc, rfl, Rc, xc, rfl⟩))
      all_goals (go_ret; exact ⟨rfl, mkI⟩)
    · have e : x = n := by omega
      subst e
      have t0 : decide (x < x) = false := by simp
      clear ok hxq ha hno ch hhas
      unfold Gives
      go_enter Tryz.func6, Tryz.ntmps6
      go_wp2_with (first
        | (go_at_call 11; refine (spawake_any _ g).mono ?_; rintro e w' ⟨rfl, x0, rfl⟩)
        | (go_at_call 12; (with_reducible refine (m1 x0.w inferInstance).mono ?_); clear m1; rintro e w' ⟨pa, ca, rfl, Ra, xa, rfl⟩)
        | (go_at_call 24; refine (cn _ xa.w Ra.out).mono ?_; clear cn; rintro e w' ⟨rfl, xn, rfl⟩)
        | (go_at_call 25; refine (c1 _ xn.w (Ra.out.up upI)).mono ?_; clear c1; rintro e w' ⟨rfl, xh, rfl⟩))
      all_goals (go_ret; exact ⟨rfl, mkI⟩)
end Go.Proofs.YtgfkcbflnkpogaaGreatDoor
set_option linter.unusedVariables false
namespace Go.Ab
open Go.RowKit
section
variable {α : Type} {cells : α → List Value} {k : Nat}
theorem row_cells (hk : ∀ e, (cells e).length = k) (h0 : 0 < k) {w : World} {p : Addr} {n cap : Nat} {L : List α} (h : RowOf cells k w (.slice (some p) n cap) L) (j : Nat) (u : Value) (hu : (L.flatMap cells)[j]? = some u) : w.cell? (p.add j) = some u := by
  obtain ⟨p', cap', hv, _, hc⟩ := h
  simp only [Value.slice.injEq] at hv
  obtain ⟨rfl, rfl, rfl⟩ := hv
  have hj : j < L.length * k := by rw [← flat_length hk L]; exact (List.getElem?_eq_some_iff.1 hu).1
  have hd : j / k < L.length := Nat.div_lt_of_lt_mul (by rwa [Nat.mul_comm])
  have hm : j / k * k + j % k = j := Nat.div_add_mod' j k
  obtain ⟨x, hx⟩ : ∃ x, L[j / k]? = some x := ⟨_, List.getElem?_eq_getElem hd⟩
  obtain ⟨b, o, hp, _, hcc⟩ := hc (j / k) x hx
  obtain ⟨v, hv⟩ : ∃ v, (cells x)[j % k]? = some v := ⟨_, List.getElem?_eq_getElem (by rw [hk]; exact Nat.mod_lt _ h0)⟩
  have h1 := flat_at hk L (j / k) (j % k) x v hx hv
  rw [hm, hu] at h1
  cases h1
  have := hcc (j % k) u hv
  rw [Option.some.inj hp, show (Addr.add ⟨b, o, none⟩ j) = (⟨b, o + j, none⟩ : Addr) by cases j <;> simp [Addr.add]]
  rw [show o + j / k * k + j % k = o + j by omega] at this
  exact this
theorem run_append_nothing {P : Program} {w : World} {t ty e : TypeId} {i : TypeInfo} {size base n c : Nat} {v : Value} {xs : List Value} (ht : P.underlying t = some (.slice e)) (hi : P.info? e = some i) (h : w.ownsRow base e size v n xs) :
    (Builtin.append_ #[t, t] ty #[v, .slice none 0 c]).run P w = .ok v w := by
  rcases h.2 with ⟨rfl, rfl⟩ | ⟨g, cap, cur, rfl, _, _, hnc, _⟩
  · simp [Builtin.append_, run_underlying ht, sizeOf, typeInfo, hi, Builtin.lenOf, Builtin.firstCells]
  · simp [Builtin.append_, run_underlying ht, sizeOf, typeInfo, hi, Builtin.lenOf, Builtin.firstCells, storeCells, hnc]
theorem wpList_append_list (hk : ∀ e, (cells e).length = k) (h1 : ∀ e u, u ∈ cells e → u.oneCell' = true) (h0 : 0 < k) {P : Program} {w : World} {ops : Array Oper} {rest : List Oper} {o : Oper} {a : Act} {Q : Exit → Act → World → Prop} (hgd : o.guard = none) (s x : Operand) (t : TypeId)
    (ho : o.op = .call { callee := .builtin .append, args := #[s, x], argTypes := #[t, t] })
    (base : Nat) (e : TypeId) (i : TypeInfo) (z : Value) (bytes : Nat) (ht : P.underlying t = some (.slice e)) (hi : P.info? e = some i) (hz : i.zero = some z) (hsize : i.size = k) (hby : i.bytes = bytes) (hzs : z.cells.size = k)
    (L : List α) (v : Value) (hs : a.eval s = v) (hown : w.ownsRow base e k v L.length (L.flatMap cells))
    (l : List α) (u : Value) (hx : a.eval x = u) (hr : RowOf cells k w u l) (h63 : L.length + l.length ≤ maxLen) (hbytes : (L.length + l.length) * bytes ≤ 140737488355328) (hbase : base ≤ w.heap.size)
    (h : ∀ v' w', w'.ownsRow base e k v' (L ++ l).length ((L ++ l).flatMap cells) → w.grownBy w' v.ownBlock → wpList P ops Q rest (a.put o.dst v') w') : wpList P ops Q (o :: rest) a w := by
  have hr' := hr
  obtain ⟨p, c, rfl, hle, hc⟩ := hr
  cases p with
  | none =>
    have hl : l = [] := by
      cases l with
      | nil => rfl
      | cons y l => obtain ⟨_, _, hp, _⟩ := hc 0 y rfl; cases hp
    subst hl
    refine wpList_plain hgd fun K hK => ?_
    have hrun := run_append_nothing (P := P) (ty := o.type) (c := c) ht hi hown
    simp only [List.length_nil] at hx
    unfold Oper.wp
    simp [execOp, ho, resolve, invoke, builtin, hs, hx, hrun, Result.andThen]
    exact hK _ _ (h v w (by simpa using hown) ⟨rfl, rfl, rfl, Nat.le_refl _, fun _ _ _ => rfl⟩)
  | some ad =>
    refine wpList_append_own w hgd s x t ho base e i z k bytes ht hi hz hsize hby hzs h0 v L.length _ hs hown ad l.length c (l.flatMap cells) hx (flat_length hk l) (row_cells hk h0 hr') (fun u hu => by
      obtain ⟨y, _, hy⟩ := List.mem_flatMap.1 hu
      exact h1 y u hy) h63 hbytes hbase (fun v' w' h2 h3 _ => h v' w' ?_ h3)
    rw [List.length_append, List.flatMap_append]
    exact h2
end
end Go.Ab
set_option linter.unusedSimpArgs false
set_option linter.unusedVariables false
namespace Go.Ab
open Go.RowKit
theorem prefix_top {a n : Int} (hr : rightB a n = true) (n0 : 0 ≤ n) (a1 : a < 4294967296) : a + (sz n - 1) < 4294967296 := by
  unfold rightB at hr
  simp only [Bool.and_eq_true, decide_eq_true_eq, beq_iff_eq] at hr
  obtain ⟨hn, hd⟩ := hr
  have hm := sz_mul n n0 hn
  have hp := sz_pos n
  have hq : sz n * (a / sz n) = a := by have := Int.mul_ediv_add_emod a (sz n); omega
  generalize (2 : Int) ^ n.toNat = m at hm
  generalize a / sz n = q at hq
  have hlt : q < m := by
    apply Int.lt_of_mul_lt_mul_left (a := sz n) _ (by omega)
    omega
  have h2 : sz n * (q + 1) ≤ sz n * m := Int.mul_le_mul_of_nonneg_left (by omega) (by omega)
  rw [Int.mul_add] at h2
  omega
abbrev PfRow (w : World) (v : Value) (l : List (Int × Int)) : Prop := RowOf pfCells 2 w v l
theorem boundS_b {p : Int × Int} (h : PfB p) (hr : rightB p.1 p.2 = true) : SpB (boundS p) := by
  have := prefix_top hr h.n0 h.a1
  have := sz_pos p.2
  have := h.a0
  have := h.a1
  unfold boundS
  exact ⟨by simp only; omega, by simp only; omega, by simp only; omega, by simp only; omega⟩
theorem badS_bounds (l : List (Int × Int)) : badS (l.map boundS) = false := by
  unfold badS
  rw [List.any_eq_false]
  intro x hx
  obtain ⟨p, _, rfl⟩ := List.mem_map.1 hx
  have := sz_pos p.2
  intro h
  have h2 := of_decide_eq_true h
  unfold boundS at h2
  simp only at h2
  omega
theorem sp_oneB (e : Sp) (u : Value) (h : u ∈ spCells e) : u.oneCell' = true := by
  simp [spCells] at h
  rcases h with rfl | rfl <;> rfl
end Go.Ab
namespace Go.Proofs.YtgfkcbflnkpogaaGreatDoor
open Go.RowKit Go.Ab
attribute [local go_sem high] wrapI64 wrapK64
theorem one_rowA (W : World) (x : Sp) (b : Nat) (h : b = W.heap.size) : SpRow (W.alloc (.cells #[.int .u32 x.1, .int .u32 x.2] 39)) (.slice (some ⟨b, 0, none⟩) 1 1) [x] := by
  subst h
  exact one_row W x
set_option maxHeartbeats 64000000 in
set_option maxRecDepth 100000 in
theorem ofprefixes_yes (l : List (Int × Int)) (v : Value) (w : World) (hv : PfRow w v l) (hb : ∀ p ∈ l, PfB p) (hr : ∀ p ∈ l, rightB p.1 p.2 = true) (hl : l.length ≤ 4096) :
    GivesL 29 #[v] w (ofL (l.map boundS)) := by
  have Hv := Lib.hid hv
  obtain ⟨p, cap, rfl, hle, hc⟩ := hv
  have Hb := Lib.hid hb
  have Hr := Lib.hid hr
  have Hc := Lib.hid hc
  obtain ⟨N, hN⟩ : ∃ N, l.length = N := ⟨_, rfl⟩
  rw [hN] at hle hl ⊢
  have HN := Lib.hid hN
  obtain ⟨i0, hi, hy0, hy1, hy2⟩ := info_parts infoSpan
  have Hi := Lib.hid hi; have Hy0 := Lib.hid hy0; have Hy1 := Lib.hid hy1; have Hy2 := Lib.hid hy2
  have hbig : decide ((N : Int) > 4096) = false := by simp; omega
  have hbig' : decide ((4096 : Int) < N) = false := by simp; omega
  clear hi hy0 hy1 hy2 hN hc hb hr
  unfold GivesL
  go_enter Tryz.func29, Tryz.ntmps29
  go_wp2_with fail
  go_loopw [4, 15] (fun u i wr => ∃ (k : Nat), k ≤ N ∧ i = .int .i64 (k : Int) ∧ Hid (wr.ownsRow w.heap.size 39 2 u ((l.take k).map boundS).length (((l.take k).map boundS).flatMap spCells)) ∧ Up w wr) (fun _ i _ => N - (intOf i).toNat)
  case atStart => exact ⟨0, Nat.zero_le _, rfl, Lib.hid (World.ownsRow_nil _ _ _ _), Up.refl _⟩
  case round =>
    obtain ⟨k, hk, rfl, Hown, hup⟩ := hrel
    haveI : UpI w wr := ⟨hup⟩
    by_cases hlt : k < N
    · have hlt' : (k : Int) < (N : Int) := by omega
      have k0 : (0 : Int) ≤ (k : Int) := by omega
      obtain ⟨x, hx⟩ : ∃ x, l[k]? = some x := ⟨_, List.getElem?_eq_getElem (by rw [HN.out]; exact hlt)⟩
      obtain ⟨b, o, rfl, hb, hcc⟩ := Hc.out k x hx
      haveI : LtSize b wr := ⟨Nat.lt_of_lt_of_le hb hup.size⟩
      have c0 := hup.cell_some (hcc 0 _ rfl)
      have c1 := hup.cell_some (hcc 1 _ rfl)
      simp only [Nat.add_zero] at c0
      have hxb := Hb.out x (List.mem_of_getElem? hx)
      have hxr := Hr.out x (List.mem_of_getElem? hx)
      have hbd := fun (W : World) => (bounds_any x.1 x.2 W hxb.n0 hxb.a0 hxb.a1).cast (v := .tuple #[.int .u32 (boundS x).1, .int .u32 (boundS x).2, .int .i64 0]) (by rw [if_pos hxr]; rfl)
      have E := Lib.hid (show (l.take (k + 1)).map boundS = (l.take k).map boundS ++ [boundS x] by rw [List.take_add_one, hx]; simp)
      have hlen : ((l.take k).map boundS).length = k := by rw [List.length_map, List.length_take, HN.out]; omega
      clear hcc hx hxb hxr Hc Hb Hr
      generalize (l.take k).map boundS = O at *
      generalize boundS x = y at *
      go_wp2_with (first
        | (go_at_call 30; refine (hbd _).mono ?_; clear hbd; rintro e w' ⟨rfl, y1, rfl⟩)
        | (at_builtin; refine wpList_append_list (cells := spCells) (k := 2) spCells_length sp_oneB (by decide) rfl _ _ 24 rfl w.heap.size 39 i0 (.agg #[.int .u32 0, .int .u32 0]) 8 Tryz.underlying24 Hi.out Hy0.out Hy1.out Hy2.out rfl O _ rfl (owns_up Hown.out (upI : Up wr _)) [y] _ rfl (one_rowA y1.w y _ rfl) (by rw [hlen]; unfold maxLen; simp; omega) (by rw [hlen]; simp; omega) (by have := (upI : Up w y1.w).size; simp; omega) ?_; intro v' w1 hown' hgrow))
      have hup3 : Up w w1 := ((upI : Up w _)).grown hgrow (owns_row Hown.out)
      go_roundw
      case rel => exact ⟨k + 1, by omega, by go_num, by rw [E.out]; exact Lib.hid hown', hup3⟩
      case measure => simp [intOf]; omega
    · obtain rfl : k = N := by omega
      have e0 : l.take k = l := List.take_of_length_le (by rw [HN.out]; exact Nat.le_refl _)
      rw [e0] at Hown
      have hof := fun (u : Value) (W : World) (h : SpRow W u (l.map boundS)) => (spof_yes (l.map boundS) u W h (fun x hx => by
        obtain ⟨p, hp, rfl⟩ := List.mem_map.1 hx
        exact boundS_b (Hb.out p hp) (Hr.out p hp)) (by rw [List.length_map, HN.out]; exact hl) (badS_bounds l)).lit
      have RL := Lib.hid (sp_row Hown.out)
      clear Hown e0 Hc Hb Hr Hv
      go_wp2_with (go_at_call 22; (with_reducible refine Calls.mono (hof _ wr RL.out) ?_); clear hof; rintro e w' ⟨po, co, rfl, Ro, xo, rfl⟩)
      go_ret2
      exact ⟨_, _, rfl, Ro, mkI⟩
end Go.Proofs.YtgfkcbflnkpogaaGreatDoor
