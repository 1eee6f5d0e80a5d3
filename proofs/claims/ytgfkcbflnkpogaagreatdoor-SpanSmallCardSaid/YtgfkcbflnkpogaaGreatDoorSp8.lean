/- Package span: slices of spans cloned and sorted; what Of returns. -/
import Derived.Test.YtgfkcbflnkpogaaGreatDoorSp7
import Derived.Test.YtgfkcbflnkpogaaGreatDoorShelf2
import Derived.Sort.Grow
import Derived.Shelf.SlSortCmp.NoneTotal
set_option linter.unusedSimpArgs false
set_option linter.unusedVariables false
namespace Go.Ab
open Go.RowKit
theorem up_putRow {α : Type} [Inhabited α] {enc : α → Value} {w0 w : World} {g off q : Nat} {d : Array α} (h : Up w0 w) (hg : w0.heap.size ≤ g) : Up w0 (Sort.putRow enc (Sort.ahead w q) g off d) :=
  ⟨h.os, h.tape, h.output, by rw [Sort.size_putRow]; exact h.size, fun k hk => by
    have hb := h.block k hk
    unfold Sort.putRow Sort.mapBlock Sort.ahead
    simp only [Array.getElem?_modify]
    rw [if_neg (by omega)]
    exact hb⟩
def cmpI (x y : Int) : Int := if x < y then -1 else if y < x then 1 else 0
/-- A world that a call leads to: new blocks, and draws. -/
structure ExtD (w : World) where
  e : Ext w
  d : w.drawn ≤ e.w.drawn
instance ExtD.inst {w : World} : Nonempty (ExtD w) := ⟨⟨⟨w, Up.refl _⟩, Nat.le_refl _⟩⟩
theorem mkD {w W : World} (h : Up w W) (hd : w.drawn ≤ W.drawn) : ∃ x : ExtD w, W = x.e.w := by
  obtain ⟨x, rfl⟩ := h.mk
  exact ⟨⟨x, hd⟩, rfl⟩
def GivesD (P : Program) (f : FuncId) (args : Array Value) (w : World) (v : Value) : Prop :=
  Calls P f args w fun e w' => e = .returned v ∧ ∃ x : ExtD w, w' = x.e.w
theorem GivesD.extD {P : Program} {f : FuncId} {args : Array Value} {w : World} {x : ExtD w} {v : Value} (h : GivesD P f args x.e.w v) :
    Calls P f args x.e.w fun e w'' => e = .returned v ∧ ∃ y : ExtD w, w'' = y.e.w :=
  h.mono fun _ _ ⟨he, y, hy⟩ => ⟨he, by obtain ⟨z, hz⟩ := mkD (Up.ext x.e.up y.e) (Nat.le_trans x.d y.d); exact ⟨z, hy.trans hz⟩⟩
theorem GivesD.of_same {P : Program} {f : FuncId} {args : Array Value} {w : World} {v : Value} (h : Calls P f args w fun e w' => e = .returned v ∧ w' = w) : GivesD P f args w v :=
  h.mono fun _ _ ⟨he, hw⟩ => ⟨he, by obtain ⟨z, hz⟩ := mkD (Up.refl w) (Nat.le_refl _); exact ⟨z, hw.trans hz⟩⟩
theorem GivesD.cast {P : Program} {f : FuncId} {args : Array Value} {w : World} {u v : Value} (h : GivesD P f args w u) (e : u = v) : GivesD P f args w v := e ▸ h
theorem wp_region_extD {P : Program} {id : Nat} {Q : Exit → Act → World → Prop} {a : Act} {w : World} {l : List Oper} (hm : P.follows .mixedOrders = true) (hB : Region.lexB .any l.toArray = true)
    (h : wpQuiet P l.toArray (fun w' => ∃ x : ExtD w, w' = x.e.w) (fun a' => ∀ w', (∃ x : ExtD w, w' = x.e.w) → Q .normal a' w') l a) : (Code.region id l.toArray true).wp P Q a w :=
  wp_region_quiet (C := fun w' => ∃ x : ExtD w, w' = x.e.w) hm hB (mkD ((Up.refl _).drew) (Nat.le_succ _)) (by simpa using h)
theorem ExtD.grow {w : World} (x : ExtD w) : ∃ q os, x.e.w = Sort.grow (w.drewN q) os := by
  have u := x.e.up
  refine ⟨x.e.w.drawn - w.drawn, x.e.w.heap.extract w.heap.size x.e.w.heap.size, ?_⟩
  have hd := x.d
  have h1 : x.e.w.heap = w.heap ++ x.e.w.heap.extract w.heap.size x.e.w.heap.size := by
    apply Array.ext_getElem?
    intro i
    have hsz := u.size
    by_cases hi : i < w.heap.size
    · rw [Array.getElem?_append_left hi]; exact u.block i hi
    · rw [Array.getElem?_append_right (by omega), Array.getElem?_extract]
      by_cases h2 : i < x.e.w.heap.size
      · rw [if_pos (by omega)]; congr 1; omega
      · rw [if_neg (by omega), Array.getElem?_eq_none (by omega)]
  have ht := u.tape; have ho := u.os; have hp := u.output
  unfold Sort.grow World.drewN
  generalize x.e.w = W at *
  cases W
  simp only at h1 ht ho hp hd ⊢
  subst ht ho hp
  rw [World.mk.injEq]
  exact ⟨h1, rfl, by omega, rfl, rfl⟩
end Go.Ab
namespace Go.Proofs.YtgfkcbflnkpogaaGreatDoor
open Go.RowKit Go.Ab
set_option maxHeartbeats 400000 in
theorem cmpU32_anyD (x y : Int) (w : World) : GivesD Tryz.prog 54 #[.int .u32 x, .int .u32 y] w (.int .i64 (cmpI x y)) := by
  refine GivesD.of_same ?_
  by_cases h : x < y
  · go_enter Tryz.func54, Tryz.ntmps54
    go_wp2
    go_ret
    exact ⟨ret_int (by unfold cmpI; rw [if_pos h]), rfl⟩
  · by_cases h2 : y < x
    · go_enter Tryz.func54, Tryz.ntmps54
      go_wp2
      go_ret
      exact ⟨ret_int (by unfold cmpI; rw [if_neg (by omega), if_pos h2]), rfl⟩
    · go_enter Tryz.func54, Tryz.ntmps54
      go_wp2
      go_ret
      exact ⟨ret_int (by unfold cmpI; rw [if_neg (by omega), if_neg (by omega)]), rfl⟩


def spCmp (x y : Sp) : Int := cmpI x.1 y.1
set_option maxHeartbeats 4000000 in
set_option maxRecDepth 100000 in
theorem of1_any (x y : Sp) (w : World) : GivesD Tryz.prog 53 #[.agg (spCells x).toArray, .agg (spCells y).toArray] w (.int .i64 (spCmp x y)) := by
  have hc := fun W => cmpU32_anyD x.1 y.1 W
  unfold GivesD
  unfold spCells spCmp
  go_enter Tryz.func53, Tryz.ntmps53
  go_wp2_with (go_at_call 54; refine (hc _).mono ?_; rintro e w' ⟨rfl, z, rfl⟩)
  go_ret
  exact ⟨rfl, mkD (by repeat (with_reducible first | exact Up.refl _ | refine Up.ext ?_ _ | refine Up.drew ?_ | refine Up.alloc ?_ _ | refine Up.setCell ?_ (by simp) _)) z.d⟩
theorem spCmpLays (blk off size : Nat) (w : World) : CmpLays Tryz.prog 53 #[] spCells 2 spCmp blk off size w :=
  fun _ _ _ _ x y => (of1_any x y _).mono fun _ _ ⟨he, z, hz⟩ => ⟨he, by obtain ⟨q, os, h⟩ := z.grow; exact ⟨q, os, hz.trans h⟩⟩
theorem spCmp_neg (x y : Sp) : spCmp x y < 0 ↔ x.1 < y.1 := by unfold spCmp cmpI; split <;> (try split) <;> omega
theorem swoSp : Sort.SWO (ltOf spCmp) where
  irrefl x := by unfold ltOf; simp [spCmp_neg]
  trans x y z h1 h2 := by unfold ltOf at *; simp only [decide_eq_true_eq, spCmp_neg] at *; omega
  ntrans x y z h1 h2 := by unfold ltOf at *; simp only [decide_eq_false_iff_not, spCmp_neg] at *; omega
end Go.Proofs.YtgfkcbflnkpogaaGreatDoor
namespace Go.Ab
open Go.RowKit Go.Proofs Go.Proofs.YtgfkcbflnkpogaaGreatDoor
theorem flatK_toList (d : Array Sp) : (Sort.flatK spCells 2 d).toList = d.toList.flatMap spCells := by
  apply List.ext_getElem?
  intro t
  by_cases ht : t < d.size * 2
  · have hq : t / 2 < d.size := by omega
    have h1 : (Sort.flatK spCells 2 d)[t]? = some (spCells d[t / 2]!)[t % 2]! := by
      rw [Array.getElem?_eq_getElem (by rw [Sort.size_flatK]; exact ht)]
      have := Sort.get_flatK spCells 2 d t ht
      rw [getElem!_pos (Sort.flatK spCells 2 d) t (by rw [Sort.size_flatK]; exact ht)] at this
      rw [this]
    have h2 : d.toList[t / 2]? = some d[t / 2]! := by
      rw [getElem!_pos d _ hq]; simp [hq]
    have h3 : (spCells d[t / 2]!)[t % 2]? = some (spCells d[t / 2]!)[t % 2]! := by
      have : t % 2 < (spCells d[t / 2]!).length := by rw [spCells_length]; omega
      rw [getElem!_pos (spCells d[t / 2]!) (t % 2) this]; exact List.getElem?_eq_getElem this
    have h4 := flat_at (cells := spCells) (k := 2) spCells_length d.toList (t / 2) (t % 2) _ _ h2 h3
    rw [show t / 2 * 2 + t % 2 = t by omega] at h4
    rw [h4, Array.getElem?_toList, h1]
  · rw [List.getElem?_eq_none (by simp; omega), List.getElem?_eq_none (by rw [flat_length spCells_length]; simp; omega)]
theorem holds_of_owns {w : World} {base : Nat} {e : TypeId} {g n cap : Nat} {d : Array Sp} (hd : d.size = n) (h : w.ownsRow base e 2 (.slice (some ⟨g, 0, none⟩) n cap) n (d.toList.flatMap spCells)) : Sort.HoldsK spCells 2 w g 0 d := by
  obtain ⟨hl, ⟨h0, _⟩ | ⟨g', cap', cur, hv, hb, hg, h1, h2, h3, h4⟩⟩ := h
  · cases h0
  · simp only [Value.slice.injEq, Option.some.injEq, Addr.mk.injEq, and_true] at hv
    obtain ⟨rfl, _, rfl⟩ := hv
    intro j hj
    rw [Sort.size_flatK, hd] at hj
    rw [Nat.zero_add, cell_of_row w g j _ _ _ hg, frozen_of_row w g j _ _ hg]
    refine ⟨?_, rfl⟩
    have h5 : cur.toList[j]? = (d.toList.flatMap spCells)[j]? := by rw [← h4, List.getElem?_take, if_pos hj]
    rw [← Array.getElem?_toList, h5, ← flatK_toList, Array.getElem?_toList]
    rw [Array.getElem?_eq_getElem (by rw [Sort.size_flatK, hd]; exact hj), getElem!_pos _ j (by rw [Sort.size_flatK, hd]; exact hj)]
    rfl
theorem owns_sorted {w : World} {base : Nat} {e : TypeId} {g n cap q : Nat} {xs : List Value} {d : Array Sp} {os : Array Obj} (hd : d.size = n) (h : w.ownsRow base e 2 (.slice (some ⟨g, 0, none⟩) n cap) n xs) :
    (sortWorldK spCells 2 w g 0 q d os).ownsRow base e 2 (.slice (some ⟨g, 0, none⟩) n cap) n (d.toList.flatMap spCells) := by
  obtain ⟨hl, ⟨h0, _⟩ | ⟨g', cap', cur, hv, hb, hg, h1, h2, h3, h4⟩⟩ := h
  · cases h0
  · simp only [Value.slice.injEq, Option.some.injEq, Addr.mk.injEq, and_true] at hv
    obtain ⟨rfl, _, rfl⟩ := hv
    have hlt : g < w.heap.size := (Array.getElem?_eq_some_iff.1 hg).1
    refine ⟨by rw [flat_length spCells_length]; simp [hd], .inr ⟨g, cap, Sort.putCells id 0 (Sort.flatK spCells 2 d) cur, rfl, hb, ?_, h1, h2, by simp [Sort.putCells, h3], ?_⟩⟩
    · unfold sortWorldK Sort.grow Sort.putRowK Sort.putRow Sort.mapBlock
      simp only [Sort.ahead]
      rw [Array.getElem?_append_left (by simp; exact hlt), Array.getElem?_modify, if_pos rfl, hg]
      rfl
    · rw [← flatK_toList]
      apply List.ext_getElem?
      intro j
      have hs : (Sort.flatK spCells 2 d).size = n * 2 := by rw [Sort.size_flatK, hd]
      have hle : n * 2 ≤ cur.size := by rw [h3]; exact Nat.mul_le_mul_right 2 h1
      by_cases hj : j < n * 2
      · rw [List.getElem?_take, if_pos hj, Array.getElem?_toList, Array.getElem?_toList]
        unfold Sort.putCells
        rw [Array.getElem?_mapIdx, Array.getElem?_eq_getElem (show j < cur.size by omega)]
        simp only [Option.map_some]
        rw [if_pos ⟨Nat.zero_le _, by rw [hs]; omega⟩, Nat.sub_zero, getElem!_pos _ j (by rw [hs]; exact hj), Array.getElem?_eq_getElem (by rw [hs]; exact hj)]
        rfl
      · rw [List.getElem?_eq_none (by rw [List.length_take]; omega), List.getElem?_eq_none (by simp [hd]; omega)]
end Go.Ab
namespace Go.Proofs.YtgfkcbflnkpogaaGreatDoor
open Go.RowKit Go.Ab
theorem spsort_any (base : Nat) (d : List Sp) (v : Value) (w w0 : World) (hown : w.ownsRow base 39 2 v d.length (d.flatMap spCells)) (hl : d.length ≤ 1000000000) (hu : Up w0 w) (hbase : w0.heap.size ≤ base) :
    Calls Tryz.prog 52 #[v, .func (.func 53) #[] #[]] w fun e w' => e = .returned (.tuple #[]) ∧ ∃ L' : List Sp, L'.Perm d ∧ L'.Pairwise (fun a b => a.1 ≤ b.1) ∧ w'.ownsRow base 39 2 v L'.length (L'.flatMap spCells) ∧ ∃ x : Ext w0, w' = x.w := by
  by_cases h0 : d.length = 0
  · obtain rfl := List.length_eq_zero_iff.1 h0
    obtain ⟨p, c, rfl⟩ := owns_sliceN hown
    have h := AnyF.slices_SortFunc_none Tryz.sortL p c (.func (.func 53) #[] #[]) w
    change Calls Tryz.prog 52 _ _ _ at h
    exact h.mono fun e w' ⟨he, hw⟩ => ⟨he, [], .refl _, .nil, by subst hw; exact hown, by subst hw; exact hu.mk⟩
  · have hv : ∃ g c, v = .slice (some ⟨g, 0, none⟩) d.length c ∧ base ≤ g ∧ g < w.heap.size := by
      rcases owns_sliceS hown with ⟨_, h1⟩ | ⟨g, cap, h1, h2, h3⟩
      · exact absurd h1 h0
      · exact ⟨g, cap, h1, h2, h3⟩
    obtain ⟨g, c, rfl, hg, hgw⟩ := hv
    have eg : ∀ args w, (callFunc 53 args).run Tryz.prog w = .ok (.enter 53 args) w := enters_of Tryz.func53 (by kernel_rfl) rfl
    have h := AnyQ.slices_SortFunc Tryz.sortL 2 Tryz.isAgg39 Tryz.sizeOf39 spCells spCells_length (fun x v hv => sp_one x v hv) spCmp swoSp 53 #[] g 0 c d.toArray w eg (spCmpLays g 0 _ w) (holds_of_owns (n := d.length) (by simp) (by simpa using hown)) hgw (by simp; omega)
    change Calls Tryz.prog 52 _ _ _ at h
    rw [List.size_toArray] at h
    refine h.mono fun e w' ⟨he, d', n, os, hp, hs, hw⟩ => ⟨he, d'.toList, ?_, ?_, ?_, ?_⟩
    · have h3 := hp.2.2
      have hsz : d'.size = d.length := hp.1
      have e1 : (d'.extract 0 d.length).toList = d'.toList := by rw [← hsz]; simp
      have e2 : (d.toArray.extract 0 d.length).toList = d := by simp
      rw [e1, e2] at h3
      exact h3
    · rw [List.pairwise_iff_getElem]
      intro i j hi hj hij
      have hsz : d'.size = d.length := hp.1
      have hi' : i < d'.size := by simpa using hi
      have hj' : j < d'.size := by simpa using hj
      have := hs i j (Nat.zero_le _) hij (show j < d.length by omega)
      rw [getElem!_pos d' j hj', getElem!_pos d' i hi'] at this
      unfold ltOf at this
      simp only [decide_eq_false_iff_not, spCmp_neg] at this
      simp only [Array.getElem_toList]
      omega
    · subst hw
      have hsz : d'.size = d.length := hp.1
      have := owns_sorted (d := d') (q := n) (os := os) hsz hown
      rw [show d'.toList.length = d.length by simp [hsz]]
      exact this
    · subst hw
      exact (up_grow (up_putRow (enc := id) hu (by omega)) os).mk
theorem eq_nilSp (w : World) (a : Option Addr) (n c : Nat) : (binOp .eql 24 (.slice a n c) (.slice none 0 0)).run Tryz.prog w = .ok (.bool a.isNone) w := by
  show (do pure (.bool (← Op.equal 24 (.slice a n c) (.slice none 0 0))) : Sem Value).run Tryz.prog w = _
  simp [run_equal_slice_nil w 24 39 a n c Tryz.underlying24]
attribute [local go_sem high] eq_nilSp
theorem sp_cells {w : World} {p : Addr} {n cap : Nat} {L : List Sp} (h : SpRow w (.slice (some p) n cap) L) (j : Nat) (u : Value) (hu : (L.flatMap spCells)[j]? = some u) : w.cell? (p.add j) = some u := by
  obtain ⟨p', cap', hv, _, hc⟩ := h
  simp only [Value.slice.injEq] at hv
  obtain ⟨rfl, rfl, rfl⟩ := hv
  have hj : j < L.length * 2 := by rw [← flat_length (cells := spCells) (k := 2) (fun x => rfl) L]; exact (List.getElem?_eq_some_iff.1 hu).1
  obtain ⟨x, hx⟩ : ∃ x, L[j / 2]? = some x := ⟨_, List.getElem?_eq_getElem (by omega)⟩
  obtain ⟨b, o, hp, _, hcc⟩ := hc (j / 2) x hx
  obtain ⟨v, hv⟩ : ∃ v, (spCells x)[j % 2]? = some v := ⟨_, List.getElem?_eq_getElem (by rw [spCells_length]; omega)⟩
  have h1 := flat_at (cells := spCells) (k := 2) (fun x => rfl) L (j / 2) (j % 2) x v hx hv
  rw [show j / 2 * 2 + j % 2 = j by omega, hu] at h1
  cases h1
  have := hcc (j % 2) u hv
  rw [Option.some.inj hp, show (Addr.add ⟨b, o, none⟩ j) = (⟨b, o + j, none⟩ : Addr) by cases j <;> simp [Addr.add]]
  rw [show o + j / 2 * 2 + j % 2 = o + j by omega] at this
  exact this
theorem sp_flat_one (L : List Sp) (u : Value) (h : u ∈ L.flatMap spCells) : u.oneCell' = true := by
  obtain ⟨x, _, hx⟩ := List.mem_flatMap.1 h
  exact sp_one x u hx
set_option maxHeartbeats 8000000 in
set_option maxRecDepth 100000 in
theorem spclone_any (L : List Sp) (v : Value) (w : World) (hv : SpRow w v L) (hl : L.length ≤ 1000000000) :
    Calls Tryz.prog 51 #[v] w fun e w' => ∃ u, e = .returned u ∧ w'.ownsRow w.heap.size 39 2 u L.length (L.flatMap spCells) ∧ ∃ x : Ext w, w' = x.w := by
  have hrow := hv
  obtain ⟨p, cap, rfl, hle, hc⟩ := hv
  cases p with
  | none =>
    have h0 : L = [] := by
      cases L with
      | nil => rfl
      | cons x t => obtain ⟨b, o, h, _⟩ := hc 0 x rfl; cases h
    subst h0
    go_enter Tryz.func51, Tryz.ntmps51
    go_wp2_with fail
    go_ret
    exact ⟨_, rfl, World.ownsRow_nil _ _ _ _, mkI⟩
  | some p =>
    obtain ⟨N, hN⟩ : ∃ N, L.length = N := ⟨_, rfl⟩
    have hlen : (L.flatMap spCells).length = N * 2 := by rw [flat_length (cells := spCells) (k := 2) (fun y => rfl), hN]
    rw [hN] at hrow hle hl ⊢
    have hcell := fun j u h => sp_cells hrow j u h
    have h1 := sp_flat_one L
    obtain ⟨i0, hi, hy0, hy1, hy2⟩ := info_parts infoSpan
    have Hi := Lib.hid hi; have Hy0 := Lib.hid hy0; have Hy1 := Lib.hid hy1; have Hy2 := Lib.hid hy2
    clear hi hy0 hy1 hy2 hc hrow hN
    generalize L.flatMap spCells = news at *
    have Hcell := Lib.hid hcell
    clear hcell
    go_enter Tryz.func51, Tryz.ntmps51
    go_wp2_with (first
      | (at_builtin; refine wpList_append_own _ rfl _ _ 24 rfl w.heap.size 39 i0 (.agg #[.int .u32 0, .int .u32 0]) 2 8 Tryz.underlying24 Hi.out Hy0.out Hy1.out Hy2.out rfl (by decide) _ 0 [] rfl (World.ownsRow_made w #[] 0 (Nat.le_refl _) (by decide) (by simp)) p N _ news rfl hlen (fun j u h => (Up.cell_some ((Up.refl w).alloc _) (Hcell.out j u h))) h1 (by unfold maxLen; omega) (by omega) (by simp) ?_; intro v' w1 hown' hgrow _))
    go_ret
    rw [Nat.zero_add, List.nil_append] at hown'
    exact ⟨_, rfl, hown', (Up.grown ((Up.refl w).alloc _) hgrow (fun k hk => by cases hk; exact Nat.le_refl _)).mk⟩
end Go.Proofs.YtgfkcbflnkpogaaGreatDoor
