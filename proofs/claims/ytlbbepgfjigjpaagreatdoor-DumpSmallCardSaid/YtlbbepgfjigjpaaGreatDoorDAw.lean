/- The package is awake. -/
import Derived.Test.YtlbbepgfjigjpaaGreatDoorDEx
import Derived.Test.YtlbbepgfjigjpaaGreatDoorDR
import Derived.Test.YtlbbepgfjigjpaaGreatDoorRel
import Derived.Deep.MidRow
namespace Go.Ab
open Go.RowKit Go.Proofs.YtlbbepgfjigjpaaGreatDoor
def ChRow (w : World) (v : Value) (l : List Ch) : Prop := RowOf Ch.cells 23 w v l
theorem ChRow.of_owns {w : World} {base : Nat} {t : TypeId} {v : Value} {l : List Ch} (h : w.ownsRow base t 23 v l.length (l.flatMap Ch.cells)) : ChRow w v l := RowOf.of_owns (cells := Ch.cells) (fun x => x.cells_length) h
theorem LnRow.cell {w : World} {p n c : Nat} {l : List Ln} (h : LnRow w (.slice (some ⟨p, 0, none⟩) n c) l) (i : Nat) (e : Ln) (he : l[i]? = some e) : p < w.heap.size ∧ ∀ j u, e.cells[j]? = some u → w.cell? ⟨p, 0 + i * 11 + j, none⟩ = some u := by
  obtain ⟨p', cap', hv, hle, hc⟩ := h
  simp only [Value.slice.injEq] at hv
  obtain ⟨rfl, rfl, rfl⟩ := hv
  obtain ⟨b, o, hp, hb, h⟩ := hc i e he
  simp only [Option.some.injEq, Addr.mk.injEq, and_true] at hp
  obtain ⟨rfl, rfl⟩ := hp
  exact ⟨hb, h⟩
theorem ChRow.cell {w : World} {p n c : Nat} {l : List Ch} (h : ChRow w (.slice (some ⟨p, 0, none⟩) n c) l) (i : Nat) (e : Ch) (he : l[i]? = some e) : p < w.heap.size ∧ ∀ j u, e.cells[j]? = some u → w.cell? ⟨p, 0 + i * 23 + j, none⟩ = some u := by
  obtain ⟨p', cap', hv, hle, hc⟩ := h
  simp only [Value.slice.injEq] at hv
  obtain ⟨rfl, rfl, rfl⟩ := hv
  obtain ⟨b, o, hp, hb, h⟩ := hc i e he
  simp only [Option.some.injEq, Addr.mk.injEq, and_true] at hp
  obtain ⟨rfl, rfl⟩ := hp
  exact ⟨hb, h⟩
theorem wp_newrow {P : Program} {c : Code} {Q : Exit → Act → World → Prop} {a : Act} {w1 W : World} {cs : Array Value} {t : TypeId} [h : UpI w1 W]
    (k : ∀ w2, UpI w1 w2 → (∀ i, w2.cell? ⟨W.heap.size, i, none⟩ = cs[i]?) → LtSize W.heap.size w2 → c.wp P Q a w2) : c.wp P Q a (W.alloc (.cells cs t)) :=
  k _ inferInstance (fun i => World.cell?_alloc_at cs t _ i rfl) ⟨by rw [World.size_alloc]; omega⟩
theorem ex_lt : ∀ s ∈ [exTa, exTb], s.length ≤ 1000000000 := by
  intro x hx
  rcases List.mem_cons.1 hx with rfl | hx
  · decide
  · obtain rfl := List.mem_singleton.1 hx; decide
end Go.Ab
namespace Go.Proofs.YtlbbepgfjigjpaaGreatDoor
open Go.RowKit Go.Ab
theorem dtexts_ex (v : Value) (w : World) (g : GoodD w) (hv : LnRow w v [exA, exB]) : Calls Tryz.prog 25 #[v] w fun e w' => ∃ p c, e = .returned (.tuple #[.slice (some ⟨p, 0, none⟩) 2 c, .int .i64 0]) ∧ StrRow w' (.slice (some ⟨p, 0, none⟩) 2 c) [exTa, exTb] ∧ ∃ x : Ext w, w' = x.w :=
  (dtexts_yes _ _ _ g hv ex_bd (by decide) ex_ordered).mono fun e w' ⟨u, he, ho, hx⟩ => by
    obtain ⟨p, c, rfl, _⟩ := owns_slice (n := 1) ho
    exact ⟨p, c, he, StrRow.of_owns (by rw [← ex_ta, ← ex_tb]; exact ho), hx⟩
theorem dreads_ex (v : Value) (w : World) (g : GoodD w) (hv : StrRow w v [exTa, exTb]) : Calls Tryz.prog 26 #[v] w fun e w' => ∃ p c, e = .returned (.tuple #[.slice (some ⟨p, 0, none⟩) 2 c, .int .i64 (-1), .int .i64 0]) ∧ LnRow w' (.slice (some ⟨p, 0, none⟩) 2 c) [exA, exB] ∧ ∃ x : Ext w, w' = x.w :=
  (dreads_any _ _ _ g hv ex_lt (by decide)).mono fun e w' ⟨he, hx⟩ => by
    rw [ex_reads] at he
    obtain ⟨u, he, ho⟩ := he
    obtain ⟨p, c, rfl, _⟩ := owns_slice (n := 1) ho
    exact ⟨p, c, he, LnRow.of_owns ho, hx⟩
theorem ddiff_ex (v u : Value) (w : World) (hv : LnRow w v [exA]) (hu : LnRow w u [exA, exB]) : Calls Tryz.prog 8 #[v, u] w fun e w' => ∃ p c, e = .returned (.tuple #[.slice (some ⟨p, 0, none⟩) 1 c, .int .i64 0]) ∧ ChRow w' (.slice (some ⟨p, 0, none⟩) 1 c) [⟨1, Ln.zero, exB⟩] ∧ ∃ x : Ext w, w' = x.w :=
  (ddiff_yes _ _ _ _ _ hv hu (fun x hx => by obtain rfl := List.mem_singleton.1 hx; exact exA_b) ex_bd (by decide) (by decide) ex_ordered1 ex_ordered).mono fun e w' ⟨u, he, ho, hx⟩ => by
    rw [ex_diff] at ho
    obtain ⟨p, c, rfl, _⟩ := owns_slice (n := 0) ho
    exact ⟨p, c, he, ChRow.of_owns ho, hx⟩
theorem dcounts_ex (w : World) (g : GoodD w) : Calls Tryz.prog 11 #[.agg (exC.map (Value.int .i64)).toArray] w fun e w' => ∃ p c, e = .returned (.tuple #[.slice (some ⟨p, 0, none⟩) 2 c, .int .i64 0]) ∧ StrRow w' (.slice (some ⟨p, 0, none⟩) 2 c) [[116, 116, 108, 32, 49], [102, 108, 111, 119, 32, 51]] ∧ ∃ x : Ext w, w' = x.w :=
  (dcounts_any exC w g rfl (by decide)).mono fun e w' ⟨he, hx⟩ => by
    unfold countsE at he
    rw [ex_countsB, ex_counts] at he
    obtain ⟨u, he, ho⟩ := he
    obtain ⟨p, c, rfl, _⟩ := owns_slice (n := 1) ho
    exact ⟨p, c, he, StrRow.of_owns ho, hx⟩
theorem dread_no (l : List UInt8) (w : World) (g : GoodD w) (hs : l.length ≤ 1000000000) (h : readLn l = none) : Gives Tryz.prog 16 #[.string ⟨l.toArray⟩] w (.tuple #[.agg #[.int .u8 0, .int .u32 0, .int .u32 0, .int .u16 0, .int .u16 0, .int .u8 0, .int .u8 0, .bool false, .bool false, .int .i64 0, .int .i64 0], .int .i64 382]) := (dread_any l w g hs).cast (by unfold dreadV; rw [h]; rfl)
theorem chSize : (Tryz.prog.info? 44).map (·.size) = some 23 := by kernel_rfl
theorem rel_load {P : Program} {o : Oper} {Y : Nat → Option Bool} {F : Act} {W : World} {Q : Exit → Act → World → Prop} {S : Value → World → Prop} {E : Prop} (hw : Region.wanted o Y = true) (ty : TypeId) (x : Operand) (ho : o.op = .load ty x)
    (b k : Nat) (hx : F.eval x = .pointer (some ⟨b, k, none⟩)) (cs : List Value) (d : TypeDesc) (hc : W.rangeAt b k cs) (hu : P.underlying ty = some d) (hd : d.isRow = true) (hi : (P.info? ty).map (·.size) = some cs.length) (hv : S (.agg cs.toArray) W) :
    if Region.wanted o Y = true then o.wp P F W (fun a' W'' => ∃ v, a' = F.put o.dst v ∧ Up W W'' ∧ S v W'') Q else E := by
  rw [if_pos hw]
  exact wp_load_mid ty x ho b k hx cs d hc hu hd hi ⟨_, rfl, Up.refl _, hv⟩
theorem new_row (w : World) (t : TypeId) : StrRow (w.alloc (.cells #[.string ⟨#[116, 116, 108, 32, 49]⟩, .string ⟨#[102, 108, 111, 119, 32, 51]⟩] t)) (.slice (some ⟨w.heap.size, 0, none⟩) 2 2) [[116, 116, 108, 32, 49], [102, 108, 111, 119, 32, 51]] :=
  RowOf.of_block (cells := fun x : List UInt8 => [Value.string ⟨x.toArray⟩]) (t := t) (fz := (0, 0)) (fun _ => rfl) (l := [[116, 116, 108, 32, 49], [102, 108, 111, 119, 32, 51]]) (alloc_new rfl) (Nat.le_refl _)
theorem same_row (w : World) (u v : Value) (l : List (List UInt8)) (h : StrRow w u l) (h2 : StrRow w v l) (hl : l.length ≤ 1000000 := by decide) : Gives Tryz.prog 41 #[u, v] w (.bool true) :=
  (sametexts_any l l _ _ _ h h2 hl hl).cast (by rw [beq_self_eq_true])
attribute [local go_sem high] eq_line eq_change
set_option maxHeartbeats 32000000 in
set_option maxRecDepth 100000 in
theorem dawake_any (w : World) (g : GoodD w) : Gives Tryz.prog 14 #[] w (.bool true) := by
  have hm : Tryz.prog.follows .mixedOrders = true := by kernel_rfl
  unfold Gives
  go_enter Tryz.func14, Tryz.ntmps14
  go_wp2_with (first
    | (go_at_call 4; refine (dexamples_any _).mono ?_; rintro e w' ⟨p, q, rfl, hL, hS, xe, rfl⟩)
    | (go_at_call 25; refine (dtexts_ex _ _ (g.up upI) (hL.up upI)).mono ?_; rintro e w' ⟨p1, d1, rfl, hT, xt, rfl⟩)
    | (go_at_call 26; refine (dreads_ex _ _ (g.up upI) (hS.up upI)).mono ?_; rintro e w' ⟨p2, d2, rfl, hB, xr, rfl⟩))
  have hL2 : LnRow xr.w _ _ := hL.up upI
  have hS2 : StrRow xr.w _ _ := hS.up upI
  have hT2 : StrRow xr.w _ _ := hT.up upI
  have g2 : GoodD xr.w := g.up upI
  have u2 : UpI w xr.w := inferInstance
  clear hL hS hT g
  generalize xr.w = W at *
  have l0 : W.cell? ⟨p, 0, none⟩ = some (.int .u8 6) := (hL2.cell 0 exA rfl).2 0 _ rfl
  have l1 : W.cell? ⟨p, 1, none⟩ = some (.int .u32 167772161) := (hL2.cell 0 exA rfl).2 1 _ rfl
  have l2 : W.cell? ⟨p, 2, none⟩ = some (.int .u32 134744072) := (hL2.cell 0 exA rfl).2 2 _ rfl
  have l3 : W.cell? ⟨p, 3, none⟩ = some (.int .u16 40000) := (hL2.cell 0 exA rfl).2 3 _ rfl
  have l4 : W.cell? ⟨p, 4, none⟩ = some (.int .u16 80) := (hL2.cell 0 exA rfl).2 4 _ rfl
  have l5 : W.cell? ⟨p, 5, none⟩ = some (.int .u8 0) := (hL2.cell 0 exA rfl).2 5 _ rfl
  have l6 : W.cell? ⟨p, 6, none⟩ = some (.int .u8 1) := (hL2.cell 0 exA rfl).2 6 _ rfl
  have l7 : W.cell? ⟨p, 7, none⟩ = some (.bool true) := (hL2.cell 0 exA rfl).2 7 _ rfl
  have l8 : W.cell? ⟨p, 8, none⟩ = some (.bool true) := (hL2.cell 0 exA rfl).2 8 _ rfl
  have l9 : W.cell? ⟨p, 9, none⟩ = some (.int .i64 500) := (hL2.cell 0 exA rfl).2 9 _ rfl
  have l10 : W.cell? ⟨p, 10, none⟩ = some (.int .i64 7) := (hL2.cell 0 exA rfl).2 10 _ rfl
  have l11 : W.cell? ⟨p, 11, none⟩ = some (.int .u8 17) := (hL2.cell 1 exB rfl).2 0 _ rfl
  have l12 : W.cell? ⟨p, 12, none⟩ = some (.int .u32 167772161) := (hL2.cell 1 exB rfl).2 1 _ rfl
  have l13 : W.cell? ⟨p, 13, none⟩ = some (.int .u32 134744072) := (hL2.cell 1 exB rfl).2 2 _ rfl
  have l14 : W.cell? ⟨p, 14, none⟩ = some (.int .u16 53) := (hL2.cell 1 exB rfl).2 3 _ rfl
  have l15 : W.cell? ⟨p, 15, none⟩ = some (.int .u16 53) := (hL2.cell 1 exB rfl).2 4 _ rfl
  have l16 : W.cell? ⟨p, 16, none⟩ = some (.int .u8 1) := (hL2.cell 1 exB rfl).2 5 _ rfl
  have l17 : W.cell? ⟨p, 17, none⟩ = some (.int .u8 5) := (hL2.cell 1 exB rfl).2 6 _ rfl
  have l18 : W.cell? ⟨p, 18, none⟩ = some (.bool false) := (hL2.cell 1 exB rfl).2 7 _ rfl
  have l19 : W.cell? ⟨p, 19, none⟩ = some (.bool false) := (hL2.cell 1 exB rfl).2 8 _ rfl
  have l20 : W.cell? ⟨p, 20, none⟩ = some (.int .i64 30) := (hL2.cell 1 exB rfl).2 9 _ rfl
  have l21 : W.cell? ⟨p, 21, none⟩ = some (.int .i64 1) := (hL2.cell 1 exB rfl).2 10 _ rfl
  have k0 : W.cell? ⟨p2, 0, none⟩ = some (.int .u8 6) := (hB.cell 0 exA rfl).2 0 _ rfl
  have k1 : W.cell? ⟨p2, 1, none⟩ = some (.int .u32 167772161) := (hB.cell 0 exA rfl).2 1 _ rfl
  have k2 : W.cell? ⟨p2, 2, none⟩ = some (.int .u32 134744072) := (hB.cell 0 exA rfl).2 2 _ rfl
  have k3 : W.cell? ⟨p2, 3, none⟩ = some (.int .u16 40000) := (hB.cell 0 exA rfl).2 3 _ rfl
  have k4 : W.cell? ⟨p2, 4, none⟩ = some (.int .u16 80) := (hB.cell 0 exA rfl).2 4 _ rfl
  have k5 : W.cell? ⟨p2, 5, none⟩ = some (.int .u8 0) := (hB.cell 0 exA rfl).2 5 _ rfl
  have k6 : W.cell? ⟨p2, 6, none⟩ = some (.int .u8 1) := (hB.cell 0 exA rfl).2 6 _ rfl
  have k7 : W.cell? ⟨p2, 7, none⟩ = some (.bool true) := (hB.cell 0 exA rfl).2 7 _ rfl
  have k8 : W.cell? ⟨p2, 8, none⟩ = some (.bool true) := (hB.cell 0 exA rfl).2 8 _ rfl
  have k9 : W.cell? ⟨p2, 9, none⟩ = some (.int .i64 500) := (hB.cell 0 exA rfl).2 9 _ rfl
  have k10 : W.cell? ⟨p2, 10, none⟩ = some (.int .i64 7) := (hB.cell 0 exA rfl).2 10 _ rfl
  have k11 : W.cell? ⟨p2, 11, none⟩ = some (.int .u8 17) := (hB.cell 1 exB rfl).2 0 _ rfl
  have k12 : W.cell? ⟨p2, 12, none⟩ = some (.int .u32 167772161) := (hB.cell 1 exB rfl).2 1 _ rfl
  have k13 : W.cell? ⟨p2, 13, none⟩ = some (.int .u32 134744072) := (hB.cell 1 exB rfl).2 2 _ rfl
  have k14 : W.cell? ⟨p2, 14, none⟩ = some (.int .u16 53) := (hB.cell 1 exB rfl).2 3 _ rfl
  have k15 : W.cell? ⟨p2, 15, none⟩ = some (.int .u16 53) := (hB.cell 1 exB rfl).2 4 _ rfl
  have k16 : W.cell? ⟨p2, 16, none⟩ = some (.int .u8 1) := (hB.cell 1 exB rfl).2 5 _ rfl
  have k17 : W.cell? ⟨p2, 17, none⟩ = some (.int .u8 5) := (hB.cell 1 exB rfl).2 6 _ rfl
  have k18 : W.cell? ⟨p2, 18, none⟩ = some (.bool false) := (hB.cell 1 exB rfl).2 7 _ rfl
  have k19 : W.cell? ⟨p2, 19, none⟩ = some (.bool false) := (hB.cell 1 exB rfl).2 8 _ rfl
  have k20 : W.cell? ⟨p2, 20, none⟩ = some (.int .i64 30) := (hB.cell 1 exB rfl).2 9 _ rfl
  have k21 : W.cell? ⟨p2, 21, none⟩ = some (.int .i64 1) := (hB.cell 1 exB rfl).2 10 _ rfl
  haveI : LtSize p W := ⟨(hL2.cell 0 exA rfl).1⟩
  haveI : LtSize p2 W := ⟨(hB.cell 0 exA rfl).1⟩
  have hs1 : ∀ W', UpI W W' → Gives Tryz.prog 41 #[.slice (some ⟨p1, 0, none⟩) 2 d1, .slice (some ⟨q, 0, none⟩) 2 2] W' (.bool true) := fun W' u => (sametexts_any [exTa, exTb] [exTa, exTb] _ _ W' (hT2.up u.up) (hS2.up u.up) (by decide) (by decide)).cast (by rw [beq_self_eq_true])
  (refine wp_region_ext (by kernel_rfl) (by kernel_rfl) ?_; (repeat (go_big_quiet_step ((go_at_call 41; exact (hs1 _ inferInstance).ext)))); refine wpQuiet_nil ?_; rintro _ ⟨y, rfl⟩)
  go_wp2_with fail
  refine wp_newrow (w1 := W) ?_
  intro w2 hu hc hl
  have c0 := (hc 0).trans (rfl : _ = some _)
  have c1 := (hc 1).trans (rfl : _ = some _)
  have c2 := (hc 2).trans (rfl : _ = some _)
  have g3 := g2.up hu.up
  have hL3 : LnRow w2 _ _ := hL2.up hu.up
  have hL1 : LnRow w2 (.slice (some ⟨p, 0, none⟩) 1 2) [exA] := RowOf.take (l := [exA, exB]) hL3 1 (by decide)
  haveI : UpI w w2 := ⟨u2.up.trans hu.up⟩
  haveI := hu
  clear hc hs1 hT2 hS2 hB hL2
  clear k0 k1 k2 k3 k4 k5 k6 k7 k8 k9 k10 k11 k12 k13 k14 k15 k16 k17 k18 k19 k20 k21 l0 l1 l2 l3 l4 l5 l6 l7 l8 l9 l10
  have l11 := hu.up.cell_some l11
  have l12 := hu.up.cell_some l12
  have l13 := hu.up.cell_some l13
  have l14 := hu.up.cell_some l14
  have l15 := hu.up.cell_some l15
  have l16 := hu.up.cell_some l16
  have l17 := hu.up.cell_some l17
  have l18 := hu.up.cell_some l18
  have l19 := hu.up.cell_some l19
  have l20 := hu.up.cell_some l20
  have l21 := hu.up.cell_some l21
  haveI : LtSize p w2 := LtSize.mk ((hL3.cell 0 exA rfl).1)
  go_loopw [70] (fun i wr => ∃ k : Nat, k ≤ 3 ∧ i = .int .i64 (k : Int) ∧ ∃ x : Ext w2, wr = x.w) (fun i _ => 3 - (intOf i).toNat)
  case atStart => exact ⟨0, by omega, rfl, mkI⟩
  case round =>
    obtain ⟨k, hk, rfl, x, rfl⟩ := hrel
    rcases (by omega : k = 0 ∨ k = 1 ∨ k = 2 ∨ k = 3) with rfl | rfl | rfl | rfl
    · go_wp2_with (go_at_call 16; refine (dread_no bad1 _ (g3.up upI) (by decide) bad1_none).mono ?_; rintro e w' ⟨rfl, z, rfl⟩)
      go_roundw
      case rel => exact ⟨1, by omega, by go_num, mkI⟩
      case measure => simp [intOf]
    · go_wp2_with (go_at_call 16; refine (dread_no bad2 _ (g3.up upI) (by decide) bad2_none).mono ?_; rintro e w' ⟨rfl, z, rfl⟩)
      go_roundw
      case rel => exact ⟨2, by omega, by go_num, mkI⟩
      case measure => simp [intOf]
    · go_wp2_with (go_at_call 16; refine (dread_no bad3 _ (g3.up upI) (by decide) bad3_none).mono ?_; rintro e w' ⟨rfl, z, rfl⟩)
      go_roundw
      case rel => exact ⟨3, by omega, by go_num, mkI⟩
      case measure => simp [intOf]
    · go_wp2_with (first
        | (go_at_call 8; refine (ddiff_ex _ _ _ (hL1.up upI) (hL3.up upI)).mono ?_; rintro e w' ⟨p3, d3, rfl, hC, z1, rfl⟩)
        | (go_at_call 11; refine (dcounts_ex _ (g3.up upI)).mono ?_; rintro e w' ⟨p4, d4, rfl, hN, z2, rfl⟩))
      have hC2 : ChRow z2.w _ _ := RowOf.up hC upI
      haveI : LtSize p3 z2.w := LtSize.mk ((hC2.cell 0 _ rfl).1)
      replace l11 := (upI : Up w2 z2.w).cell_some l11
      replace l12 := (upI : Up w2 z2.w).cell_some l12
      replace l13 := (upI : Up w2 z2.w).cell_some l13
      replace l14 := (upI : Up w2 z2.w).cell_some l14
      replace l15 := (upI : Up w2 z2.w).cell_some l15
      replace l16 := (upI : Up w2 z2.w).cell_some l16
      replace l17 := (upI : Up w2 z2.w).cell_some l17
      replace l18 := (upI : Up w2 z2.w).cell_some l18
      replace l19 := (upI : Up w2 z2.w).cell_some l19
      replace l20 := (upI : Up w2 z2.w).cell_some l20
      replace l21 := (upI : Up w2 z2.w).cell_some l21
      have g9 : GoodD z2.w := g3.up upI
      have u9 : UpI w z2.w := inferInstance
      have hs2 : ∀ (W : World), UpI z2.w W → StrRow W (.slice (some ⟨p4, 0, none⟩) 2 d4) [[116, 116, 108, 32, 49], [102, 108, 111, 119, 32, 51]] := fun W u => hN.up u.up
      haveI : LtSize p z2.w := inferInstance
      have hC9 : ∀ j u, (Ch.cells ⟨1, Ln.zero, exB⟩)[j]? = some u → z2.w.cell? ⟨p3, 0 + j, none⟩ = some u := fun j u hj => by have := (hC2.cell 0 _ rfl).2 j u hj; rwa [Nat.zero_mul, Nat.add_zero] at this
      clear hN hC hC2 hL3 hL1 c0 c1 c2 g3 g9
      generalize z2.w = W9 at *
      go_cut [0] (fun v0 wx => v0 = .bool true ∧ ∃ z : Ext W9, wx = z.w)
      case first =>
        refine wp_region_rel2 (relAt [isV (.int .i64 0),
          isV (.int .i64 0),
          isV (.int .i64 0),
          isV (.bool true),
          isV (.bool true),
          isV (.slice (some ⟨p3, 0, none⟩) 1 d3),
          isV (.int .i64 1),
          isV (.bool true),
          isV (.bool true),
          isV (.bool true),
          isV (.slice (some ⟨p3, 0, none⟩) 1 d3),
          isV (.pointer (some ⟨p3, 0, none⟩)),
          isV (.agg #[.int .u8 1, .int .u8 0, .int .u32 0, .int .u32 0, .int .u16 0, .int .u16 0, .int .u8 0, .int .u8 0, .bool false, .bool false, .int .i64 0, .int .i64 0, .int .u8 17, .int .u32 167772161, .int .u32 134744072, .int .u16 53, .int .u16 53, .int .u8 1, .int .u8 5, .bool false, .bool false, .int .i64 30, .int .i64 1]),
          isV (.slice (some ⟨p, 0, none⟩) 2 2),
          isV (.pointer (some ⟨p, 11, none⟩)),
          isV (.agg #[.int .u8 17, .int .u32 167772161, .int .u32 134744072, .int .u16 53, .int .u16 53, .int .u8 1, .int .u8 5, .bool false, .bool false, .int .i64 30, .int .i64 1]),
          isV (.agg #[.int .u8 1, .int .u8 0, .int .u32 0, .int .u32 0, .int .u16 0, .int .u16 0, .int .u8 0, .int .u8 0, .bool false, .bool false, .int .i64 0, .int .i64 0, .int .u8 17, .int .u32 167772161, .int .u32 134744072, .int .u16 53, .int .u16 53, .int .u8 1, .int .u8 5, .bool false, .bool false, .int .i64 30, .int .i64 1]),
          isV (.bool true),
          isV (.bool true),
          isV (.bool true),
          isV (.slice (some ⟨p4, 0, none⟩) 2 d4),
          (fun v W' => ∃ b : Nat, v = .slice (some ⟨b, 0, none⟩) 2 2 ∧ StrRow W' (.slice (some ⟨b, 0, none⟩) 2 2) [[116, 116, 108, 32, 49], [102, 108, 111, 119, 32, 51]]),
          isV (.bool true),
          isV (.bool true),
          isV (.bool true)]) [94, 95, 96, 97, 98, 99, 100, 101, 102, 103, 104, 105, 106, 107, 108, 109, 110, 111, 112, 113, 114, 115, 116, 117, 0] 118 (by kernel_rfl) (by kernel_rfl) (by kernel_rfl) rfl (relAt_mono ?hmono) ⟨?o0, ?o1, ?o2, ?o3, ?o4, ?o5, ?o6, ?o7, ?o8, ?o9, ?o10, ?o11, ?o12, ?o13, ?o14, ?o15, ?o16, ?o17, ?o18, ?o19, ?o20, ?o21, ?o22, ?o23, ?o24, trivial⟩ ?hend
        case hmono =>
          intro r hr v W1 W2 h1 hu
          simp only [List.mem_cons, List.not_mem_nil, or_false] at hr
          rcases hr with rfl | rfl | rfl | rfl | rfl | rfl | rfl | rfl | rfl | rfl | rfl | rfl | rfl | rfl | rfl | rfl | rfl | rfl | rfl | rfl | rfl | rfl | rfl | rfl | rfl
          all_goals first
            | exact h1
            | (obtain ⟨b, h1, h2⟩ := h1; exact ⟨b, h1, h2.up hu⟩)
        case o0 =>
          intro vs W' F Y E hu hd
          have s0 := E.eout 13 (.int .i64 0) rfl rfl
          exact rel_val (v := .int .i64 0) rfl (by simp [go_sem, s0]) (Up.refl _) rfl
        case o1 =>
          intro vs W' F Y E hu hd
          have s0 := E.eout 15 (.int .i64 0) rfl rfl
          exact rel_val (v := .int .i64 0) rfl (by simp [go_sem, s0]) (Up.refl _) rfl
        case o2 =>
          intro vs W' F Y E hu hd
          have d0 : vs 0 = .int .i64 0 := hd ⟨0, .data⟩ (by simp) rfl
          have t0 := E.ein 0 94 _ rfl (by decide) d0
          have d1 : vs 1 = .int .i64 0 := hd ⟨1, .data⟩ (by simp) rfl
          have t1 := E.ein 1 95 _ rfl (by decide) d1
          exact rel_val (v := .int .i64 0) rfl (by simp [go_sem, t0, t1]; decide) (Up.refl _) rfl
        case o3 =>
          intro vs W' F Y E hu hd
          have d2 : vs 2 = .int .i64 0 := hd ⟨2, .data⟩ (by simp) rfl
          have t2 := E.ein 2 96 _ rfl (by decide) d2
          exact rel_val (v := .bool true) rfl (by simp [go_sem, t2]) (Up.refl _) rfl
        case o4 =>
          intro vs W' F Y E hu hd
          have d3 : vs 3 = .bool true := hd ⟨3, .data⟩ (by simp) rfl
          have t3 := E.ein 3 97 _ rfl (by decide) d3
          exact rel_val (v := .bool true) rfl (by simp [go_sem, t3]) (Up.refl _) rfl
        case o5 =>
          intro vs W' F Y E hu hd
          have dg : vs 4 = .bool true := hd ⟨4, .guard⟩ (by simp) rfl
          have s0 := E.eout 12 (.slice (some ⟨p3, 0, none⟩) 1 d3) rfl rfl
          exact rel_val (v := .slice (some ⟨p3, 0, none⟩) 1 d3) (want_of 4 true rfl (E.yld 4 98 true rfl (by decide) dg)) (by simp [go_sem, s0]) (Up.refl _) rfl
        case o6 =>
          intro vs W' F Y E hu hd
          have dg : vs 4 = .bool true := hd ⟨4, .guard⟩ (by simp) rfl
          have d5 : vs 5 = .slice (some ⟨p3, 0, none⟩) 1 d3 := hd ⟨5, .data⟩ (by simp) rfl
          have t5 := E.ein 5 99 _ rfl (by decide) d5
          exact rel_val (v := .int .i64 1) (want_of 4 true rfl (E.yld 4 98 true rfl (by decide) dg)) (by simp [go_sem, t5]) (Up.refl _) rfl
        case o7 =>
          intro vs W' F Y E hu hd
          have dg : vs 4 = .bool true := hd ⟨4, .guard⟩ (by simp) rfl
          have d6 : vs 6 = .int .i64 1 := hd ⟨6, .data⟩ (by simp) rfl
          have t6 := E.ein 6 100 _ rfl (by decide) d6
          exact rel_val (v := .bool true) (want_of 4 true rfl (E.yld 4 98 true rfl (by decide) dg)) (by simp [go_sem, t6]) (Up.refl _) rfl
        case o8 =>
          intro vs W' F Y E hu hd
          have d4 : vs 4 = .bool true := hd ⟨4, .data⟩ (by simp) rfl
          have t4 := E.ein 4 98 _ rfl (by decide) d4
          have d7 : vs 7 = .bool true := hd ⟨7, .data⟩ (by simp) rfl
          have t7 := E.ein 7 101 _ rfl (by decide) d7
          exact rel_val (v := .bool true) rfl (by simp [go_sem, t4, t7]) (Up.refl _) rfl
        case o9 =>
          intro vs W' F Y E hu hd
          have d8 : vs 8 = .bool true := hd ⟨8, .data⟩ (by simp) rfl
          have t8 := E.ein 8 102 _ rfl (by decide) d8
          exact rel_val (v := .bool true) rfl (by simp [go_sem, t8]) (Up.refl _) rfl
        case o10 =>
          intro vs W' F Y E hu hd
          have dg : vs 9 = .bool true := hd ⟨9, .guard⟩ (by simp) rfl
          have s0 := E.eout 12 (.slice (some ⟨p3, 0, none⟩) 1 d3) rfl rfl
          exact rel_val (v := .slice (some ⟨p3, 0, none⟩) 1 d3) (want_of 9 true rfl (E.yld 9 103 true rfl (by decide) dg)) (by simp [go_sem, s0]) (Up.refl _) rfl
        case o11 =>
          intro vs W' F Y E hu hd
          have dg : vs 9 = .bool true := hd ⟨9, .guard⟩ (by simp) rfl
          have d10 : vs 10 = .slice (some ⟨p3, 0, none⟩) 1 d3 := hd ⟨10, .data⟩ (by simp) rfl
          have t10 := E.ein 10 104 _ rfl (by decide) d10
          exact rel_val (v := .pointer (some ⟨p3, 0, none⟩)) (want_of 9 true rfl (E.yld 9 103 true rfl (by decide) dg)) (by simp [go_sem, t10]) (Up.refl _) rfl
        case o12 =>
          intro vs W' F Y E hu hd
          have dg : vs 9 = .bool true := hd ⟨9, .guard⟩ (by simp) rfl
          have d11 : vs 11 = .pointer (some ⟨p3, 0, none⟩) := hd ⟨11, .data⟩ (by simp) rfl
          have t11 := E.ein 11 105 _ rfl (by decide) d11
          exact rel_load (want_of 9 true rfl (E.yld 9 103 true rfl (by decide) dg)) _ _ rfl p3 0 (by simp [go_sem, t11]) (Ch.cells ⟨1, Ln.zero, exB⟩) _ (fun j u hj => hu.cell_some (hC9 j u hj)) Tryz.underlying44 rfl chSize rfl
        case o13 =>
          intro vs W' F Y E hu hd
          have dg : vs 9 = .bool true := hd ⟨9, .guard⟩ (by simp) rfl
          have s0 := E.eout 1 (.slice (some ⟨p, 0, none⟩) 2 2) rfl rfl
          exact rel_val (v := .slice (some ⟨p, 0, none⟩) 2 2) (want_of 9 true rfl (E.yld 9 103 true rfl (by decide) dg)) (by simp [go_sem, s0]) (Up.refl _) rfl
        case o14 =>
          intro vs W' F Y E hu hd
          have dg : vs 9 = .bool true := hd ⟨9, .guard⟩ (by simp) rfl
          have d13 : vs 13 = .slice (some ⟨p, 0, none⟩) 2 2 := hd ⟨13, .data⟩ (by simp) rfl
          have t13 := E.ein 13 107 _ rfl (by decide) d13
          exact rel_val (v := .pointer (some ⟨p, 11, none⟩)) (want_of 9 true rfl (E.yld 9 103 true rfl (by decide) dg)) (by simp [go_sem, t13]) (Up.refl _) rfl
        case o15 =>
          intro vs W' F Y E hu hd
          have dg : vs 9 = .bool true := hd ⟨9, .guard⟩ (by simp) rfl
          have d14 : vs 14 = .pointer (some ⟨p, 11, none⟩) := hd ⟨14, .data⟩ (by simp) rfl
          have t14 := E.ein 14 108 _ rfl (by decide) d14
          exact rel_val (v := .agg #[.int .u8 17, .int .u32 167772161, .int .u32 134744072, .int .u16 53, .int .u16 53, .int .u8 1, .int .u8 5, .bool false, .bool false, .int .i64 30, .int .i64 1]) (want_of 9 true rfl (E.yld 9 103 true rfl (by decide) dg)) (by simp [go_sem, t14, hu.cell_some l11, hu.cell_some l12, hu.cell_some l13, hu.cell_some l14, hu.cell_some l15, hu.cell_some l16, hu.cell_some l17, hu.cell_some l18, hu.cell_some l19, hu.cell_some l20, hu.cell_some l21]) (Up.refl _) rfl
        case o16 =>
          intro vs W' F Y E hu hd
          have dg : vs 9 = .bool true := hd ⟨9, .guard⟩ (by simp) rfl
          have d15 : vs 15 = .agg #[.int .u8 17, .int .u32 167772161, .int .u32 134744072, .int .u16 53, .int .u16 53, .int .u8 1, .int .u8 5, .bool false, .bool false, .int .i64 30, .int .i64 1] := hd ⟨15, .data⟩ (by simp) rfl
          have t15 := E.ein 15 109 _ rfl (by decide) d15
          exact rel_val (v := .agg #[.int .u8 1, .int .u8 0, .int .u32 0, .int .u32 0, .int .u16 0, .int .u16 0, .int .u8 0, .int .u8 0, .bool false, .bool false, .int .i64 0, .int .i64 0, .int .u8 17, .int .u32 167772161, .int .u32 134744072, .int .u16 53, .int .u16 53, .int .u8 1, .int .u8 5, .bool false, .bool false, .int .i64 30, .int .i64 1]) (want_of 9 true rfl (E.yld 9 103 true rfl (by decide) dg)) (by simp [go_sem, t15]) (Up.refl _) rfl
        case o17 =>
          intro vs W' F Y E hu hd
          have dg : vs 9 = .bool true := hd ⟨9, .guard⟩ (by simp) rfl
          have d12 : vs 12 = .agg #[.int .u8 1, .int .u8 0, .int .u32 0, .int .u32 0, .int .u16 0, .int .u16 0, .int .u8 0, .int .u8 0, .bool false, .bool false, .int .i64 0, .int .i64 0, .int .u8 17, .int .u32 167772161, .int .u32 134744072, .int .u16 53, .int .u16 53, .int .u8 1, .int .u8 5, .bool false, .bool false, .int .i64 30, .int .i64 1] := hd ⟨12, .data⟩ (by simp) rfl
          have t12 := E.ein 12 106 _ rfl (by decide) d12
          have d16 : vs 16 = .agg #[.int .u8 1, .int .u8 0, .int .u32 0, .int .u32 0, .int .u16 0, .int .u16 0, .int .u8 0, .int .u8 0, .bool false, .bool false, .int .i64 0, .int .i64 0, .int .u8 17, .int .u32 167772161, .int .u32 134744072, .int .u16 53, .int .u16 53, .int .u8 1, .int .u8 5, .bool false, .bool false, .int .i64 30, .int .i64 1] := hd ⟨16, .data⟩ (by simp) rfl
          have t16 := E.ein 16 110 _ rfl (by decide) d16
          exact rel_val (v := .bool true) (want_of 9 true rfl (E.yld 9 103 true rfl (by decide) dg)) (by simp [go_sem, t12, t16]) (Up.refl _) rfl
        case o18 =>
          intro vs W' F Y E hu hd
          have d9 : vs 9 = .bool true := hd ⟨9, .data⟩ (by simp) rfl
          have t9 := E.ein 9 103 _ rfl (by decide) d9
          have d17 : vs 17 = .bool true := hd ⟨17, .data⟩ (by simp) rfl
          have t17 := E.ein 17 111 _ rfl (by decide) d17
          exact rel_val (v := .bool true) rfl (by simp [go_sem, t9, t17]) (Up.refl _) rfl
        case o19 =>
          intro vs W' F Y E hu hd
          have d18 : vs 18 = .bool true := hd ⟨18, .data⟩ (by simp) rfl
          have t18 := E.ein 18 112 _ rfl (by decide) d18
          exact rel_val (v := .bool true) rfl (by simp [go_sem, t18]) (Up.refl _) rfl
        case o20 =>
          intro vs W' F Y E hu hd
          have dg : vs 19 = .bool true := hd ⟨19, .guard⟩ (by simp) rfl
          have s0 := E.eout 14 (.slice (some ⟨p4, 0, none⟩) 2 d4) rfl rfl
          exact rel_val (v := .slice (some ⟨p4, 0, none⟩) 2 d4) (want_of 19 true rfl (E.yld 19 113 true rfl (by decide) dg)) (by simp [go_sem, s0]) (Up.refl _) rfl
        case o21 =>
          intro vs W' F Y E hu hd
          have dg : vs 19 = .bool true := hd ⟨19, .guard⟩ (by simp) rfl
          exact rel_val (v := .slice (some ⟨W'.heap.size, 0, none⟩) 2 2) (W' := W'.alloc (.cells #[.string ⟨#[116, 116, 108, 32, 49]⟩, .string ⟨#[102, 108, 111, 119, 32, 51]⟩] 9)) (want_of 19 true rfl (E.yld 19 113 true rfl (by decide) dg)) (by simp [go_sem]) ((Up.refl _).alloc _) ⟨_, rfl, new_row _ _⟩
        case o22 =>
          intro vs W' F Y E hu hd
          have dg : vs 19 = .bool true := hd ⟨19, .guard⟩ (by simp) rfl
          have d20 : vs 20 = .slice (some ⟨p4, 0, none⟩) 2 d4 := hd ⟨20, .data⟩ (by simp) rfl
          have t20 := E.ein 20 114 _ rfl (by decide) d20
          obtain ⟨b, d21, l0⟩ := hd ⟨21, .data⟩ (by simp) rfl
          have t21 := E.ein 21 115 _ rfl (by decide) d21
          exact rel_call (want_of 19 true rfl (E.yld 19 113 true rfl (by decide) dg)) (by simp [go_sem, t20, t21]) (same_row _ _ _ _ (hs2 W' ⟨hu⟩) l0) (fun _ _ => rfl)
        case o23 =>
          intro vs W' F Y E hu hd
          have d19 : vs 19 = .bool true := hd ⟨19, .data⟩ (by simp) rfl
          have t19 := E.ein 19 113 _ rfl (by decide) d19
          have d22 : vs 22 = .bool true := hd ⟨22, .data⟩ (by simp) rfl
          have t22 := E.ein 22 116 _ rfl (by decide) d22
          exact rel_val (v := .bool true) rfl (by simp [go_sem, t19, t22]) (Up.refl _) rfl
        case o24 =>
          intro vs W' F Y E hu hd
          have d23 : vs 23 = .bool true := hd ⟨23, .data⟩ (by simp) rfl
          have t23 := E.ein 23 117 _ rfl (by decide) d23
          exact rel_val (v := .bool true) rfl (by simp [go_sem, t23]) (Up.refl _) rfl
        case hend =>
          intro vs W' hu hall
          have d24 : vs 24 = .bool true := hall 24 (by simp)
          obtain ⟨x9, rfl⟩ := hu.mk
          simp only [fillL, Act.put, List.setIfInBounds_toArray, List.set_cons_zero, List.set_cons_succ, d24]
          go_wp2_with fail
          go_meet
          exact ⟨rfl, mkI⟩
      case rest =>
        obtain ⟨rfl, z3, rfl⟩ := hcut
        go_wp2_with fail
        go_ret
        exact ⟨rfl, mkI⟩
end Go.Proofs.YtlbbepgfjigjpaaGreatDoor
