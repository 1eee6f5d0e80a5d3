/- The package is awake. -/
import Derived.Test.YtdebpdjkkblcfaaGreatDoorAwk
import Derived.Test.YtdebpdjkkblcfaaGreatDoorEqual
import Derived.Test.YtdebpdjkkblcfaaGreatDoorPExt
import Derived.Deep.RegionHeld3
namespace Go.Ab
open Go.RowKit
/-- A slice of events: by instance. -/
class EvRowI (w : World) (v : Value) (l : List Ev) : Prop where
  row : EvRow w v l
instance EvRowI.ext (w : World) (v : Value) (l : List Ev) (x : Ext w) [h : EvRowI w v l] : EvRowI x.w v l := ⟨h.row.up x.up⟩
instance EvRowI.alloc (w : World) (v : Value) (l : List Ev) (o : Obj) [h : EvRowI w v l] : EvRowI (w.alloc o) v l := ⟨h.row.up ((Up.refl w).alloc o)⟩
instance EvRowI.drew (w : World) (v : Value) (l : List Ev) [h : EvRowI w v l] : EvRowI w.drew v l := ⟨h.row.up ((Up.refl w).drew)⟩
theorem EvRow.new (w : World) (n cap : Nat) (t : TypeId) (l : List Ev) (h : w.heap.size = n) : EvRow (w.alloc (.cells (evCells l).toArray t)) (.slice (some ⟨n, 0, none⟩) l.length cap) l :=
  ⟨_, cap, rfl, fun i _ => ⟨n, 0, rfl, by rw [World.size_alloc]; omega, fun j u hu => by
    obtain ⟨e, he, hu'⟩ := Option.bind_eq_some_iff.1 hu
    rw [Nat.zero_add, World.cell?_alloc_at _ _ _ _ h.symm]
    simpa using evCells_at l i j e u he hu'⟩⟩
instance EvRowI.new2 (w : World) (n : Nat) (t : TypeId) [h : SizeIs w n] : EvRowI (w.alloc (.cells #[.int .i64 13, .int .u8 0, .int .u8 3, .int .u8 0, .int .u32 0, .int .u32 0, .int .u16 0, .int .u16 0, .int .i64 13, .int .u8 0, .int .u8 3, .int .u8 0, .int .u32 0, .int .u32 0, .int .u16 0, .int .u16 0] t)) (.slice (some ⟨n, 0, none⟩) 2 2) [evBb, evBb] := ⟨EvRow.new w n 2 t [evBb, evBb] h.eq⟩
instance EvRowI.new1 (w : World) (n : Nat) (t : TypeId) [h : SizeIs w n] : EvRowI (w.alloc (.cells #[.int .i64 13, .int .u8 0, .int .u8 3, .int .u8 0, .int .u32 0, .int .u32 0, .int .u16 0, .int .u16 0] t)) (.slice (some ⟨n, 0, none⟩) 1 1) [evBb] := ⟨EvRow.new w n 1 t [evBb] h.eq⟩
end Go.Ab
namespace Go.Proofs.YtdebpdjkkblcfaaGreatDoor
open Go.RowKit Go.Ab
theorem equal_yes (w : World) (va vb : Value) (l : List Ev) [ha : EvRowI w va l] [hb : EvRowI w vb l] (hl : l.length ≤ 1000000 := by decide) :
    Gives Tryz.prog 28 #[va, vb] w (.bool true) := (equal_ev w va vb l l ha.row hb.row hl).cast (by simp)
end Go.Proofs.YtdebpdjkkblcfaaGreatDoor
namespace Go.Proofs.YtdebpdjkkblcfaaGreatDoor
open Go.RowKit Go.Ab
attribute [local go_sem high] eq_event
set_option maxHeartbeats 32000000 in
set_option maxRecDepth 100000 in
theorem awake_any (w : World) (g : GoodT w) : Gives Tryz.prog 7 #[] w (.bool true) := by
  have hE : evB 12 1 22 6 167772161 167772162 1025 80 12 1 22 6 167772161 167772162 1025 80 = true := by decide
  unfold Gives
  go_enter Tryz.func7, Tryz.ntmps7
  go_wp2_with (first
    | (go_at_call 9; refine (example_any _).mono ?_; rintro e w' ⟨rfl, xe, rfl⟩)
    | (go_at_call 20; (with_reducible refine (tx_a _ (g.up upI)).mono ?_); rintro e w' ⟨rfl, xa, rfl⟩)
    | (go_at_call 20; (with_reducible refine (tx_b _ (g.up upI)).mono ?_); rintro e w' ⟨rfl, xb, rfl⟩)
    | (go_at_call 21; refine (rd_a _ (g.up upI)).mono ?_; rintro e w' ⟨rfl, xr, rfl⟩)
    | (go_at_call 27; refine (ring_new 2 _ (by omega) (by omega)).mono ?_; rintro e w' ⟨R, G, rfl, hring, hR, hG, xn, rfl⟩))
  haveI : LtSize R xn.w := ⟨hring.ltR⟩
  haveI : LtSize G xn.w := ⟨hring.ltG⟩
  have lA : xe.w.heap.size + 1 < xr.w.heap.size := (inferInstance : LtSize (xe.w.heap.size + 1) xr.w).lt
  rw [World.size_alloc] at hR hG
  have lw : w.heap.size ≤ xr.w.heap.size := (upI : Up w xr.w).size
  haveI : NeB xe.w.heap.size R := ⟨by omega⟩
  haveI : NeB xe.w.heap.size G := ⟨by omega⟩
  haveI : NeB (xe.w.heap.size + 1) R := ⟨by omega⟩
  haveI : NeB (xe.w.heap.size + 1) G := ⟨by omega⟩
  haveI : GeSize w R := ⟨by omega⟩
  haveI : GeSize w G := ⟨by omega⟩
  clear hR hG lA lw
  have hr0 : ∀ W, UpI xn.w W → Ring W R G 2 [] := fun W h => hring.up h.up
  have p1 : takes [] evA := by intro p hp; simp at hp
  have p2 : takes [evA] evBb := by intro p hp; simp at hp; subst hp; decide
  have p3 : takes [evA, evBb] evBb := by intro p hp; simp at hp; subst hp; decide
  go_loopw [76] (fun i wr => ∃ k : Nat, k ≤ 3 ∧ i = .int .i64 (k : Int) ∧ Hid (Ring wr R G 2 ([evA, evBb, evBb].take k)) ∧ ∃ x : PExt R G (xn.w.alloc (.cells #[.int .i64 12, .int .u8 1, .int .u8 22, .int .u8 6, .int .u32 167772161, .int .u32 167772162, .int .u16 1025, .int .u16 80, .int .i64 13, .int .u8 0, .int .u8 3, .int .u8 0, .int .u32 0, .int .u32 0, .int .u16 0, .int .u16 0, .int .i64 13, .int .u8 0, .int .u8 3, .int .u8 0, .int .u32 0, .int .u32 0, .int .u16 0, .int .u16 0] 27)), wr = x.w) (fun i _ => 3 - (intOf i).toNat)
  case atStart => exact ⟨0, by omega, rfl, Lib.hid (hr0 _ inferInstance), pmkI⟩
  case round =>
    obtain ⟨k, hk, rfl, hr, x, rfl⟩ := hrel
    haveI : NeB xn.w.heap.size R := inferInstance
    rcases (by omega : k = 0 ∨ k = 1 ∨ k = 2 ∨ k = 3) with rfl | rfl | rfl | rfl
    · go_wp2_with (first
        | (go_at_call 12; refine (put_px _ R G 2 [] ?hr 12 1 22 6 167772161 167772162 1025 80 evA_b evA_r p1 (by decide)).mono ?_; (case hr => exact hr.out.up upI); rintro e w' ⟨rfl, hr', z, rfl⟩))
      go_roundw
      case rel => exact ⟨1, by omega, by go_num, Lib.hid hr', pmkI⟩
      case measure => simp [intOf]
    · go_wp2_with (first
        | (go_at_call 12; refine (put_px _ R G 2 [evA] ?hr 13 0 3 0 0 0 0 0 evB_b evB_r p2 (by decide)).mono ?_; (case hr => exact hr.out.up upI); rintro e w' ⟨rfl, hr', z, rfl⟩))
      go_roundw
      case rel => exact ⟨2, by omega, by go_num, Lib.hid hr', pmkI⟩
      case measure => simp [intOf]
    · go_wp2_with (first
        | (go_at_call 12; refine (put_px _ R G 2 [evA, evBb] ?hr 13 0 3 0 0 0 0 0 evB_b evB_r p3 (by decide)).mono ?_; (case hr => exact hr.out.up upI); rintro e w' ⟨rfl, hr', z, rfl⟩))
      go_roundw
      case rel => exact ⟨3, by omega, by go_num, Lib.hid hr', pmkI⟩
      case measure => simp [intOf]
    · have H3 : Hid (Ring x.w R G 2 [evA, evBb, evBb]) := hr
      clear hr hr0 hring p1 p2 p3
      have hget : ∀ W, UpI x.w W → Gives Tryz.prog 13 #[.pointer (some ⟨R, 0, none⟩), .int .i64 0] W (.tuple #[.agg #[.int .i64 0, .int .u8 0, .int .u8 0, .int .u8 0, .int .u32 0, .int .u32 0, .int .u16 0, .int .u16 0], .bool false]) := fun W h => ring_get_no W R G 2 [evA, evBb, evBb] (H3.out.up h.up) 0 (Or.inr (by decide)) (by decide) (by decide)
      have hput : ∀ W, UpI x.w W → Gives Tryz.prog 12 #[.pointer (some ⟨R, 0, none⟩), .agg #[.int .i64 12, .int .u8 1, .int .u8 22, .int .u8 6, .int .u32 167772161, .int .u32 167772162, .int .u16 1025, .int .u16 80]] W (.tuple #[.int .i64 0, .int .i64 411]) := fun W h => put_back_px W R G 2 [evA, evBb, evBb] (H3.out.up h.up) 12 1 22 6 167772161 167772162 1025 80 evA_b evA_r evBb rfl (by decide)
      go_wp2_with (first
        | (go_at_call 13; refine (hget _ inferInstance).mono ?_; rintro e w' ⟨rfl, y1, rfl⟩)
        | (go_at_call 12; refine (hput _ inferInstance).mono ?_; rintro e w' ⟨rfl, y2, rfl⟩))
      have b0 : y2.w.cell? ⟨xe.w.heap.size + 1, 0, none⟩ = some (.int .i64 13) := by simp [go_sem]
      have b1 : y2.w.cell? ⟨xe.w.heap.size + 1, 1, none⟩ = some (.int .u8 0) := by simp [go_sem]
      have b2 : y2.w.cell? ⟨xe.w.heap.size + 1, 2, none⟩ = some (.int .u8 3) := by simp [go_sem]
      have b3 : y2.w.cell? ⟨xe.w.heap.size + 1, 3, none⟩ = some (.int .u8 0) := by simp [go_sem]
      have b4 : y2.w.cell? ⟨xe.w.heap.size + 1, 4, none⟩ = some (.int .u32 0) := by simp [go_sem]
      have b5 : y2.w.cell? ⟨xe.w.heap.size + 1, 5, none⟩ = some (.int .u32 0) := by simp [go_sem]
      have b6 : y2.w.cell? ⟨xe.w.heap.size + 1, 6, none⟩ = some (.int .u16 0) := by simp [go_sem]
      have b7 : y2.w.cell? ⟨xe.w.heap.size + 1, 7, none⟩ = some (.int .u16 0) := by simp [go_sem]
      have g2 : GoodT y2.w := g.up upI
      have u2 : UpI w y2.w := inferInstance
      have H4 : Hid (Ring y2.w R G 2 [evA, evBb, evBb]) := Lib.hid (H3.out.up upI)
      clear H3 hget hput g
      generalize y2.w = w1 at *
      generalize xe.w.heap.size + 1 = B at *
      have hlist : ∀ W, UpI w1 W → Calls Tryz.prog 17 #[.pointer (some ⟨R, 0, none⟩)] W fun e w' => ∃ v, e = .returned v ∧ EvRowI w' v [evBb, evBb] ∧ ∃ x : Ext W, w' = x.w := fun W h => (ring_list W R G 2 _ (H4.out.up h.up)).mono fun _ _ ⟨v, h1, h2, h3⟩ => ⟨v, h1, ⟨EvRow.of_owns h2⟩, h3⟩
      have hsince : ∀ W, UpI w1 W → Calls Tryz.prog 18 #[.pointer (some ⟨R, 0, none⟩), .int .i64 2] W fun e w' => ∃ v, e = .returned v ∧ EvRowI w' v [evBb] ∧ ∃ x : Ext W, w' = x.w := fun W h => (ring_since W R G 2 _ (H4.out.up h.up) 2).mono fun _ _ ⟨v, h1, h2, h3⟩ => ⟨v, h1, ⟨EvRow.of_owns h2⟩, h3⟩
      have htot : ∀ W, UpI w1 W → Gives Tryz.prog 14 #[.pointer (some ⟨R, 0, none⟩)] W (.int .i64 3) := fun W h => ring_total W R G 2 _ (H4.out.up h.up)
      have hlen : ∀ W, UpI w1 W → Gives Tryz.prog 15 #[.pointer (some ⟨R, 0, none⟩)] W (.int .i64 2) := fun W h => ring_len W R G 2 _ (H4.out.up h.up)
      clear H4
      go_region_held3 (fun w' => UpI w1 w' ∧ w'.cell? ⟨B, 0, none⟩ = some (.int .i64 13) ∧ w'.cell? ⟨B, 1, none⟩ = some (.int .u8 0) ∧ w'.cell? ⟨B, 2, none⟩ = some (.int .u8 3) ∧ w'.cell? ⟨B, 3, none⟩ = some (.int .u8 0) ∧ w'.cell? ⟨B, 4, none⟩ = some (.int .u32 0) ∧ w'.cell? ⟨B, 5, none⟩ = some (.int .u32 0) ∧ w'.cell? ⟨B, 6, none⟩ = some (.int .u16 0) ∧ w'.cell? ⟨B, 7, none⟩ = some (.int .u16 0))
        (exact ⟨inferInstance, (upI : Up w1 _).cell_some' b0, (upI : Up w1 _).cell_some' b1, (upI : Up w1 _).cell_some' b2, (upI : Up w1 _).cell_some' b3, (upI : Up w1 _).cell_some' b4, (upI : Up w1 _).cell_some' b5, (upI : Up w1 _).cell_some' b6, (upI : Up w1 _).cell_some' b7⟩)
        (first
          | (go_at_call 17; refine (hlist _ inferInstance).mono ?_; rintro e w' ⟨v1, rfl, hv1, y, rfl⟩)
          | (go_at_call 18; refine (hsince _ inferInstance).mono ?_; rintro e w' ⟨v2, rfl, hv2, y, rfl⟩)
          | (go_at_call 14; refine (htot _ inferInstance).mono ?_; rintro e w' ⟨rfl, y, rfl⟩)
          | (go_at_call 15; refine (hlen _ inferInstance).mono ?_; rintro e w' ⟨rfl, y, rfl⟩)
          | (go_at_call 28; refine (equal_yes _ _ _ [evBb, evBb]).mono ?_; rintro e w' ⟨rfl, y, rfl⟩)
          | (go_at_call 28; refine (equal_yes _ _ _ [evBb]).mono ?_; rintro e w' ⟨rfl, y, rfl⟩))
      all_goals go_wp2_with fail
      all_goals
        refine wp_gen_alloc (w1 := w1) ?_
        intro w2 hu hc hl
        have c0 := (hc 0).trans (rfl : _ = some _)
        have c1 := (hc 1).trans (rfl : _ = some _)
        have c2 := (hc 2).trans (rfl : _ = some _)
        have g3 := g2.up hu.up
        haveI : UpI w w2 := ⟨u2.up.trans hu.up⟩
        clear hc hlist hsince htot hlen
        go_loopw [140] (fun i wr => ∃ k : Nat, k ≤ 3 ∧ i = .int .i64 (k : Int) ∧ ∃ x : Ext w2, wr = x.w) (fun i _ => 3 - (intOf i).toNat)
        case atStart => exact ⟨0, by omega, rfl, mkI⟩
        case round =>
          obtain ⟨k, hk, rfl, x, rfl⟩ := hrel
          rcases (by omega : k = 0 ∨ k = 1 ∨ k = 2 ∨ k = 3) with rfl | rfl | rfl | rfl
          · go_wp2_with (go_at_call 21; refine (rd_z0 _ (g3.up upI)).mono ?_; rintro e w' ⟨rfl, y, rfl⟩)
            go_roundw
            case rel => exact ⟨1, by omega, by go_num, mkI⟩
            case measure => simp [intOf]
          · go_wp2_with (go_at_call 21; refine (rd_z1 _ (g3.up upI)).mono ?_; rintro e w' ⟨rfl, y, rfl⟩)
            go_roundw
            case rel => exact ⟨2, by omega, by go_num, mkI⟩
            case measure => simp [intOf]
          · go_wp2_with (go_at_call 21; refine (rd_z2 _ (g3.up upI)).mono ?_; rintro e w' ⟨rfl, y, rfl⟩)
            go_roundw
            case rel => exact ⟨3, by omega, by go_num, mkI⟩
            case measure => simp [intOf]
          · go_wp2_with fail
            go_ret
            exact ⟨rfl, mkI⟩
end Go.Proofs.YtdebpdjkkblcfaaGreatDoor
