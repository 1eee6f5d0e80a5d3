/- The closure of DumpChanges: whether a dump has a line, or its key. Plain laws for DumpChanges: what its closure says of each change. -/
import Derived.Test.YteciigbonaecoaaGreatDoorDChP
import Derived.Test.YteciigbonaecoaaGreatDoorDBuild
import Derived.Test.YteciigbonaecoaaGreatDoorDSame
import Derived.Test.YteciigbonaecoaaGreatDoorQuiet
namespace Go.Ab
open Go.RowKit Go.Proofs.YteciigbonaecoaaGreatDoor
theorem LnAt.of_heap {w : World} {p : Nat} {x : Ln} {t : TypeId} {fr : Nat × Nat} (h : w.heap[p]? = some (.cells x.cells.toArray t fr)) : LnAt w p x :=
  ⟨by rw [cell_of_row w p 0 _ _ _ h]; rfl, by rw [cell_of_row w p 1 _ _ _ h]; rfl, by rw [cell_of_row w p 2 _ _ _ h]; rfl, by rw [cell_of_row w p 3 _ _ _ h]; rfl, by rw [cell_of_row w p 4 _ _ _ h]; rfl, by rw [cell_of_row w p 5 _ _ _ h]; rfl, by rw [cell_of_row w p 6 _ _ _ h]; rfl, by rw [cell_of_row w p 7 _ _ _ h]; rfl, by rw [cell_of_row w p 8 _ _ _ h]; rfl, by rw [cell_of_row w p 9 _ _ _ h]; rfl, by rw [cell_of_row w p 10 _ _ _ h]; rfl⟩
end Go.Ab
namespace Go.Proofs.YteciigbonaecoaaGreatDoor
open Go.RowKit Go.Ab
attribute [local go_sem high] eq_line eq_key
set_option maxHeartbeats 16000000 in
set_option maxRecDepth 100000 in
theorem dhas_any (l : List Ln) (x : Ln) (v : Value) (w : World) (hv : LnRow w v l) (hl : l.length ≤ 1000000) :
    Gives Tryz.prog 22 #[v, .agg x.cells.toArray] w (.tuple #[.bool (hasL l x).1, .bool (hasL l x).2]) := by
  obtain ⟨p, cap, rfl, hle, hc⟩ := hv
  obtain ⟨N, hN⟩ : ∃ N, l.length = N := ⟨_, rfl⟩
  rw [hN] at hle hl ⊢
  have HN := Lib.hid hN
  have Hc := Lib.hid hc
  clear hN hc
  obtain ⟨q, hq⟩ : ∃ q, hasL l x = q := ⟨_, rfl⟩
  rw [hq]
  have HQ := Lib.hid hq
  obtain ⟨q1, q2⟩ := q
  clear hq
  unfold Gives
  go_enter Tryz.func22, Tryz.ntmps22
  go_upto_region 1 with fail
  obtain ⟨B, hB⟩ : ∃ B, w.heap.size = B := ⟨_, rfl⟩
  rw [hB]
  refine wp_letter (fun W => UpI w W ∧ LnAt W B x) ⟨inferInstance, LnAt.of_heap (alloc_new hB)⟩ ?_
  rintro W ⟨uW, hX⟩
  haveI := uW
  haveI := hX.lt
  go_wp2_with fail
  go_loopw [10] (fun i wr => ∃ k : Nat, k ≤ N ∧ i = .int .i64 (k : Int) ∧ Hid (hasL (l.drop k) x = (q1, q2)) ∧ Up W wr) (fun i _ => N - (intOf i).toNat)
  case atStart => exact ⟨0, Nat.zero_le _, rfl, Lib.hid (by rw [List.drop_zero]; exact HQ.out), Up.refl _⟩
  case round =>
    obtain ⟨k, hk, rfl, Hk, hu⟩ := hrel
    haveI : UpI W wr := ⟨hu⟩
    haveI : UpI w wr := ⟨uW.up.trans hu⟩
    by_cases hlt : k < N
    · have hlt' : (k : Int) < (N : Int) := by omega
      have k0 : (0 : Int) ≤ (k : Int) := by omega
      obtain ⟨y, hs⟩ : ∃ y, l[k]? = some y := ⟨_, List.getElem?_eq_getElem (by rw [HN.out]; exact hlt)⟩
      obtain ⟨b1, o1, rfl, hb1, hc1⟩ := Hc.out k y hs
      have hY : wr.rangeAt b1 (o1 + k * 11) y.cells := fun j u hj => (uW.up.trans hu).cell_some (hc1 j u hj)
      have hd : hasL (l.drop k) x = if keyB y x then (true, decide (y = x)) else hasL (l.drop (k + 1)) x := by
        rw [drop_head l k y hs]; rfl
      rw [Hk.out] at hd
      have HD := Lib.hid hd
      clear hc1 hs hd
      go_upto_region 4 with (first
        | (refine wpList_load_mid rfl 44 _ rfl b1 (o1 + k * 11) rfl y.cells _ hY Tryz.underlying44 rfl lnSize ?_)
        | (refine wpList_store_row rfl 44 _ _ rfl _ y.cells.toArray rfl rfl 44 _ (alloc_new rfl) lnSize rfl (ln_all y) ?_))
      obtain ⟨D, hD⟩ : ∃ D, wr.heap.size = D := ⟨_, rfl⟩
      rw [hD]
      refine wp_letter (fun Z => UpI W Z ∧ LnAt Z D y ∧ LnAt Z B x) ⟨⟨UpI.row hD _⟩, LnAt.of_heap (setRow_heap _ _ _ _ _ _ (alloc_new hD)), hX.up (UpI.row hD _)⟩ ?_
      rintro Z ⟨uZ, hy, hx⟩
      haveI := uZ
      haveI : UpI w Z := ⟨uW.up.trans uZ.up⟩
      haveI := hy.lt
      haveI := hx.lt
      have HX := Lib.hid hX
      obtain ⟨bb, hbb⟩ : ∃ bb, lnB y x = bb := ⟨_, rfl⟩
      have hbd := lnB_eq y x
      rw [hbb] at hbd
      have HBD := Lib.hid hbd
      clear hY hD hX hbd
      obtain ⟨c0, c1, c2, c3, c4, c5, c6, c7, c8, c9, c10⟩ := hy
      obtain ⟨d0, d1, d2, d3, d4, d5, d6, d7, d8, d9, d10⟩ := hx
      unfold lnB at hbb
      cases hK : keyB y x
      · have HF := Lib.hid (show hasL (l.drop (k + 1)) x = (q1, q2) by have := HD.out; rw [hK] at this; exact this.symm)
        unfold keyB at hK
        go_wp2_with fail
        go_roundw
        case rel => exact ⟨k + 1, by omega, by go_num, HF, uZ.up⟩
        case measure => simp [intOf]; omega
      · have HF := Lib.hid (show (q1, q2) = (true, bb) by have := HD.out; rw [hK] at this; rw [this, HBD.out]; rfl)
        unfold keyB at hK
        go_upto_region 5 with fail
        (refine wp_region_ext (by kernel_rfl) (by kernel_rfl) ?_; (repeat (go_big_quiet_step (fail))); refine wpQuiet_nil ?_; rintro _ ⟨z5, rfl⟩)
        go_wp2_with fail
        go_ret2
        have := HF.out
        simp only [Prod.mk.injEq] at this
        exact ⟨by rw [this.1, this.2]; rfl, mkI⟩
    · obtain rfl : k = N := by omega
      have HF := Lib.hid (show (q1, q2) = (false, false) by rw [← Hk.out, List.drop_of_length_le (by rw [HN.out]; exact Nat.le_refl _)]; rfl)
      go_wp2_with fail
      go_ret2
      have := HF.out
      simp only [Prod.mk.injEq] at this
      exact ⟨by rw [this.1, this.2]; rfl, mkI⟩
end Go.Proofs.YteciigbonaecoaaGreatDoor
namespace Go.Ab
open Go.RowKit Go.Proofs.YteciigbonaecoaaGreatDoor
def Ln.kcs (x : Ln) : List Value := [.int .u8 x.pr, .int .u32 x.s, .int .u32 x.d, .int .u16 x.sp, .int .u16 x.dp]
theorem kcs_at (x : Ln) (j : Nat) (u : Value) (h : x.kcs[j]? = some u) : x.cells[j]? = some u := by
  have hj : j < 5 := (List.getElem?_eq_some_iff.1 h).1
  rcases (by omega : j = 0 ∨ j = 1 ∨ j = 2 ∨ j = 3 ∨ j = 4) with rfl | rfl | rfl | rfl | rfl <;> exact h
theorem range_kcs {w : World} {b f : Nat} {x : Ln} (h : w.rangeAt b f x.cells) : w.rangeAt b f x.kcs := fun j u hj => h j u (kcs_at x j u hj)
theorem kcs_one (x : Ln) : x.kcs.toArray.all (·.oneCell') = true := Array.all_eq_true_iff_forall_mem.2 (fun u hu => x.one u (by
  obtain ⟨j, hj⟩ := List.getElem?_of_mem (show u ∈ x.kcs by simpa using hu)
  exact List.mem_of_getElem? (kcs_at x j u hj)))
theorem range_of_heap {w : World} {b : Nat} {cs : List Value} {t : TypeId} {fr : Nat × Nat} (h : w.heap[b]? = some (.cells cs.toArray t fr)) : w.rangeAt b 0 cs := fun j u hj => by
  rw [Nat.zero_add, cell_of_row w b j _ _ _ h]; simpa using hj
theorem rangeUp {w W : World} {b f : Nat} {cs : List Value} (h : w.rangeAt b f cs) (u : Up w W) : W.rangeAt b f cs := fun j v hj => u.cell_some' (h j v hj)
theorem chr_old {w : World} {b f : Nat} {c : Ch} (h : w.rangeAt b f c.cells) : w.rangeAt b (f + 1) c.old.cells := fun j u hj => by
  have hj2 : j < 11 := by have := (List.getElem?_eq_some_iff.1 hj).1; rw [c.old.cells_length] at this; exact this
  have := h (1 + j) u (by
    rcases (by omega : j = 0 ∨ j = 1 ∨ j = 2 ∨ j = 3 ∨ j = 4 ∨ j = 5 ∨ j = 6 ∨ j = 7 ∨ j = 8 ∨ j = 9 ∨ j = 10) with rfl | rfl | rfl | rfl | rfl | rfl | rfl | rfl | rfl | rfl | rfl <;> exact hj)
  rwa [← Nat.add_assoc] at this
theorem chr_new {w : World} {b f : Nat} {c : Ch} (h : w.rangeAt b f c.cells) : w.rangeAt b (f + 12) c.new.cells := fun j u hj => by
  have hj2 : j < 11 := by have := (List.getElem?_eq_some_iff.1 hj).1; rw [c.new.cells_length] at this; exact this
  have := h (12 + j) u (by
    rcases (by omega : j = 0 ∨ j = 1 ∨ j = 2 ∨ j = 3 ∨ j = 4 ∨ j = 5 ∨ j = 6 ∨ j = 7 ∨ j = 8 ∨ j = 9 ∨ j = 10) with rfl | rfl | rfl | rfl | rfl | rfl | rfl | rfl | rfl | rfl | rfl <;> exact hj)
  rwa [← Nat.add_assoc] at this
theorem keyB_comm {x y : Ln} (h : keyB x y = true) : keyB y x = true := by
  rw [keyB_cmp] at h ⊢
  have := cmp_neg x y
  simp at h ⊢; omega
/-- The kind of a change as two Bools. -/
def KindIs (x : Ch) (K1 K2 : Bool) : Prop := (x.kind = 1 ∧ K1 = true ∧ K2 = false) ∨ (x.kind = 2 ∧ K1 = false ∧ K2 = true) ∨ (x.kind = 3 ∧ K1 = false ∧ K2 = false ∧ x.old ≠ x.new ∧ keyB x.old x.new = true)
theorem has_facts (a b : List Ln) (sa : Srt a) (sb : Srt b) (x : Ch) (h : ChOk a b x) : ∃ K1 K2 : Bool, KindIs x K1 K2 ∧ (hasL a (chLn x).keyOnly).1 = !K1 ∧ ((hasL a x.old).2 = true ∨ K1 = true) ∧ (hasL b (chLn x).keyOnly).1 = !K2 ∧ ((hasL b x.new).2 = true ∨ K2 = true) := by
  rcases h with ⟨h1, h2, h3, h4⟩ | ⟨h1, h2, h3, h4⟩ | ⟨h1, h2, h3, h4, h5⟩
  · have e : chLn x = x.new := by unfold chLn; rw [if_pos h1]
    refine ⟨true, false, .inl ⟨h1, rfl, rfl⟩, ?_, .inr rfl, ?_, .inl ?_⟩
    · rw [hasL_only, e, hasL_none a x.new h4]; rfl
    · rw [hasL_only, e, hasL_mem b sb x.new h3]; rfl
    · rw [hasL_mem b sb x.new h3]
  · have e : chLn x = x.old := by unfold chLn; rw [if_neg (by omega)]
    refine ⟨false, true, .inr (.inl ⟨h1, rfl, rfl⟩), ?_, .inl ?_, ?_, .inr rfl⟩
    · rw [hasL_only, e, hasL_mem a sa x.old h3]; rfl
    · rw [hasL_mem a sa x.old h3]
    · rw [hasL_only, e, hasL_none b x.old h4]; rfl
  · have e : chLn x = x.old := by unfold chLn; rw [if_neg (by omega)]
    refine ⟨false, false, .inr (.inr ⟨h1, rfl, rfl, h4, h5⟩), ?_, .inl ?_, ?_, .inl ?_⟩
    · rw [hasL_only, e, hasL_mem a sa x.old h2]; rfl
    · rw [hasL_mem a sa x.old h2]
    · rw [hasL_only, e, hasL_key b x.old x.new h3 (keyB_comm h5)]; rfl
    · rw [hasL_mem b sb x.new h3]
theorem chLn_b {a b : List Ln} (ha : ∀ z ∈ a, LnB z) (hb : ∀ z ∈ b, LnB z) {x : Ch} (h : ChOk a b x) : LnB (chLn x) := by
  rcases h with ⟨h1, _, h3, _⟩ | ⟨h1, _, h3, _⟩ | ⟨h1, h2, _⟩
  · unfold chLn; rw [if_pos h1]; exact hb _ h3
  · unfold chLn; rw [if_neg (by omega)]; exact ha _ h3
  · unfold chLn; rw [if_neg (by omega)]; exact ha _ h2
theorem new_b {a b : List Ln} (hb : ∀ z ∈ b, LnB z) {x : Ch} (h : ChOk a b x) : LnB x.new := by
  rcases h with ⟨_, _, h3, _⟩ | ⟨_, h2, _⟩ | ⟨_, _, h3, _⟩
  · exact hb _ h3
  · rw [h2]; exact LnB.zero
  · exact hb _ h3
theorem diff_lt {a b : List Ln} (sa : Srt a) (sb : Srt b) {m : Nat} {x y : Ch} (hy : (diffL a b)[m]? = some y) (hx : (diffL a b)[m + 1]? = some x) : (chLn y).cmp (chLn x) < 0 := by
  have h := List.pairwise_iff_getElem.1 (diffL_order a b sa sb)
  obtain ⟨h1, rfl⟩ := List.getElem?_eq_some_iff.1 hy
  obtain ⟨h2, rfl⟩ := List.getElem?_eq_some_iff.1 hx
  exact h m (m + 1) h1 h2 (Nat.lt_succ_self _)
end Go.Ab
namespace Go.Proofs.YteciigbonaecoaaGreatDoor
open Go.RowKit Go.Ab
theorem keySizeC : (Tryz.prog.info? 34).map (·.size) = some 5 := by kernel_rfl
theorem build_kinds (w : World) : (Instr.build 72 #[(0, .int .u8 0), (1, .int .u8 2), (2, .int .u8 1), (3, .int .u8 3)]).run Tryz.prog w = .ok (.agg #[.int .u8 0, .int .u8 2, .int .u8 1, .int .u8 3]) w := by kernel_rfl
theorem kindsSize : (Tryz.prog.info? 72).map (·.size) = some 4 := by kernel_rfl
theorem build_lkey (k1 k2 k3 k4 k5 : Int) (w : World) : (Instr.build 44 #[(0, .agg #[.int .u8 k1, .int .u32 k2, .int .u32 k3, .int .u16 k4, .int .u16 k5])]).run Tryz.prog w = .ok (.agg (Ln.mk k1 k2 k3 k4 k5 0 0 false false 0 0).cells.toArray) w := by kernel_rfl
end Go.Proofs.YteciigbonaecoaaGreatDoor
