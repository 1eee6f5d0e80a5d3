/- Package span: what a builder's add does. -/
import Derived.Test.YtgfkcbflnkpogaaGreatDoorSp3
import Derived.Test.YtgfkcbflnkpogaaGreatDoorRange
import Derived.BigRegion
set_option linter.unusedSimpArgs false
set_option linter.unusedVariables false
namespace Go.Ab
open Go.RowKit
theorem owns_sliceS {w : World} {base : Nat} {e : TypeId} {size n : Nat} {v : Value} {xs : List Value} (h : w.ownsRow base e size v n xs) : (v = .slice none 0 0 ∧ n = 0) ∨ ∃ g cap, v = .slice (some ⟨g, 0, none⟩) n cap ∧ base ≤ g ∧ g < w.heap.size := by
  obtain ⟨_, ⟨h1, h2⟩ | ⟨g, cap, cur, h1, h2, h3, _⟩⟩ := h
  · exact .inl ⟨h1, h2⟩
  · exact .inr ⟨g, cap, h1, h2, (Array.getElem?_eq_some_iff.1 h3).1⟩
/-- What a builder's call leaves alone. -/
structure PutB (B base : Nat) (W W' : World) : Prop where
  os : W'.os = W.os
  tape : W'.tape = W.tape
  output : W'.output = W.output
  size : W.heap.size ≤ W'.heap.size
  block : ∀ k, k < W.heap.size → k < base → k ≠ B → W'.heap[k]? = W.heap[k]?
theorem PutB.of_grown {B base : Nat} {W W' : World} {r : Option Nat} (h : W.grownBy W' r) (hr : ∀ k, r = some k → base ≤ k) : PutB B base W W' :=
  ⟨h.os, h.tape, h.output, h.size, fun k hk hb _ => h.block k hk (fun e => by have := hr k e.symm; omega)⟩
theorem PutB.of_up {B base : Nat} {W W' : World} (h : Up W W') : PutB B base W W' := ⟨h.os, h.tape, h.output, h.size, fun k hk _ _ => h.block k hk⟩
theorem PutB.trans {B base : Nat} {a b c : World} (h : PutB B base a b) (k : PutB B base b c) : PutB B base a c :=
  ⟨k.os.trans h.os, k.tape.trans h.tape, k.output.trans h.output, Nat.le_trans h.size k.size, fun n hn hb hne => (k.block n (Nat.lt_of_lt_of_le hn h.size) hb hne).trans (h.block n hn hb hne)⟩
theorem PutB.set {B base o : Nat} (W : World) (v : Value) : PutB B base W (W.setCell ⟨B, o, none⟩ v) :=
  ⟨rfl, rfl, rfl, by simp, fun k _ _ hk => heap_setCell_other W ⟨B, o, none⟩ k v (fun e => hk (by simp at e; exact e))⟩
theorem PutB.setRow {B base g o : Nat} (W : World) (v : Value) (hg : base ≤ g) : PutB B base W (W.setCell ⟨g, o, none⟩ v) :=
  ⟨rfl, rfl, rfl, by simp, fun k _ hb _ => heap_setCell_other W ⟨g, o, none⟩ k v (fun e => by simp at e; omega)⟩
theorem flat_set_last (p : List Sp) (y : Sp) (t : Int) : ((p ++ [y]).flatMap spCells).set (p.length * 2 + 1) (.int .u32 t) = (p ++ [(y.1, t)]).flatMap spCells := by
  have hl : (p.flatMap spCells).length = p.length * 2 := flat_length (cells := spCells) (fun x => rfl) p
  rw [List.flatMap_append, List.flatMap_append, List.set_append_right _ _ (by omega), hl, show p.length * 2 + 1 - p.length * 2 = 1 by omega]
  rfl
end Go.Ab
namespace Go.Proofs.YtgfkcbflnkpogaaGreatDoor
open Go.RowKit Go.Ab
attribute [local go_sem high] wrapI64 wrapK64
theorem infoSpan : (Tryz.prog.info? 39).map (fun i => (i.zero, i.size, i.bytes)) = some (some (.agg #[.int .u32 0, .int .u32 0]), 2, 8) := by kernel_rfl
theorem sp_atM (X : World) (x : Sp) (t : TypeId) (j : Nat) (u : Value) (hu : (spCells x)[j]? = some u) : (X.alloc (.cells #[.int .u32 x.1, .int .u32 x.2] t)).cell? (Addr.add ⟨X.heap.size, 0, none⟩ j) = some u := by
  rw [show Addr.add ⟨X.heap.size, 0, none⟩ j = (⟨X.heap.size, j, none⟩ : Addr) by cases j <;> simp [Addr.add], World.cell?_alloc_at _ _ _ _ rfl]; simpa [spCells] using hu
theorem sp_one (x : Sp) (u : Value) (h : u ∈ spCells x) : u.oneCell' = true := by
  simp [spCells] at h
  rcases h with rfl | rfl <;> rfl
set_option maxHeartbeats 16000000 in
set_option maxRecDepth 100000 in
theorem spadd_in (p : List Sp) (y : Sp) (f t : Int) (v : Value) (B base : Nat) (w : World) (hB : B < base) (hw : w.heap[B]? = some (.cells #[v] 91 (0, 0))) (hown : w.ownsRow base 39 2 v (p ++ [y]).length ((p ++ [y]).flatMap spCells))
    (hy : SpB y) (f0 : 0 ≤ f) (f1 : f < 4294967296) (t0 : 0 ≤ t) (t1 : t < 4294967296) (hl : p.length ≤ 4294967296) (hc : f ≤ y.2 + 1) :
    Calls Tryz.prog 55 #[.pointer (some ⟨B, 0, none⟩), .int .i64 f, .int .i64 t] w fun e w' => e = .returned (.tuple #[]) ∧ ∃ v', w'.heap[B]? = some (.cells #[v'] 91 (0, 0)) ∧ w'.ownsRow base 39 2 v' (p ++ [(y.1, max y.2 t)]).length ((p ++ [(y.1, max y.2 t)]).flatMap spCells) ∧ PutB B base w w' := by
  obtain ⟨N, hN⟩ : ∃ N, (p ++ [y]).length = N := ⟨_, rfl⟩
  obtain ⟨m, hm⟩ : ∃ m, p.length = m := ⟨_, rfl⟩
  have hNm : N = m + 1 := by rw [← hN, ← hm]; simp
  rw [hN] at hown
  rw [hm] at hl
  obtain ⟨rfl, h0⟩ | ⟨g, cap, rfl, hg, hgw⟩ := owns_sliceS hown
  · omega
  have cB := cell_of_one hw
  have fB := free_of_one hw
  haveI : LtSize B w := ⟨cell_lt' cB⟩
  haveI : LtSize g w := ⟨hgw⟩
  haveI : NeB g B := ⟨by omega⟩
  haveI : NeB B g := ⟨by omega⟩
  have cy : w.cell? ⟨g, m * 2 + 1, none⟩ = some (.int .u32 y.2) := by
    have := World.ownsRow.cellAt hown (m * 2 + 1) (by omega)
    rw [this]
    have := flat_at (cells := spCells) (k := 2) (fun x => rfl) (p ++ [y]) m 1 y (.int .u32 y.2) (by simp [← hm]) rfl
    exact this
  have fy : w.frozen? ⟨g, m * 2 + 1, none⟩ = false := World.ownsRow.frozenAt hown _
  have Hst := Lib.hid (World.ownsRow.stored hown (m * 2 + 1) (.int .u32 (max y.2 t)))
  have Hs := Lib.hid (flat_set_last p y (max y.2 t))
  have Hw := Lib.hid hw
  obtain ⟨yf0, yf1, yt0, yt1⟩ := hy
  have hN0 : (0 : Int) < (N : Int) := by omega
  have hN0' : decide (0 < N) = true := decide_eq_true (by omega)
  have hNk : (N : Int) - 1 = (m : Int) := by omega
  have m0 : (0 : Int) ≤ (m : Int) := by omega
  have mN : (m : Int) < (N : Int) := by omega
  haveI : In64 (m : Int) := ⟨by omega⟩
  haveI : In64 (y.2 + 1) := ⟨by omega⟩
  have hd : decide (f ≤ y.2 + 1) = true := decide_eq_true hc
  have HN := Lib.hid hN
  have Hm := Lib.hid hm
  clear hown hw hN hm hNm
  go_enter Tryz.func55, Tryz.ntmps55
  go_wp2_with fail
  go_region
  go_wp2_with fail
  refine bodyPost_ret (v := .tuple #[]) (by simp [results, Tryz.results55, go_sem]) rfl ?_
  obtain ⟨hs1, hs2⟩ := Hst.out
  refine ⟨rfl, _, (heap_setCell_other w ⟨g, m * 2 + 1, none⟩ B _ (by simp only; omega)).trans Hw.out, ?_, (PutB.setRow w _ hg).trans (PutB.of_up ((Up.refl _).drew))⟩
  rw [← Hs.out, Hm.out, show (p ++ [(y.1, max y.2 t)]).length = N by rw [← HN.out]; simp]
  exact World.ownsRow.drew hs1
set_option maxHeartbeats 16000000 in
set_option maxRecDepth 100000 in
theorem spadd_out (o : List Sp) (f t : Int) (v : Value) (B base : Nat) (w : World) (hB : B < base) (hw : w.heap[B]? = some (.cells #[v] 91 (0, 0))) (hbase : base ≤ w.heap.size) (hown : w.ownsRow base 39 2 v o.length (o.flatMap spCells))
    (hb : ∀ y ∈ o, SpB y) (f0 : 0 ≤ f) (f1 : f < 4294967296) (t0 : 0 ≤ t) (t1 : t < 4294967296) (hl : o.length ≤ 4294967296) (hc : o = [] ∨ ∃ p y, o = p ++ [y] ∧ ¬ f ≤ y.2 + 1) :
    Calls Tryz.prog 55 #[.pointer (some ⟨B, 0, none⟩), .int .i64 f, .int .i64 t] w fun e w' => e = .returned (.tuple #[]) ∧ ∃ v', w'.heap[B]? = some (.cells #[v'] 91 (0, 0)) ∧ w'.ownsRow base 39 2 v' (o ++ [(f, t)]).length ((o ++ [(f, t)]).flatMap spCells) ∧ PutB B base w w' := by
  obtain ⟨N, hN⟩ : ∃ N, o.length = N := ⟨_, rfl⟩
  rw [hN] at hown hl
  obtain ⟨i0, hi, hy0, hy1, hy2⟩ := info_parts infoSpan
  have Hi := Lib.hid hi; have Hy0 := Lib.hid hy0; have Hy1 := Lib.hid hy1; have Hy2 := Lib.hid hy2
  have cB := cell_of_one hw
  have fB := free_of_one hw
  haveI : LtSize B w := ⟨cell_lt' cB⟩
  have HF := Lib.hid (show (o ++ [(f, t)]).flatMap spCells = o.flatMap spCells ++ spCells (f, t) by simp)
  have HL := Lib.hid (show (o ++ [(f, t)]).length = N + 1 by rw [List.length_append, hN]; rfl)
  generalize o ++ [(f, t)] = O at *
  have Hown := Lib.hid hown
  have Hw := Lib.hid hw
  have hBw : B < w.heap.size := cell_lt' cB
  rcases hc with rfl | ⟨p, y, rfl, hcy⟩
  · have hN0 : N = 0 := by rw [← hN]; rfl
    subst hN0
    have hv : ∃ q c, v = .slice q 0 c := by
      rcases owns_sliceS hown with ⟨rfl, _⟩ | ⟨g, cap, rfl, _, _⟩ <;> exact ⟨_, _, rfl⟩
    obtain ⟨q, c, rfl⟩ := hv
    clear hown hw hN hi hy0 hy1 hy2
    go_enter Tryz.func55, Tryz.ntmps55
    go_wp2_with (at_builtin; refine wpList_append_own _ rfl _ _ 25 rfl base 39 i0 (.agg #[.int .u32 0, .int .u32 0]) 2 8 Tryz.underlying25 Hi.out Hy0.out Hy1.out Hy2.out rfl (by decide) _ _ _ rfl (owns_up Hown.out ((Up.refl w).alloc _)) ⟨w.heap.size, 0, none⟩ 1 1 (spCells (f, t)) rfl rfl (sp_atM w (f, t) _) (sp_one (f, t)) (by unfold maxLen; omega) (by omega) (by simp; omega) ?_; intro v' w1 hown' hgrow _; have hw1 : w1.heap[B]? = some (.cells #[_] 91 (0, 0)) := (hgrow.block B (lt_alloc _ hBw) (fun e => by have := owns_row Hown.out B e.symm; omega)).trans ((Below.heap_alloc w _ B hBw).trans Hw.out); obtain ⟨g1, cap1, rfl, hg1⟩ := owns_slice hown'; have cB1 := cell_of_one hw1; have fB1 := free_of_one hw1; have HW1 := Lib.hid hw1; have HO1 := Lib.hid hown'; have HG := Lib.hid hgrow; haveI : LtSize B w1 := ⟨cell_lt' cB1⟩; clear hw1 hown' hgrow cB fB)
    go_wp2_with fail
    go_end0
    refine ⟨rfl, _, one_setCell HW1.out, ?_, ((PutB.of_up ((Up.refl w).alloc _)).trans (PutB.of_grown HG.out (fun k hk => owns_row Hown.out k hk))).trans (PutB.set w1 _)⟩
    rw [HL.out, HF.out]
    exact owns_setBlock HO1.out (a := ⟨B, 0, none⟩) hB _
  · obtain ⟨m, hm⟩ : ∃ m, p.length = m := ⟨_, rfl⟩
    have hNm : N = m + 1 := by rw [← hN, ← hm]; simp
    obtain ⟨rfl, h0⟩ | ⟨g, cap, rfl, hg, hgw⟩ := owns_sliceS hown
    · omega
    haveI : LtSize g w := ⟨hgw⟩
    have cy : w.cell? ⟨g, m * 2 + 1, none⟩ = some (.int .u32 y.2) := by
      have := World.ownsRow.cellAt hown (m * 2 + 1) (by omega)
      rw [this]
      exact flat_at (cells := spCells) (k := 2) (fun x => rfl) (p ++ [y]) m 1 y (.int .u32 y.2) (by simp [← hm]) rfl
    obtain ⟨yf0, yf1, yt0, yt1⟩ := hb y (by simp)
    have hN0 : (0 : Int) < (N : Int) := by omega
    have hN0' : decide (0 < N) = true := decide_eq_true (by omega)
    have hNk : (N : Int) - 1 = (m : Int) := by omega
    have m0 : (0 : Int) ≤ (m : Int) := by omega
    have mN : (m : Int) < (N : Int) := by omega
    haveI : In64 (m : Int) := ⟨by omega⟩
    haveI : In64 (y.2 + 1) := ⟨by omega⟩
    have hd : decide (f ≤ y.2 + 1) = false := decide_eq_false hcy
    clear hown hw hN hi hy0 hy1 hy2 hm hNm hb
    generalize (p ++ [y]).flatMap spCells = xs at *
    go_enter Tryz.func55, Tryz.ntmps55
    go_wp2_with (at_builtin; refine wpList_append_own _ rfl _ _ 25 rfl base 39 i0 (.agg #[.int .u32 0, .int .u32 0]) 2 8 Tryz.underlying25 Hi.out Hy0.out Hy1.out Hy2.out rfl (by decide) _ _ _ rfl (owns_up Hown.out ((Up.refl w).alloc _)) ⟨w.heap.size, 0, none⟩ 1 1 (spCells (f, t)) rfl rfl (sp_atM w (f, t) _) (sp_one (f, t)) (by unfold maxLen; omega) (by omega) (by simp; omega) ?_; intro v' w1 hown' hgrow _; have hw1 : w1.heap[B]? = some (.cells #[_] 91 (0, 0)) := (hgrow.block B (lt_alloc _ hBw) (fun e => by have := owns_row Hown.out B e.symm; omega)).trans ((Below.heap_alloc w _ B hBw).trans Hw.out); obtain ⟨g1, cap1, rfl, hg1⟩ := owns_slice hown'; have cB1 := cell_of_one hw1; have fB1 := free_of_one hw1; have HW1 := Lib.hid hw1; have HO1 := Lib.hid hown'; have HG := Lib.hid hgrow; haveI : LtSize B w1 := ⟨cell_lt' cB1⟩; clear hw1 hown' hgrow cB fB)
    go_wp2_with fail
    go_end0
    refine ⟨rfl, _, one_setCell HW1.out, ?_, ((PutB.of_up ((Up.refl w).alloc _)).trans (PutB.of_grown HG.out (fun k hk => owns_row Hown.out k hk))).trans (PutB.set w1 _)⟩
    rw [HL.out, HF.out]
    exact owns_setBlock HO1.out (a := ⟨B, 0, none⟩) hB _
/-- What add does: the list's own law. -/
theorem spadd_any (o : List Sp) (f t : Int) (v : Value) (B base : Nat) (w : World) (hB : B < base) (hw : w.heap[B]? = some (.cells #[v] 91 (0, 0))) (hbase : base ≤ w.heap.size) (hown : w.ownsRow base 39 2 v o.length (o.flatMap spCells))
    (hb : ∀ y ∈ o, SpB y) (f0 : 0 ≤ f) (f1 : f < 4294967296) (t0 : 0 ≤ t) (t1 : t < 4294967296) (hl : o.length ≤ 4294967296) :
    Calls Tryz.prog 55 #[.pointer (some ⟨B, 0, none⟩), .int .i64 f, .int .i64 t] w fun e w' => e = .returned (.tuple #[]) ∧ ∃ v', w'.heap[B]? = some (.cells #[v'] 91 (0, 0)) ∧ w'.ownsRow base 39 2 v' (addL o f t).length ((addL o f t).flatMap spCells) ∧ PutB B base w w' := by
  rcases snoc_or o with rfl | ⟨p, y, rfl⟩
  · rw [addL_nil]
    exact spadd_out [] f t v B base w hB hw hbase hown hb f0 f1 t0 t1 hl (.inl rfl)
  · by_cases hc : f ≤ y.2 + 1
    · rw [addL_in p y f t hc]
      exact spadd_in p y f t v B base w hB hw hown (hb y (by simp)) f0 f1 t0 t1 (by simp at hl; omega) hc
    · rw [addL_out p y f t hc]
      exact spadd_out (p ++ [y]) f t v B base w hB hw hbase hown hb f0 f1 t0 t1 hl (.inr ⟨p, y, rfl, hc⟩)
end Go.Proofs.YtgfkcbflnkpogaaGreatDoor
