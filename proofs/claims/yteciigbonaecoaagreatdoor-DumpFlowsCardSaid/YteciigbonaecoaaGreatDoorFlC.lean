/- A flow turned into one of the reference: the law's own function. Arguments opened: a slice of flows. The list of laid variables of the rows that look at flows: what it gives; a world for the witness. -/
import Derived.Test.YteciigbonaecoaaGreatDoorFlB
import Derived.Test.YteciigbonaecoaaGreatDoorDDel
import Derived.Test.YteciigbonaecoaaGreatDoorDLOpen
import Derived.ChangeMaps5
import Derived.SliceStrings
import Derived.OpenShut
import Derived.WideShapes
import Derived.Test.YteciigbonaecoaaGreatDoorZLaid
import Derived.Test.YteciigbonaecoaaGreatDoorFlA
import Derived.Maps.Keyed
import Derived.WideKeyElems2
set_option linter.unusedSimpArgs false
set_option linter.unusedVariables false
namespace Go.Ab
open Go.RowKit Go.Proofs.YteciigbonaecoaaGreatDoor
def TSd.zero : TSd := ⟨false, false, 0, 0, 0⟩
def TSd.rl (s : TSd) : List Value := [.bool s.sn, .bool s.ac, .int .i64 s.nx, .int .i64 s.ak, .int .i64 s.sz]
def flowZ : Fl := ⟨0, 0, 0, 0, 0, 0, ⟨0, 0, 0, false, false, TSd.zero, TSd.zero⟩, 0, 0⟩
theorem insA_0 (a : TSd) : insA (rtrackA TSd.zero TSd.zero) 0 a.rl.toArray.toList = rtrackA a TSd.zero := rfl
theorem insA_5 (a b : TSd) : insA (rtrackA a TSd.zero) 5 b.rl.toArray.toList = rtrackA a b := rfl
def trK (a b : TSd) (k : Nat) : Array Value := if k = 0 then rtrackA TSd.zero TSd.zero else if k = 1 then rtrackA a TSd.zero else rtrackA a b
theorem i64_small (n : Int) (h0 : 0 ≤ n) (h1 : n < 4294967296) : IntKind.i64.wrap n = n := (IntWalk.i64_left _).trans (IntWalk.wrap64_in _ ⟨by omega, by omega⟩)
theorem track_in {W : World} {b o : Nat} {f : Fl} (h : W.rangeAt b o f.cells) : W.rangeAt b (o + 11) (trackA f.ph.a f.ph.b).toList := fun j u hj => by
  have : f.cells[11 + j]? = some u := by
    rw [show f.cells = f.cells.take 11 ++ ((trackA f.ph.a f.ph.b).toList ++ f.cells.drop 21) from rfl, List.getElem?_append_right (by simp [Fl.cells])]
    rw [List.getElem?_append_left (by have := (List.getElem?_eq_some_iff.1 hj).1; simpa [Fl.cells] using this)]
    simpa [Fl.cells] using hj
  rw [Nat.add_assoc]
  exact h _ u this
theorem side_one (s : TSd) : ∀ u ∈ s.rl.toArray.toList, u.oneCell' = true := fun u hu => by
  simp [TSd.rl] at hu
  rcases hu with rfl | rfl | rfl | rfl | rfl <;> rfl
theorem side_at0 {W : World} {L : Nat} {a b : TSd} {t : TypeId} {fr : Nat × Nat} (h : W.heap[L]? = some (.cells (rtrackA a b) t fr)) : W.rangeAt L 0 a.rl := fun j u hj => by
  rw [Nat.zero_add]
  refine row_cellF h j u ?_
  have hj5 : j < 5 := (List.getElem?_eq_some_iff.1 hj).1
  rw [show rtrackA a b = (a.rl ++ b.rl).toArray from rfl, List.getElem?_toArray, List.getElem?_append_left hj5]; exact hj
theorem side_at5 {W : World} {L : Nat} {a b : TSd} {t : TypeId} {fr : Nat × Nat} (h : W.heap[L]? = some (.cells (rtrackA a b) t fr)) : W.rangeAt L 5 b.rl := fun j u hj => by
  refine row_cellF h (5 + j) u ?_
  rw [show rtrackA a b = (a.rl ++ b.rl).toArray from rfl, List.getElem?_toArray, List.getElem?_append_right (by simp [TSd.rl])]
  simpa [TSd.rl] using hj
end Go.Ab
namespace Go.Proofs.YteciigbonaecoaaGreatDoor
open Go.RowKit Go.Ab
theorem rsideSize : (Tryz.prog.info? 51).map (·.size) = some 5 := by kernel_rfl
theorem sideSize : (Tryz.prog.info? 36).map (·.size) = some 5 := by kernel_rfl
theorem rflowSize : (Tryz.prog.info? 57).map (·.size) = some 23 := by kernel_rfl
theorem build_rside (s a : Bool) (n k z : Int) (w : World) : (Instr.build 51 #[(0, .bool s), (1, .bool a), (2, .int .i64 n), (3, .int .i64 k), (4, .int .i64 z)]).run Tryz.prog w = .ok (.agg (TSd.mk s a n k z).rl.toArray) w := by kernel_rfl
theorem build_rtr (a b : TSd) (w : World) : (Instr.build 53 #[(0, .agg a.rl.toArray), (1, .agg b.rl.toArray)]).run Tryz.prog w = .ok (.agg (rtrackA a b)) w := by kernel_rfl
theorem build_rph (p : Ph) (w : World) : (Instr.build 55 #[(0, .int .u8 p.kd), (1, .int .u8 p.st), (2, .int .u8 p.ty), (3, .bool p.rp), (4, .bool p.ss), (5, .agg (rtrackA p.a p.b))]).run Tryz.prog w = .ok (.agg p.rarr) w := by kernel_rfl
theorem build_rfl (f : Fl) (w : World) : (Instr.build 57 #[(0, .agg #[.int .u8 f.pr, .int .u32 f.s, .int .u32 f.d, .int .u16 f.sp, .int .u16 f.dp]), (1, .int .u8 f.sd), (2, .agg f.ph.rarr), (3, .int .i64 f.dl), (4, .int .i64 f.sn)]).run Tryz.prog w = .ok (.agg f.rcells.toArray) w := by kernel_rfl
theorem wpList_indexF {P : Program} {ops : Array Oper} {rest : List Oper} {o : Oper} {a : Act} {w : World} {Q : Exit → Act → World → Prop} (hgd : o.guard = none) (ty : TypeId) (x y : Operand) (ho : o.op = .index ty x y) (v : Value) (hr : (execOp a.eval o).run P w = .ok (.value v) w)
    (h : wpList P ops Q rest (a.put o.dst v) w) : wpList P ops Q (o :: rest) a w :=
  wpList_plain hgd fun K hK => by
    unfold Oper.wp
    rw [hr]
    exact hK _ _ h
theorem results_cell1 {P : Program} {fn : Func} {tmps : Array Value} {w : World} (i : Nat) (t : TypeId) (hres : fn.results = #[.cell i t]) (b : Nat) (hi : tmps.getD i undef = .pointer (some ⟨b, 0, none⟩)) (cs : List Value) (d : TypeDesc) (hc : w.rangeAt b 0 cs)
    (hu : P.underlying t = some d) (hd : d.isRow = true) (hs : (P.info? t).map (·.size) = some cs.length) : (results fn tmps).run P w = .ok (.agg cs.toArray) w := by
  have h := run_loadVar_mid (P := P) w b 0 t cs d hc hu hd hs
  have hi' : (tmps[i]?).getD undef = .pointer (some ⟨b, 0, none⟩) := by rw [← Array.getD_eq_getD_getElem?]; exact hi
  unfold results
  rw [hres]
  simp [hi', asAddr, Sem.run_bind, h]
theorem rarr_one (p : Ph) : p.rarr.all (·.oneCell') = true := by unfold Ph.rarr; simp [Value.oneCell']
theorem rcells_one (f : Fl) : f.rcells.toArray.all (·.oneCell') = true := by unfold Fl.rcells; simp [Value.oneCell']
set_option maxHeartbeats 32000000 in
set_option maxRecDepth 100000 in
theorem lflow_any (f : Fl) (b : FlB f) (w : World) : Gives Tryz.prog 15 #[.agg f.cells.toArray] w (.agg f.rcells.toArray) := by
  have hps : (Tryz.prog.info? 55).map (·.size) = some f.ph.rarr.size := rphaseSize
  have hts : (Tryz.prog.info? 38).map (·.size) = some (trackA f.ph.a f.ph.b).toList.length := trackSize
  have a5 : f.cells.toArray[5]? = some (.int .u8 f.sd) := rfl
  have a6 : f.cells.toArray[6]? = some (.int .u8 f.ph.kd) := rfl
  have a7 : f.cells.toArray[7]? = some (.int .u8 f.ph.st) := rfl
  have a8 : f.cells.toArray[8]? = some (.int .u8 f.ph.ty) := rfl
  have a9 : f.cells.toArray[9]? = some (.bool f.ph.rp) := rfl
  have a10 : f.cells.toArray[10]? = some (.bool f.ph.ss) := rfl
  have a21 : f.cells.toArray[21]? = some (.int .i64 f.dl) := rfl
  have a22 : f.cells.toArray[22]? = some (.int .i64 f.sn) := rfl
  have hkA := fun (W : World) (o : Nat) (h : W.rangeAt o 0 f.cells) => fkey_at h
  have htA := fun (W : World) (o : Nat) (h : W.rangeAt o 0 f.cells) => track_in h
  have hbp := fun W => build_rph f.ph W
  have hbf := fun W => build_rfl f W
  obtain ⟨fc, hfc⟩ : ∃ fc, f.cells = fc := ⟨_, rfl⟩
  rw [hfc] at a5 a6 a7 a8 a9 a10 a21 a22
  simp only [hfc] at hkA htA
  rw [hfc]
  clear hfc
  unfold Gives
  go_enter Tryz.func15, Tryz.ntmps15
  go_upto_region 2 with fail
  obtain ⟨A, hA⟩ : ∃ A, w.heap.size = A := ⟨_, rfl⟩
  rw [hA]
  refine wp_letter (fun W => UpI w W ∧ W.heap[A]? = some (.cells fc.toArray 42 (0, 0)) ∧ W.heap[A + 1]? = some (.cells flowZ.rcells.toArray 57 (0, 0)) ∧ W.heap[A + 1 + 1]? = some (.cells (rtrackA TSd.zero TSd.zero) 114 (0, 0)))
    ⟨inferInstance, (Below.heap_alloc _ _ _ (by rw [World.size_alloc, World.size_alloc, hA]; omega)).trans ((Below.heap_alloc _ _ _ (by rw [World.size_alloc, hA]; omega)).trans (alloc_new hA)), (Below.heap_alloc _ _ _ (by rw [World.size_alloc, World.size_alloc, hA]; omega)).trans (alloc_new (by rw [World.size_alloc, hA])), alloc_new (by rw [World.size_alloc, World.size_alloc, hA])⟩ ?_
  have hw2 : w.heap.size ≤ A + 1 + 1 := by rw [hA]; omega
  have hw1 : w.heap.size ≤ A + 1 := by rw [hA]; omega
  have ba := b.ta
  have bb := b.tb
  clear hA b
  rintro W ⟨uW, hF, hZ, hL⟩
  haveI := uW
  have hTr : W.rangeAt A 11 (trackA f.ph.a f.ph.b).toList := by
    have := htA W A (fun j u hj => by rw [Nat.zero_add]; exact row_cellF hF j u (by simpa using hj))
    rwa [Nat.zero_add] at this
  clear htA
  haveI : LtSize A W := ⟨(Array.getElem?_eq_some_iff.1 hF).1⟩
  obtain ⟨tl, htl⟩ : ∃ tl, (trackA f.ph.a f.ph.b).toList = tl := ⟨_, rfl⟩
  have hi0 : ∀ V, (Instr.index 38 (.agg tl.toArray) (.int .i64 0)).run Tryz.prog V = .ok (.agg #[.bool f.ph.a.sn, .bool f.ph.a.ac, .int .u32 f.ph.a.nx, .int .u32 f.ph.a.ak, .int .i64 f.ph.a.sz]) V := fun V => by rw [← htl]; kernel_rfl
  have hi1 : ∀ V, (Instr.index 38 (.agg tl.toArray) (.int .i64 1)).run Tryz.prog V = .ok (.agg #[.bool f.ph.b.sn, .bool f.ph.b.ac, .int .u32 f.ph.b.nx, .int .u32 f.ph.b.ak, .int .i64 f.ph.b.sz]) V := fun V => by rw [← htl]; kernel_rfl
  rw [htl] at hTr hts
  clear htl
  go_wp2_with (refine wpList_load_mid rfl 38 _ rfl A 11 rfl tl _ hTr Tryz.underlying38 rfl hts ?_)
  go_loopw [10] (fun i wr => ∃ k : Nat, k ≤ 2 ∧ i = .int .i64 (k : Int) ∧ Up w wr ∧ wr.heap[A]? = some (.cells fc.toArray 42 (0, 0)) ∧ wr.heap[A + 1]? = some (.cells flowZ.rcells.toArray 57 (0, 0)) ∧ wr.heap[A + 1 + 1]? = some (.cells (trK f.ph.a f.ph.b k) 114 (0, 0))) (fun i _ => 2 - (intOf i).toNat)
  case atStart => exact ⟨0, by decide, rfl, uW.up, hF, hZ, hL⟩
  case round =>
    clear hF hZ hL
    obtain ⟨k, hk, rfl, hu, hF, hZ, hL⟩ := hrel
    haveI : UpI w wr := ⟨hu⟩
    haveI : LtSize A wr := ⟨(Array.getElem?_eq_some_iff.1 hF).1⟩
    haveI : LtSize (A + 1) wr := ⟨(Array.getElem?_eq_some_iff.1 hZ).1⟩
    rcases (by omega : k = 0 ∨ k = 1 ∨ k = 2) with h | h | h
    all_goals subst h
    · have hl2 : (A + 1 + 1) < wr.heap.size := (Array.getElem?_eq_some_iff.1 hL).1
      have w1 : IntKind.i64.wrap f.ph.a.nx = f.ph.a.nx := i64_small _ ba.n0 ba.n1
      have w2 : IntKind.i64.wrap f.ph.a.ak = f.ph.a.ak := i64_small _ ba.k0 ba.k1
      haveI : LtSize (A + 1 + 1) wr := ⟨hl2⟩
      have hL' : wr.heap[A + 1 + 1]? = some (.cells (rtrackA TSd.zero TSd.zero) 114 (0, 0)) := hL
      go_wp2_with (first
        | (refine wpList_store_ins rfl 51 _ _ rfl (A + 1 + 1) 0 (TSd.rl f.ph.a).toArray rfl rfl 114 (rtrackA TSd.zero TSd.zero) (((upI : Up wr _).block (A + 1 + 1) (LtSize.lt (b := A + 1 + 1))).trans hL') rsideSize (by simp [rtrackA, TSd.rl]) (side_one _) ?_; refine wpList_letter (fun Z => UpI w Z ∧ Z.heap[A]? = some (.cells fc.toArray 42 (0, 0)) ∧ Z.heap[A + 1]? = some (.cells flowZ.rcells.toArray 57 (0, 0)) ∧ Z.heap[A + 1 + 1]? = some (.cells (rtrackA f.ph.a TSd.zero) 114 (0, 0))) ⟨⟨up_setRowG (upI : Up w _) hw2 _⟩, (setRow_other _ (A + 1 + 1) A _ (by omega)).trans (((upI : Up wr _).block A (Array.getElem?_eq_some_iff.1 hF).1).trans hF), (setRow_other _ (A + 1 + 1) (A + 1) _ (by omega)).trans (((upI : Up wr _).block (A + 1) (Array.getElem?_eq_some_iff.1 hZ).1).trans hZ), setRow_heap _ _ _ _ _ _ (((upI : Up wr _).block (A + 1 + 1) (LtSize.lt (b := A + 1 + 1))).trans hL')⟩ ?_; rintro Z9 ⟨uZ9, hF9, hZ9, hL9⟩)
        | (refine wpList_buildRun rfl 51 _ rfl #[(0, .bool f.ph.a.sn), (1, .bool f.ph.a.ac), (2, .int .i64 f.ph.a.nx), (3, .int .i64 f.ph.a.ak), (4, .int .i64 f.ph.a.sz)] (by kernel_rfl) _ _ (build_rside _ _ _ _ _ _) ?_))
      go_roundw
      case rel => exact ⟨0 + 1, by decide, by rfl, uZ9.up, hF9, hZ9, hL9⟩
      case measure => simp [intOf]
    · have hl2 : (A + 1 + 1) < wr.heap.size := (Array.getElem?_eq_some_iff.1 hL).1
      have w1 : IntKind.i64.wrap f.ph.b.nx = f.ph.b.nx := i64_small _ bb.n0 bb.n1
      have w2 : IntKind.i64.wrap f.ph.b.ak = f.ph.b.ak := i64_small _ bb.k0 bb.k1
      haveI : LtSize (A + 1 + 1) wr := ⟨hl2⟩
      have hL' : wr.heap[A + 1 + 1]? = some (.cells (rtrackA f.ph.a TSd.zero) 114 (0, 0)) := hL
      go_wp2_with (first
        | (refine wpList_store_ins rfl 51 _ _ rfl (A + 1 + 1) 5 (TSd.rl f.ph.b).toArray rfl rfl 114 (rtrackA f.ph.a TSd.zero) (((upI : Up wr _).block (A + 1 + 1) (LtSize.lt (b := A + 1 + 1))).trans hL') rsideSize (by simp [rtrackA, TSd.rl]) (side_one _) ?_; refine wpList_letter (fun Z => UpI w Z ∧ Z.heap[A]? = some (.cells fc.toArray 42 (0, 0)) ∧ Z.heap[A + 1]? = some (.cells flowZ.rcells.toArray 57 (0, 0)) ∧ Z.heap[A + 1 + 1]? = some (.cells (rtrackA f.ph.a f.ph.b) 114 (0, 0))) ⟨⟨up_setRowG (upI : Up w _) hw2 _⟩, (setRow_other _ (A + 1 + 1) A _ (by omega)).trans (((upI : Up wr _).block A (Array.getElem?_eq_some_iff.1 hF).1).trans hF), (setRow_other _ (A + 1 + 1) (A + 1) _ (by omega)).trans (((upI : Up wr _).block (A + 1) (Array.getElem?_eq_some_iff.1 hZ).1).trans hZ), setRow_heap _ _ _ _ _ _ (((upI : Up wr _).block (A + 1 + 1) (LtSize.lt (b := A + 1 + 1))).trans hL')⟩ ?_; rintro Z9 ⟨uZ9, hF9, hZ9, hL9⟩)
        | (refine wpList_buildRun rfl 51 _ rfl #[(0, .bool f.ph.b.sn), (1, .bool f.ph.b.ac), (2, .int .i64 f.ph.b.nx), (3, .int .i64 f.ph.b.ak), (4, .int .i64 f.ph.b.sz)] (by kernel_rfl) _ _ (build_rside _ _ _ _ _ _) ?_))
      go_roundw
      case rel => exact ⟨1 + 1, by decide, by rfl, uZ9.up, hF9, hZ9, hL9⟩
      case measure => simp [intOf]
    · have hL' : wr.heap[A + 1 + 1]? = some (.cells (rtrackA f.ph.a f.ph.b) 114 (0, 0)) := hL
      haveI : LtSize (A + 1 + 1) wr := ⟨(Array.getElem?_eq_some_iff.1 hL).1⟩
      have c5 := row_cellF hF 5 _ a5
      have c6 := row_cellF hF 6 _ a6
      have c7 := row_cellF hF 7 _ a7
      have c8 := row_cellF hF 8 _ a8
      have c9 := row_cellF hF 9 _ a9
      have c10 := row_cellF hF 10 _ a10
      have c21 := row_cellF hF 21 _ a21
      have c22 := row_cellF hF 22 _ a22
      have s0 := side_at0 hL'
      have s5 := side_at5 hL'
      have hKy := hkA wr A (fun j u hj => by rw [Nat.zero_add]; exact row_cellF hF j u (by simpa using hj))
      clear hkA a5 a6 a7 a8 a9 a10 a21 a22 hL hL'
      go_upto_region 8 with (first
        | (refine wpList_load_mid rfl 51 _ rfl (A + 1 + 1) 0 rfl (TSd.rl f.ph.a) _ s0 Tryz.underlying51 rfl rsideSize ?_)
        | (refine wpList_load_mid rfl 51 _ rfl (A + 1 + 1) 5 rfl (TSd.rl f.ph.b) _ s5 Tryz.underlying51 rfl rsideSize ?_)
        | (refine wpList_buildRun rfl 53 _ rfl #[(0, .agg (TSd.rl f.ph.a).toArray), (1, .agg (TSd.rl f.ph.b).toArray)] (by kernel_rfl) _ _ (build_rtr _ _ _) ?_)
        | (refine wpList_buildRun rfl 55 _ rfl #[(0, .int .u8 f.ph.kd), (1, .int .u8 f.ph.st), (2, .int .u8 f.ph.ty), (3, .bool f.ph.rp), (4, .bool f.ph.ss), (5, .agg (rtrackA f.ph.a f.ph.b))] (by kernel_rfl) _ _ (hbp _) ?_)
        | (refine wpList_store_row rfl 55 _ _ rfl _ f.ph.rarr rfl rfl 55 _ (alloc_new rfl) hps rfl (rarr_one _) ?_))
      obtain ⟨E, hE⟩ : ∃ E, wr.heap.size = E := ⟨_, rfl⟩
      rw [hE]
      refine wp_letter (fun Z => UpI wr Z ∧ Z.heap[E]? = some (.cells f.ph.rarr 55 (0, 0))) ⟨⟨UpI.row hE _⟩, setRow_heap _ _ _ _ _ _ (alloc_new hE)⟩ ?_
      clear hE s0 s5 c6 c7 c8 c9 c10
      rintro Z ⟨uZ, hZE⟩
      haveI := uZ
      haveI : UpI w Z := ⟨hu.trans uZ.up⟩
      haveI : LtSize E Z := ⟨(Array.getElem?_eq_some_iff.1 hZE).1⟩
      have d5 := uZ.up.cell_some' c5
      have d21 := uZ.up.cell_some' c21
      have d22 := uZ.up.cell_some' c22
      have hKz : Z.rangeAt A 0 [.int .u8 f.pr, .int .u32 f.s, .int .u32 f.d, .int .u16 f.sp, .int .u16 f.dp] := fun j u hj => uZ.up.cell_some' (hKy j u hj)
      go_wp2_with (first
        | (refine wpList_load_mid rfl 34 _ rfl A 0 rfl [.int .u8 f.pr, .int .u32 f.s, .int .u32 f.d, .int .u16 f.sp, .int .u16 f.dp] _ hKz Tryz.underlying34 rfl keySizeF ?_)
        | (refine wpList_load_row rfl 55 _ rfl E rfl 55 f.ph.rarr (0, 0) _ (((upI : Up Z _).block E (LtSize.lt (b := E))).trans hZE) Tryz.underlying55 rfl hps ?_)
        | (refine wpList_buildRun rfl 57 _ rfl #[(0, .agg #[.int .u8 f.pr, .int .u32 f.s, .int .u32 f.d, .int .u16 f.sp, .int .u16 f.dp]), (1, .int .u8 f.sd), (2, .agg f.ph.rarr), (3, .int .i64 f.dl), (4, .int .i64 f.sn)] (by kernel_rfl) _ _ (hbf _) ?_)
        | (refine wpList_store_row rfl 57 _ _ rfl (A + 1) f.rcells.toArray rfl rfl 57 flowZ.rcells.toArray (((upI : Up wr _).block (A + 1) (LtSize.lt (b := A + 1))).trans hZ) rflowSize rfl (rcells_one f) ?_; refine wpList_letter (fun Z => UpI w Z ∧ Z.heap[A + 1]? = some (.cells f.rcells.toArray 57 (0, 0))) ⟨⟨up_setRowG (upI : Up w _) hw1 _⟩, setRow_heap _ _ _ _ _ _ (((upI : Up wr _).block (A + 1) (LtSize.lt (b := A + 1))).trans hZ)⟩ ?_; rintro Z9 ⟨uZ9, hZ9⟩; haveI := uZ9))
      have hra9 : Z9.rangeAt (A + 1) 0 f.rcells := fun j u hj => by rw [Nat.zero_add]; exact row_cellF hZ9 j u (by simpa using hj)
      exact bodyPost_ret (v := .agg f.rcells.toArray) (results_cell1 2 57 Tryz.results15 (A + 1) rfl f.rcells _ hra9 Tryz.underlying57 rfl rflowSize) rfl ⟨rfl, mkI⟩
end Go.Proofs.YteciigbonaecoaaGreatDoor
namespace Go.Proofs.YteciigbonaecoaaGreatDoor
open Go.ChangeShapes Go.WideShapes Go.ChangeAt Go.RowKit Go.Ab Go.Joins
section
variable {H : Type} {enc : TypeId × Value → H} {W : World} {base : Nat} {sp : Nat → Bool} {held : Bool}
theorem cells_Fl : Tryz.prog.cellsOf 42 = 23 := by kernel_rfl
set_option maxRecDepth 100000 in
theorem fields_fl {P : Program} {w : World} {t : TypeId} {f0 f1 f2 f3 f4 : Field} {fuel : Nat} {cs : List Value} {x : DataW H × List MemPlace} (hs : P.underlying t = some (.struct #[f0, f1, f2, f3, f4])) (ho : f0.offset = 0 ∧ f1.offset = 5 ∧ f2.offset = 6 ∧ f3.offset = 21 ∧ f4.offset = 22) (hc : P.cellsOf f0.type = 5 ∧ P.cellsOf f1.type = 1 ∧ P.cellsOf f2.type = 15 ∧ P.cellsOf f3.type = 1 ∧ P.cellsOf f4.type = 1) (h : DataW.trod enc P w base sp held fuel t cs = some x) (hl : cs.length = 23) :
    ∃ (c0 c1 c2 c3 c4 c5 c6 c7 c8 c9 c10 c11 c12 c13 c14 c15 c16 c17 c18 c19 c20 c21 c22 : Value) (y0 y1 y2 y3 y4 : DataW H × List MemPlace) (n : Nat), cs = [c0, c1, c2, c3, c4, c5, c6, c7, c8, c9, c10, c11, c12, c13, c14, c15, c16, c17, c18, c19, c20, c21, c22] ∧ DataW.trod enc P w base sp held n f0.type [c0, c1, c2, c3, c4] = some y0 ∧ DataW.trod enc P w base sp held n f1.type [c5] = some y1 ∧ DataW.trod enc P w base sp held n f2.type [c6, c7, c8, c9, c10, c11, c12, c13, c14, c15, c16, c17, c18, c19, c20] = some y2 ∧ DataW.trod enc P w base sp held n f3.type [c21] = some y3 ∧ DataW.trod enc P w base sp held n f4.type [c22] = some y4 := by
  obtain ⟨xs, n, _, hx, _, hlen, hh⟩ := DataW.trod_struct hs h
  obtain ⟨o0, o1, o2, o3, o4⟩ := ho
  obtain ⟨k0, k1, k2, k3, k4⟩ := hc
  match cs, hl, xs, hlen with
  | [c0, c1, c2, c3, c4, c5, c6, c7, c8, c9, c10, c11, c12, c13, c14, c15, c16, c17, c18, c19, c20, c21, c22], _, [y0, y1, y2, y3, y4], _ =>
    exact ⟨c0, c1, c2, c3, c4, c5, c6, c7, c8, c9, c10, c11, c12, c13, c14, c15, c16, c17, c18, c19, c20, c21, c22, y0, y1, y2, y3, y4, n, rfl, by simpa [o0, k0] using hh 0 f0 rfl, by simpa [o1, k1] using hh 1 f1 rfl, by simpa [o2, k2] using hh 2 f2 rfl, by simpa [o3, k3] using hh 3 f3 rfl, by simpa [o4, k4] using hh 4 f4 rfl⟩
set_option maxRecDepth 100000 in
theorem fields_ph {P : Program} {w : World} {t : TypeId} {f0 f1 f2 f3 f4 f5 : Field} {fuel : Nat} {c0 c1 c2 c3 c4 c5 c6 c7 c8 c9 c10 c11 c12 c13 c14 : Value} {x : DataW H × List MemPlace} (hs : P.underlying t = some (.struct #[f0, f1, f2, f3, f4, f5])) (ho : f0.offset = 0 ∧ f1.offset = 1 ∧ f2.offset = 2 ∧ f3.offset = 3 ∧ f4.offset = 4 ∧ f5.offset = 5) (hc : P.cellsOf f0.type = 1 ∧ P.cellsOf f1.type = 1 ∧ P.cellsOf f2.type = 1 ∧ P.cellsOf f3.type = 1 ∧ P.cellsOf f4.type = 1 ∧ P.cellsOf f5.type = 10) (h : DataW.trod enc P w base sp held fuel t [c0, c1, c2, c3, c4, c5, c6, c7, c8, c9, c10, c11, c12, c13, c14] = some x) :
    ∃ (y0 y1 y2 y3 y4 y5 : DataW H × List MemPlace) (n : Nat), DataW.trod enc P w base sp held n f0.type [c0] = some y0 ∧ DataW.trod enc P w base sp held n f1.type [c1] = some y1 ∧ DataW.trod enc P w base sp held n f2.type [c2] = some y2 ∧ DataW.trod enc P w base sp held n f3.type [c3] = some y3 ∧ DataW.trod enc P w base sp held n f4.type [c4] = some y4 ∧ DataW.trod enc P w base sp held n f5.type [c5, c6, c7, c8, c9, c10, c11, c12, c13, c14] = some y5 := by
  obtain ⟨xs, n, _, hx, _, hlen, hh⟩ := DataW.trod_struct hs h
  obtain ⟨o0, o1, o2, o3, o4, o5⟩ := ho
  obtain ⟨k0, k1, k2, k3, k4, k5⟩ := hc
  match xs, hlen with
  | [y0, y1, y2, y3, y4, y5], _ =>
    exact ⟨y0, y1, y2, y3, y4, y5, n, by simpa [o0, k0] using hh 0 f0 rfl, by simpa [o1, k1] using hh 1 f1 rfl, by simpa [o2, k2] using hh 2 f2 rfl, by simpa [o3, k3] using hh 3 f3 rfl, by simpa [o4, k4] using hh 4 f4 rfl, by simpa [o5, k5] using hh 5 f5 rfl⟩
set_option maxRecDepth 100000 in
theorem open_side {fuel : Nat} {c0 c1 c2 c3 c4 : Value} {x : DataW H × List MemPlace} (h : DataW.trod enc Tryz.prog W base sp held fuel 36 [c0, c1, c2, c3, c4] = some x) : ∃ s : TSd, c0 = .bool s.sn ∧ c1 = .bool s.ac ∧ c2 = .int .u32 s.nx ∧ c3 = .int .u32 s.ak ∧ c4 = .int .i64 s.sz ∧ TSdB s := by
  obtain ⟨d3, d4, d5, d6, d7, v3, v4, v5, v6, v7, n', hk, k3, k4, k5, k6, k7⟩ := fields5 Tryz.underlying36 (by kernel_rfl) h rfl
  simp only [List.cons.injEq, and_true] at hk
  obtain ⟨rfl, rfl, rfl, rfl, rfl⟩ := hk
  obtain ⟨z0, e0, _⟩ := DataW.trod_bool Tryz.underlying4 k3
  obtain ⟨z1, e1, _⟩ := DataW.trod_bool Tryz.underlying4 k4
  obtain ⟨z2, e2, _, w2⟩ := DataW.trod_int Tryz.underlying31 k5
  obtain ⟨z3, e3, _, w3⟩ := DataW.trod_int Tryz.underlying31 k6
  obtain ⟨z4, e4, _, w4⟩ := DataW.trod_int Tryz.underlying3 k7
  simp only [List.cons.injEq, and_true] at e0 e1 e2 e3 e4
  exact ⟨⟨z0, z1, z2, z3, z4⟩, e0, e1, e2, e3, e4, ⟨(u32b w2).1, (u32b w2).2, (u32b w3).1, (u32b w3).2⟩⟩
set_option maxRecDepth 100000 in
theorem open_track {fuel : Nat} {c0 c1 c2 c3 c4 c5 c6 c7 c8 c9 : Value} {x : DataW H × List MemPlace} (h : DataW.trod enc Tryz.prog W base sp held fuel 38 [c0, c1, c2, c3, c4, c5, c6, c7, c8, c9] = some x) : ∃ (n : Nat) (y0 y1 : DataW H × List MemPlace), DataW.trod enc Tryz.prog W base sp held n 36 [c0, c1, c2, c3, c4] = some y0 ∧ DataW.trod enc Tryz.prog W base sp held n 36 [c5, c6, c7, c8, c9] = some y1 := by
  obtain ⟨xs, m, rfl, _, hlen, hxl, hat⟩ := DataW.trod_array Tryz.underlying38 h
  have k : Tryz.prog.cellsOf 36 = 5 := by kernel_rfl
  have h0 := hat 0 (by decide)
  have h1 := hat 1 (by decide)
  rw [k] at h0 h1
  match xs, hxl with
  | [y0, y1], _ => exact ⟨m, y0, y1, by simpa using h0, by simpa using h1⟩
set_option maxRecDepth 100000 in
/-- The cells of a flow. -/
theorem open_flow_at {fuel : Nat} {cs : List Value} {x : DataW H × List MemPlace} (h : DataW.trod enc Tryz.prog W base sp held fuel 42 cs = some x) (hl : cs.length = 23) : ∃ y : Fl, cs = y.cells ∧ FlB y := by
  obtain ⟨c0, c1, c2, c3, c4, c5, c6, c7, c8, c9, c10, c11, c12, c13, c14, c15, c16, c17, c18, c19, c20, c21, c22, y0, y1, y2, y3, y4, n, rfl, h0, h1, h2, h3, h4⟩ := fields_fl Tryz.underlying42 ⟨rfl, rfl, rfl, rfl, rfl⟩ ⟨by kernel_rfl, by kernel_rfl, by kernel_rfl, by kernel_rfl, by kernel_rfl⟩ h hl
  obtain ⟨p0, p1, p2, p3, p4, p5, m, g0, g1, g2, g3, g4, g5⟩ := fields_ph Tryz.underlying40 ⟨rfl, rfl, rfl, rfl, rfl, rfl⟩ ⟨by kernel_rfl, by kernel_rfl, by kernel_rfl, by kernel_rfl, by kernel_rfl, by kernel_rfl⟩ h2
  obtain ⟨_, _, _, s0, s1⟩ := open_track g5
  obtain ⟨sa, a0, a1, a2, a3, a4, ab⟩ := open_side s0
  obtain ⟨sb, q0, q1, q2, q3, q4, bb⟩ := open_side s1
  obtain ⟨z5, e5, _, w5⟩ := DataW.trod_int Tryz.underlying5 h1
  obtain ⟨z6, e6, _, w6⟩ := DataW.trod_int Tryz.underlying5 g0
  obtain ⟨z7, e7, _, w7⟩ := DataW.trod_int Tryz.underlying5 g1
  obtain ⟨z8, e8, _, w8⟩ := DataW.trod_int Tryz.underlying5 g2
  obtain ⟨z9, e9, _⟩ := DataW.trod_bool Tryz.underlying4 g3
  obtain ⟨z10, e10, _⟩ := DataW.trod_bool Tryz.underlying4 g4
  obtain ⟨z21, e21, _, w21⟩ := DataW.trod_int Tryz.underlying3 h3
  obtain ⟨z22, e22, _, w22⟩ := DataW.trod_int Tryz.underlying3 h4
  obtain ⟨d3, d4, d5, d6, d7, v3, v4, v5, v6, v7, n', hk, k3, k4, k5, k6, k7⟩ := fields5 Tryz.underlying34 (by kernel_rfl) h0 rfl
  simp only [List.cons.injEq, and_true] at hk
  obtain ⟨rfl, rfl, rfl, rfl, rfl⟩ := hk
  obtain ⟨z0, e0, _, w0⟩ := DataW.trod_int Tryz.underlying5 k3
  obtain ⟨z1, e1, _, w1⟩ := DataW.trod_int Tryz.underlying31 k4
  obtain ⟨z2, e2, _, w2⟩ := DataW.trod_int Tryz.underlying31 k5
  obtain ⟨z3, e3, _, w3⟩ := DataW.trod_int Tryz.underlying32 k6
  obtain ⟨z4, e4, _, w4⟩ := DataW.trod_int Tryz.underlying32 k7
  simp only [List.cons.injEq, and_true] at e0 e1 e2 e3 e4 e5 e6 e7 e8 e9 e10 e21 e22
  subst e0 e1 e2 e3 e4 e5 e6 e7 e8 e9 e10 e21 e22 a0 a1 a2 a3 a4 q0 q1 q2 q3 q4
  exact ⟨⟨z0, z1, z2, z3, z4, z5, ⟨z6, z7, z8, z9, z10, sa, sb⟩, z21, z22⟩, rfl, ⟨(u8b w0).1, (u8b w0).2, (u32b w1).1, (u32b w1).2, (u32b w2).1, (u32b w2).2, (u16b w3).1, (u16b w3).2, (u16b w4).1, (u16b w4).2, (u8b w5).1, (u8b w5).2, ⟨(u8b w6).1, (u8b w6).2, (u8b w7).1, (u8b w7).2, (u8b w8).1, (u8b w8).2⟩, (i64b w21).1, (i64b w21).2, (i64b w22).1, (i64b w22).2, ab, bb⟩⟩
set_option maxRecDepth 100000 in
theorem open_flows {r : Reach} {b0 : Nat} {v : Value} {d : DataW H} {p : List MemPlace} (hv : Value.okWide Tryz.prog W r b0 26 v) (h : DataW.Trod enc Tryz.prog W base sp held 26 v d p) : ∃ l : List Fl, FlRow W v l ∧ (∀ x ∈ l, FlB x) ∧ l.length ≤ maxLen := by
  obtain ⟨a0, len0, cap0, rfl⟩ := okWide_slice Tryz.underlying26 hv
  obtain ⟨fuel, hf⟩ := h
  rcases Go.Deep.open_slice Tryz.underlying26 hf with ⟨h0, _⟩ | ⟨a, len, cap, m, n, D, Pl, hcs, hb, hl, hm, hmm, hx, hi⟩
  · simp only [Value.cells, List.cons.injEq, and_true] at h0
    rw [h0]
    exact ⟨[], RowOf.nil W, fun x hx => (List.not_mem_nil hx).elim, Nat.zero_le _⟩
  · simp only [Value.cells, List.cons.injEq, and_true] at hcs
    rw [hcs]
    have hlm : len ≤ m := by rw [hmm]; split <;> omega
    obtain ⟨b, o, s⟩ := a
    have hall : ∀ i, i < len → ∃ y : Fl, FlB y ∧ s = none ∧ b < W.heap.size ∧ ∀ (j : Nat) u, y.cells[j]? = some u → W.cell? ⟨b, o + i * 23 + j, none⟩ = some u := by
      intro i hil
      obtain ⟨cs', hc, ht⟩ := hi i (by omega)
      rw [cells_Fl] at hc
      obtain ⟨_, hcl, hat⟩ := World.cells?_some hc
      obtain ⟨y, rfl, hyb⟩ := open_flow_at ht (by simpa using hcl)
      have h0 := hat 0 (by omega)
      have hi0 : s = none := by
        obtain ⟨cs0, hc0, ht0⟩ := hi 0 (by omega)
        rw [cells_Fl] at hc0
        obtain ⟨_, hcl0, hat0⟩ := World.cells?_some hc0
        have := hat0 0 (by omega)
        rw [List.getElem?_eq_getElem (by omega)] at this
        simpa [Addr.add] using World.cell?_spot this
      subst hi0
      have hcell : ∀ (j : Nat) u, y.cells[j]? = some u → W.cell? ⟨b, o + i * 23 + j, none⟩ = some u := by
        intro j u hj
        have hj8 : j < 23 := (List.getElem?_eq_some_iff.1 hj).1
        have := hat j hj8
        rw [hj] at this
        rw [← this]
        congr 1
        unfold Addr.add
        by_cases h1 : i * 23 = 0
        · rw [if_pos h1]
          by_cases h2 : j = 0
          · rw [if_pos h2, h1, h2]; rfl
          · rw [if_neg h2, h1, Nat.add_zero]
        · rw [if_neg h1]
          by_cases h2 : j = 0
          · rw [if_pos h2]; simp [h2]
          · rw [if_neg h2]
      exact ⟨y, hyb, rfl, cell_lt' (hcell 0 _ rfl), hcell⟩
    obtain ⟨l, hl2, hp⟩ := choose_list2 _ len hall
    refine ⟨l, ⟨some ⟨b, o, s⟩, cap, by rw [hl2], by rw [hl2]; exact hl, fun i e he => ?_⟩, fun x hx => ?_, by rw [hl2]; omega⟩
    · obtain ⟨_, h1, h2, h3⟩ := hp i e he
      subst h1
      exact ⟨b, o, rfl, h2, h3⟩
    · obtain ⟨i, hi⟩ := List.getElem?_of_mem hx
      exact (hp i x hi).1
/-- A nil slice has no capacity. -/
def NilOk (v : Value) : Prop := ∀ n c, v = .slice none n c → c = 0
set_option maxRecDepth 100000 in
theorem nilok_slice {t e : TypeId} (hu : Tryz.prog.underlying t = some (.slice e)) {r : Reach} {b0 : Nat} {v : Value} {d : DataW H} {p : List MemPlace} (hv : Value.okWide Tryz.prog W r b0 t v) (h : DataW.Trod enc Tryz.prog W base sp held t v d p) : NilOk v := by
  obtain ⟨a0, len0, cap0, rfl⟩ := okWide_slice hu hv
  obtain ⟨fuel, hf⟩ := h
  rcases Go.Deep.open_slice hu hf with ⟨h0, _⟩ | ⟨a, len, cap, m, n, D, Pl, hcs, _⟩
  · simp only [Value.cells, List.cons.injEq, and_true] at h0
    rw [h0]
    exact fun n c h => by cases h; rfl
  · simp only [Value.cells, List.cons.injEq, and_true] at hcs
    rw [hcs]
    exact fun n c h => by cases h
end
end Go.Proofs.YteciigbonaecoaaGreatDoor
namespace Go.Proofs.YteciigbonaecoaaGreatDoor.LF
open Go.ChangeShapes Go.WideShapes Go.ChangeAt Go.RowKit Go.Ab
def sidesL : List (List UInt8) := [insideW, outsideW]
/-- The rows' list. -/
def laidList : List (String × DataW Unit) := [("math/bits.deBruijn32tab", Rows.laid_math_bits_deBruijn32tab), ("math/bits.deBruijn64tab", Rows.laid_math_bits_deBruijn64tab), ("internal/strconv.uint64pow10", Rows.laid_internal_strconv_uint64pow10), ("unicode/utf8.acceptRanges", Rows.laid_unicode_utf8_acceptRanges), ("baffle/stream.answers", Rows.laid_baffle_stream_answers), ("baffle/pkt.names", Rows.laid_baffle_pkt_names), ("baffle/assured.byState", Rows.laid_baffle_assured_byState), ("baffle/assured.names", Rows.laid_baffle_assured_names), ("strconv.ErrRange", Rows.laid_strconv_ErrRange), ("strconv.ErrSyntax", Rows.laid_strconv_ErrSyntax), ("baffle/dump.sides", Rows.laid_baffle_dump_sides), ("unicode/utf8.first", Rows.laid_unicode_utf8_first)]
theorem star : "*" ++ "errors.errorString" = "*errors.errorString" := by decide
theorem rowErr (u : TypeId) (h : Tryz.prog.typeName? 3 u = some "*errors.errorString") : u = 273 :=
  typeName_ptr_named (nm := "errors.errorString") (by rw [star]; kernel_rfl) (by kernel_rfl) (by decide) u (by rw [star]; exact h)
theorem good_of {W : World} (h : laidMetH Tryz.prog laidList W) (hs : W.ShapedOpen Tryz.prog) : Good W := by
  have hL : laidMet Tryz.prog laidList W := h
  unfold laidList at hL
  refine ⟨?_, ?_, ?_, ?_⟩
  · exact cell_of_shapedOpen_int (P := Tryz.prog) (g := 7) (t := 3) (zero := #[.int .i64 0]) hs (of_decide_eq_true (by kernel_rfl)) (by kernel_rfl) rfl (by kernel_rfl) (by kernel_rfl) Tryz.underlying3
  · obtain ⟨a, s, hv, _, _, _⟩ := laid_sentinel hL.tail.tail.tail.tail.tail.tail.tail.tail.tail (g := 4) (ti := 140) (tp := 273) (te := 275) (ts := 9) (by kernel_rfl) (by kernel_rfl) Tryz.underlying140 rowErr Tryz.underlying273 Tryz.underlying275 rfl rfl Tryz.underlying9 (by kernel_rfl) (by kernel_rfl)
    exact ⟨_, by simpa using World.var?_cell (show Tryz.prog.globalNamed "strconv.ErrSyntax" = some 4 by kernel_rfl) hv 0, .inr ⟨_, _, rfl⟩⟩
  · obtain ⟨a, s, hv, _, _, _⟩ := laid_sentinel hL.tail.tail.tail.tail.tail.tail.tail.tail (g := 5) (ti := 140) (tp := 273) (te := 275) (ts := 9) (by kernel_rfl) (by kernel_rfl) Tryz.underlying140 rowErr Tryz.underlying273 Tryz.underlying275 rfl rfl Tryz.underlying9 (by kernel_rfl) (by kernel_rfl)
    exact ⟨_, by simpa using World.var?_cell (show Tryz.prog.globalNamed "strconv.ErrRange" = some 5 by kernel_rfl) hv 0, .inr ⟨_, _, rfl⟩⟩
  · exact Lib.tabIs_of_head (g := 6) (by kernel_rfl) (t := 269) (by kernel_rfl) Tryz.underlying269 Tryz.underlying210 (by kernel_rfl) (by kernel_rfl) hL.tail.tail
theorem namesL_of {W : World} (h : laidMetH Tryz.prog laidList W) : ∀ (i : Nat) s, namesL[i]? = some s → W.cell? ⟨3, i, none⟩ = some (.string ⟨s.toArray⟩) := by
  have hL : laidMet Tryz.prog laidList W := h
  unfold laidList at hL
  have hk : laidMet Tryz.prog (("baffle/pkt.names", strData namesL) :: _) W := hL.tail.tail.tail.tail.tail
  exact (strs_of_head (g := 3) (t := 181) (e := 9) (by kernel_rfl) (by kernel_rfl) Tryz.underlying181 Tryz.underlying9 (by kernel_rfl) (by kernel_rfl) hk).cell (by kernel_rfl)
theorem clsL_of {W : World} (h : laidMetH Tryz.prog laidList W) : ∀ (i : Nat) s, clsL[i]? = some s → W.cell? ⟨2, i, none⟩ = some (.string ⟨s.toArray⟩) := by
  have hL : laidMet Tryz.prog laidList W := h
  unfold laidList at hL
  have hk : laidMet Tryz.prog (("baffle/assured.names", strData clsL) :: _) W := hL.tail.tail.tail.tail.tail.tail.tail
  exact (strs_of_head (g := 2) (t := 171) (e := 9) (by kernel_rfl) (by kernel_rfl) Tryz.underlying171 Tryz.underlying9 (by kernel_rfl) (by kernel_rfl) hk).cell (by kernel_rfl)
theorem sidesL_of {W : World} (h : laidMetH Tryz.prog laidList W) : ∀ (i : Nat) s, sidesL[i]? = some s → W.cell? ⟨0, i, none⟩ = some (.string ⟨s.toArray⟩) := by
  have hL : laidMet Tryz.prog laidList W := h
  unfold laidList at hL
  have hk : laidMet Tryz.prog (("baffle/dump.sides", strData sidesL) :: _) W := hL.tail.tail.tail.tail.tail.tail.tail.tail.tail.tail
  exact (strs_of_head (g := 0) (t := 132) (e := 9) (by kernel_rfl) (by kernel_rfl) Tryz.underlying132 Tryz.underlying9 (by kernel_rfl) (by kernel_rfl) hk).cell (by kernel_rfl)
theorem goodN_of {W : World} (h : laidMetH Tryz.prog laidList W) (hs : W.ShapedOpen Tryz.prog) : GoodN W := ⟨good_of h hs, namesL_of h⟩
theorem goodD_of {W : World} (h : laidMetH Tryz.prog laidList W) (hs : W.ShapedOpen Tryz.prog) : GoodD W := ⟨goodN_of h hs, clsL_of h, sidesL_of h 0 _ rfl, sidesL_of h 1 _ rfl⟩
def u8Data (l : List Int) : DataW Unit := .agg (l.map fun n => .lit (.int .u8 n))
theorem byState_of {W : World} (h : laidMetH Tryz.prog laidList W) : ∀ (i : Nat) (n : Int), ([0, 0, 0, 1, 2, 2, 2, 3, 4] : List Int)[i]? = some n → W.cell? ⟨1, i, none⟩ = some (.int .u8 n) := by
  have hL : laidMet Tryz.prog laidList W := h
  unfold laidList at hL
  have hk : laidMet Tryz.prog (("baffle/assured.byState", u8Data [0, 0, 0, 1, 2, 2, 2, 3, 4]) :: _) W := hL.tail.tail.tail.tail.tail.tail
  obtain ⟨ps, ⟨g', t', cs, fuel, p, q, hg', ht', hvar, hd, _, _⟩, _⟩ := hk
  obtain rfl := Option.some.inj ((show Tryz.prog.globalNamed "baffle/assured.byState" = some 1 by kernel_rfl).symm.trans hg')
  obtain rfl := Option.some.inj ((show (Tryz.prog.globals[1]?).map (·.type) = some 158 by kernel_rfl).symm.trans ht')
  obtain ⟨xs, m, _, hx1, hlen, hxl, hat⟩ := DataW.trod_array Tryz.underlying158 hd
  have hc1 : Tryz.prog.cellsOf 5 = 1 := by kernel_rfl
  intro i n hn
  have hi : i < 9 := by have := (List.getElem?_eq_some_iff.1 hn).1; simpa using this
  have h1 := hat i hi
  rw [List.getElem?_eq_getElem (by omega)] at h1
  obtain ⟨c, hcc, hcd, _⟩ := DataW.trod_int Tryz.underlying5 h1
  rw [hc1, Nat.mul_one] at hcc
  simp only [Prod.mk.injEq] at hx1
  have hcn : c = n := by
    have h2 := hx1.1
    unfold u8Data at h2
    simp only [DataW.agg.injEq] at h2
    have h3 := congrArg (fun (l : List (DataW Unit)) => l[i]?) h2
    simp only [List.getElem?_map, hn, Option.map_some] at h3
    rw [List.getElem?_eq_getElem (by omega)] at h3
    simp only [Option.map_some, Option.some.injEq] at h3
    rw [hcd] at h3
    simpa using h3.symm
  subst hcn
  have := World.var?_cell (show Tryz.prog.globalNamed "baffle/assured.byState" = some 1 by kernel_rfl) hvar i
  rw [this]
  have h4 := congrArg (fun (l : List Value) => l[0]?) hcc
  simpa [List.getElem?_take, List.getElem?_drop] using h4
theorem answers_of {W : World} (h : laidMetH Tryz.prog laidList W) : ∃ bm, W.cell? ⟨10, 0, none⟩ = some (.map (some bm)) ∧ ∀ (t : Int) (W' : World), 0 ≤ t → t < 256 → Up W W' → (Instr.lookup 283 (.map (some bm)) (.int .u8 t) true).run Tryz.prog W' = .ok (.tuple #[.int .u8 (ansV t), .bool (ansB t)]) W' := by
  have hL : laidMet Tryz.prog laidList W := h
  unfold laidList at hL
  have hk := hL.tail.tail.tail.tail
  obtain ⟨ps, ⟨g', t', cs, fuel, p, q, hg', ht', hvar, hd, _, _⟩, _⟩ := hk
  obtain rfl := Option.some.inj ((show Tryz.prog.globalNamed "baffle/stream.answers" = some 10 by kernel_rfl).symm.trans hg')
  obtain rfl := Option.some.inj ((show (Tryz.prog.globals[10]?).map (·.type) = some 283 by kernel_rfl).symm.trans ht')
  rcases Go.WideElems.open_map Tryz.underlying283 hd with ⟨_, hx⟩ | ⟨bm, es, clock, m, rfl, hcs, hb, _, F, hx⟩
  · simp [Rows.laid_baffle_stream_answers] at hx
  simp only [Prod.mk.injEq] at hx
  have hcell : W.cell? ⟨10, 0, none⟩ = some (.map (some bm)) := by
    have := World.var?_cell (show Tryz.prog.globalNamed "baffle/stream.answers" = some 10 by kernel_rfl) hvar 0
    rw [Array.eq_one_of_toList hcs] at this
    simpa using this
  refine ⟨bm, hcell, fun t W' t0 t1 u => ?_⟩
  have hlt : bm < W.heap.size := (Array.getElem?_eq_some_iff.1 hb).1
  have hb' : W'.heap[bm]? = some (.map es clock) := (u.block bm hlt).trans hb
  have zero : (zeroValue 5).run Tryz.prog W' = .ok (.int .u8 0) W' := by kernel_rfl
  have hwf : (Lit.int .u8 t).wf = true := by simp [Lit.wf, IntKind.min, IntKind.max, IntKind.signed, IntKind.bits]; omega
  rcases Go.Maps.fit_look true (Go.Maps.int_keyed Tryz.underlying5) Tryz.underlying283 zero hb' F (Go.Maps.keyOf_int_mk Tryz.underlying5 hwf) with ⟨hrun, _, hat⟩ | ⟨e0, y, _, _, hrun, hRv, hat, _⟩
  · have h1 := hat (.lit (.int .u8 99))
    rw [← hx.1] at h1
    have hno : ansB t = false := by
      unfold ansB
      by_cases e8 : t = 8
      · subst e8; cases h1
      by_cases e13 : t = 13
      · subst e13; cases h1
      by_cases e17 : t = 17
      · subst e17; cases h1
      simp [e8, e13, e17]
    have hv : ansV t = 0 := by
      unfold ansB at hno
      simp at hno
      unfold ansV
      rw [if_neg hno.1, if_neg hno.2.1, if_neg hno.2.2]
    rw [hno, hv]; exact hrun
  · have h1 := hat (.lit (.int .u8 1))
    have h2 := hat (.lit (.int .u8 2))
    rw [← hx.1] at h1 h2
    obtain ⟨r, hr, hy, _⟩ := Go.WideElems.elemAt_int Tryz.underlying5 hRv
    rw [hy] at h1 h2
    rw [hr] at hrun
    by_cases e8 : t = 8
    · subst e8
      have h4 : (DataW.lit (Lit.int .u8 0) : DataW Unit) = .lit (.int .u8 r) := h1
      cases h4
      exact hrun
    by_cases e13 : t = 13
    · subst e13
      have h4 : (DataW.lit (Lit.int .u8 14) : DataW Unit) = .lit (.int .u8 r) := h1
      cases h4
      exact hrun
    by_cases e17 : t = 17
    · subst e17
      have h4 : (DataW.lit (Lit.int .u8 18) : DataW Unit) = .lit (.int .u8 r) := h1
      cases h4
      exact hrun
    exfalso
    have f8 : ¬ (8 : Int) = t := fun e => e8 e.symm
    have f13 : ¬ (13 : Int) = t := fun e => e13 e.symm
    have f17 : ¬ (17 : Int) = t := fun e => e17 e.symm
    simp [Rows.laid_baffle_stream_answers, DataW.atKey, List.find?, Lit.sameKey, e8, e13, e17, f8, f13, f17] at h1 h2
    rw [← h1] at h2
    cases h2
theorem goodF_of {W : World} (h : laidMetH Tryz.prog laidList W) (hs : W.ShapedOpen Tryz.prog) : GoodF W := ⟨goodD_of h hs, answers_of h, byState_of h⟩
end Go.Proofs.YteciigbonaecoaaGreatDoor.LF
namespace Go.Proofs.YteciigbonaecoaaGreatDoor.LF
open Go.ChangeShapes Go.WideShapes Go.ChangeAt Go.RowKit Go.Ab
noncomputable def low : Nat := (World.holding Tryz.prog default ⟨#[], #[], []⟩).heap.size
/-- The cells of a laid table, in text order. -/
def flat (d : DataW Unit) : Array Value :=
  let one : DataW Unit → List Value := fun
    | .lit (.int k z) => [.int k z]
    | .lit (.string s) => [.string ⟨s.toArray⟩]
    | _ => []
  match d with
  | .agg l => (l.flatMap fun
    | .agg l2 => l2.flatMap one
    | x => one x).toArray
  | _ => #[]
noncomputable def laidWorld (os : Os) : World :=
  let w0 := World.holding Tryz.prog os ⟨#[.cells #[.string ⟨#[118, 97, 108, 117, 101, 32, 111, 117, 116, 32, 111, 102, 32, 114, 97, 110, 103, 101]⟩] 275, .cells #[.string ⟨#[105, 110, 118, 97, 108, 105, 100, 32, 115, 121, 110, 116, 97, 120]⟩] 275, .map #[⟨.int .u8 8, .int .u8 0, 0⟩, ⟨.int .u8 13, .int .u8 14, 1⟩, ⟨.int .u8 17, .int .u8 18, 2⟩] 3], #[], []⟩
  let put (h : Array Obj) (g : Nat) (cs : Array Value) : Array Obj := h.modify g fun
    | .cells _ t frozen => .cells cs t frozen
    | o => o
  let h1 := put w0.heap 11 (flat Rows.laid_math_bits_deBruijn32tab)
  let h2 := put h1 12 (flat Rows.laid_math_bits_deBruijn64tab)
  let h3 := put h2 6 (flat Rows.laid_internal_strconv_uint64pow10)
  let h4 := put h3 9 (flat Rows.laid_unicode_utf8_acceptRanges)
  let h4a := put h4 1 (flat Rows.laid_baffle_assured_byState)
  let h4b := put h4a 10 #[.map (some (low + 2))]
  let h5 := put h4b 3 (flat Rows.laid_baffle_pkt_names)
  let h6 := put h5 2 (flat Rows.laid_baffle_assured_names)
  let h7 := put h6 5 #[.iface 273 (.pointer (some ⟨low, 0, none⟩))]
  let h8 := put h7 4 #[.iface 273 (.pointer (some ⟨low + 1, 0, none⟩))]
  let h9 := put h8 0 (flat Rows.laid_baffle_dump_sides)
  let h10 := put h9 8 (flat Rows.laid_unicode_utf8_first)
  { w0 with heap := h10 }
set_option maxRecDepth 100000 in
theorem laid_met (os : Os) (args : Array Value) : laidMet Tryz.prog laidList ((laidWorld os).forCall (fun _ _ => 0) ⟨#[], args, []⟩).memory :=
  laidMet_of_run' 8 (by kernel_rfl) (by kernel_rfl)
end Go.Proofs.YteciigbonaecoaaGreatDoor.LF
