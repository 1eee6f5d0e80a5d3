/- dump.Of of a flow of a side that there is not: the error, and no line. -/
import Derived.Test.YtlbbepgfjigjpaaGreatDoorSmQ
set_option linter.unusedSimpArgs false
set_option linter.unusedVariables false
namespace Go.Ab
open Go.RowKit Go.Proofs.YtlbbepgfjigjpaaGreatDoor
structure TSd where
  sn : Bool
  ac : Bool
  nx : Int
  ak : Int
  sz : Int
def TSd.isZero (s : TSd) : Bool := !s.sn && (!s.ac && (s.nx == 0 && (s.ak == 0 && s.sz == 0)))
/-- A phase: its kind, state, type, whether it is replied, assured; its two sides. -/
structure Ph where
  kd : Int
  st : Int
  ty : Int
  rp : Bool
  ss : Bool
  a : TSd
  b : TSd
def trackA (a b : TSd) : Array Value := #[.bool a.sn, .bool a.ac, .int .u32 a.nx, .int .u32 a.ak, .int .i64 a.sz, .bool b.sn, .bool b.ac, .int .u32 b.nx, .int .u32 b.ak, .int .i64 b.sz]
def Ph.arr (p : Ph) : Array Value := #[.int .u8 p.kd, .int .u8 p.st, .int .u8 p.ty, .bool p.rp, .bool p.ss, .bool p.a.sn, .bool p.a.ac, .int .u32 p.a.nx, .int .u32 p.a.ak, .int .i64 p.a.sz, .bool p.b.sn, .bool p.b.ac, .int .u32 p.b.nx, .int .u32 p.b.ak, .int .i64 p.b.sz]
end Go.Ab
namespace Go.Proofs.YtlbbepgfjigjpaaGreatDoor
open Go.RowKit Go.Ab
/-- The facts of a packet with a kind and a type. -/
def factsA (kd ty : Int) : Array Value := #[.int .u8 0, .int .u32 0, .int .u32 0, .int .u16 0, .int .u16 0, .int .u8 kd, .int .u8 0, .int .u8 ty, .int .u8 0, .int .u32 0, .int .u32 0, .int .i64 0, .int .i64 0, .int .u8 0, .int .u32 0, .int .u32 0, .int .u16 0, .int .u16 0, .int .u8 0]
def streamA (kd st ty : Int) : Array Value := #[.int .u8 kd, .int .u8 st, .int .u8 ty]
set_option maxHeartbeats 4000000 in
set_option maxRecDepth 100000 in
theorem opens1_any (cs : Array Value) (w : World) : Gives Tryz.prog 160 #[.agg cs] w (.bool true) := by
  unfold Gives
  go_enter Tryz.func160, Tryz.ntmps160
  go_wp2_with fail
  go_ret
  exact ⟨rfl, mkI⟩
theorem wpList_load_rowF {P : Program} {ops : Array Oper} {rest : List Oper} {o : Oper} {a : Act} {w : World} {Q : Exit → Act → World → Prop} (ty : TypeId) (x : Operand) (ho : o.op = .load ty x) (g : Nat) (hx : a.eval x = .pointer (some ⟨g, 0, none⟩)) (hw : Region.wanted o (yielded ops a.tmps) = true) (t : TypeId) (cs : Array Value) (fr : Nat × Nat) (d : TypeDesc) (hg : w.heap[g]? = some (.cells cs t fr))
    (hu : P.underlying ty = some d) (hd : (match d with | .struct _ | .array _ _ => true | _ => false) = true) (hi : (P.info? ty).map (·.size) = some cs.size)
    (h : wpList P ops Q rest (a.put o.dst (.agg cs)) w) : wpList P ops Q (o :: rest) a w :=
  wpList_step fun K hK => by rw [if_pos hw]; exact wp_load_row ty x ho g hx t cs fr d hg hu hd hi (hK _ _ h)
theorem factsSize : (Tryz.prog.info? 208).map (·.size) = some 19 := by kernel_rfl
theorem free_atF {w : World} {b : Nat} {cs : Array Value} {t : TypeId} (h : w.heap[b]? = some (.cells cs t (0, 0))) (i : Nat) : w.frozen? ⟨b, i, none⟩ = false := by
  simp [World.frozen?, h]
theorem row_cellF {w : World} {b : Nat} {cs : Array Value} {t : TypeId} {fr : Nat × Nat} (h : w.heap[b]? = some (.cells cs t fr)) (j : Nat) (u : Value) (hu : cs[j]? = some u) : w.cell? ⟨b, j, none⟩ = some u := by rw [cell_of_row w b j _ _ _ h, hu]
theorem run_store_funcO {P : Program} {w : World} {a : Addr} {m : Mode} (f : Fn) (b c : Array Value) : (store a (.func f b c) m).run P w = stored P w a (.func f b c) m := run_store P w a _ m rfl
attribute [local go_sem] run_store_funcO
set_option maxHeartbeats 4000000 in
set_option maxRecDepth 100000 in
theorem kinds2 (w : World) : Gives Tryz.prog 151 #[.int .u8 2] w (.tuple #[.agg #[.func (.func 160) #[] #[], .func (.func 161) #[] #[]], .bool true]) := by
  unfold Gives
  go_enter Tryz.func151, Tryz.ntmps151
  go_wp2_with fail
  exact bodyPost_ret (v := .tuple #[.agg #[.func (.func 160) #[] #[], .func (.func 161) #[] #[]], .bool true]) (by simp [results, Tryz.results151, go_sem]) rfl ⟨rfl, mkI⟩
set_option maxHeartbeats 16000000 in
set_option maxRecDepth 100000 in
theorem sopen2 (w : World) : Gives Tryz.prog 129 #[.agg (factsA 2 0)] w (.tuple #[.agg (streamA 2 1 0), .bool true]) := by
  have hK := fun W => kinds2 W
  have hO1 := fun W => opens1_any (factsA 2 0) W
  have hf5 : (factsA 2 0)[5]? = some (.int .u8 2) := rfl
  have hf7 : (factsA 2 0)[7]? = some (.int .u8 0) := rfl
  have hfs : (Tryz.prog.info? 208).map (·.size) = some (factsA 2 0).size := factsSize
  generalize factsA 2 0 = fa at *
  unfold Gives
  go_enter Tryz.func129, Tryz.ntmps129
  go_upto_region 1 with fail
  obtain ⟨A, hA⟩ : ∃ A, w.heap.size = A := ⟨_, rfl⟩
  rw [hA]
  refine wp_letter (fun W => UpI w W ∧ W.heap[A]? = some (.cells fa 208 (0, 0)) ∧ W.heap[A + 1]? = some (.cells (streamA 0 0 0) 177 (0, 0)) ∧ W.heap.size = A + 2)
    ⟨inferInstance, (Below.heap_alloc _ _ _ (by rw [World.size_alloc, hA]; exact Nat.lt_succ_self _)).trans (alloc_new hA), alloc_new (by rw [World.size_alloc, hA]), by rw [World.size_alloc, World.size_alloc, hA]⟩ ?_
  haveI : GeSize w (A + 1) := ⟨by rw [hA]; exact Nat.le_succ A⟩
  clear hA
  rintro W ⟨uW, hRA, hRB, hS⟩
  haveI := uW
  have f0 := free_atF hRB 0
  have f1 := free_atF hRB 1
  have f2 := free_atF hRB 2
  have c5 := row_cellF hRA 5 _ hf5
  have c7 := row_cellF hRA 7 _ hf7
  have d0 : W.cell? ⟨A + 1, 0, none⟩ = some (.int .u8 0) := row_cellF hRB 0 _ rfl
  have d1 : W.cell? ⟨A + 1, 1, none⟩ = some (.int .u8 0) := row_cellF hRB 1 _ rfl
  have d2 : W.cell? ⟨A + 1, 2, none⟩ = some (.int .u8 0) := row_cellF hRB 2 _ rfl
  haveI : LtSize A W := ⟨by omega⟩
  haveI : LtSize (A + 1) W := ⟨by omega⟩
  go_wp2_with (first
    | (refine wpList_load_rowF 208 _ rfl A rfl (by first | kernel_rfl | rfl) 208 fa (0, 0) _ (((upI : Up W _).block A (LtSize.lt (b := A))).trans hRA) Tryz.underlying208 rfl hfs ?_)
    | (go_at_call 151; (with_reducible refine (hK _).mono ?_); rintro e w' ⟨rfl, z1, rfl⟩)
    | (go_at_call 160; (with_reducible refine (hO1 _).mono ?_); rintro e w' ⟨rfl, z2, rfl⟩))
  exact bodyPost_ret (v := .tuple #[.agg (streamA 2 1 0), .bool true]) (by simp [results, Tryz.results129, go_sem, streamA, d0, d1, d2]) rfl ⟨rfl, mkI⟩
theorem eq_stream (w : World) (a b c a' b' c' : Int) : (Op.equalIn 10000 177 (.agg #[.int .u8 a, .int .u8 b, .int .u8 c]) (.agg #[.int .u8 a', .int .u8 b', .int .u8 c'])).run Tryz.prog w = .ok (a == a' && (b == b' && c == c')) w := by
  cases h1 : (a == a') <;> cases h2 : (b == b') <;> cases h3 : (c == c') <;> simp [go_sem, h1, h2, h3] <;> simp_all
theorem build_facts (kd ty : Int) (w : World) : (Instr.build 208 #[(1, .int .u8 kd), (3, .int .u8 ty)]).run Tryz.prog w = .ok (.agg (factsA kd ty)) w := by kernel_rfl
end Go.Proofs.YtlbbepgfjigjpaaGreatDoor
namespace Go.Proofs.YtlbbepgfjigjpaaGreatDoor
open Go.RowKit Go.Ab
attribute [local go_sem high] eq_stream
set_option maxHeartbeats 16000000 in
set_option maxRecDepth 100000 in
theorem sright2 (w : World) : Gives Tryz.prog 100 #[.agg #[.int .u8 2, .int .u8 1, .int .u8 0]] w (.bool true) := by
  have hO := fun W => sopen2 W
  unfold factsA streamA at hO
  unfold Gives
  go_enter Tryz.func100, Tryz.ntmps100
  go_wp2_with (first
    | (refine wpList_buildRun rfl 208 _ rfl #[(1, .int .u8 2), (3, .int .u8 0)] (by kernel_rfl) _ _ (build_facts 2 0 _) ?_; unfold factsA)
    | (go_at_call 129; (with_reducible refine (hO _).mono ?_); rintro e w' ⟨rfl, z1, rfl⟩))
  all_goals go_ret
  all_goals exact ⟨rfl, mkI⟩
end Go.Proofs.YtlbbepgfjigjpaaGreatDoor
namespace Go.Proofs.YtlbbepgfjigjpaaGreatDoor
open Go.RowKit Go.Ab
theorem load_midF {P : Program} {ops : Array Oper} {rest : List Oper} {o : Oper} {a : Act} {w : World} {Q : Exit → Act → World → Prop} (ty : TypeId) (x : Operand) (ho : o.op = .load ty x)
    (b f : Nat) (hx : a.eval x = .pointer (some ⟨b, f, none⟩)) (hw : Region.wanted o (yielded ops a.tmps) = true) (cs : List Value) (d : TypeDesc) (hc : w.rangeAt b f cs)
    (hu : P.underlying ty = some d) (hd : d.isRow = true) (hi : (P.info? ty).map (·.size) = some cs.length) (h : wpList P ops Q rest (a.put o.dst (.agg cs.toArray)) w) : wpList P ops Q (o :: rest) a w :=
  wpList_step fun K hK => by rw [if_pos hw]; exact wp_load_mid ty x ho b f hx cs d hc hu hd hi (hK _ _ h)
theorem buildRunF {P : Program} {ops : Array Oper} {rest : List Oper} {o : Oper} {a : Act} {w : World} {Q : Exit → Act → World → Prop} (t : TypeId) (parts : Array (Nat × Operand)) (ho : o.op = .build t parts) (hw : Region.wanted o (yielded ops a.tmps) = true) (ps : Array (Nat × Value)) (hp : (parts.map fun (i, x) => (i, a.eval x)) = ps) (v : Value) (w' : World)
    (hr : (Instr.build t ps).run P w = .ok v w') (h : wpList P ops Q rest (a.put o.dst v) w') : wpList P ops Q (o :: rest) a w :=
  wpList_step fun K hK => by rw [if_pos hw]; exact wp_buildRun t parts ho ps hp v w' hr (hK _ _ h)
def trackZ : Array Value := trackA ⟨false, false, 0, 0, 0⟩ ⟨false, false, 0, 0, 0⟩
theorem build_track (w : World) : (Instr.build 54 #[]).run Tryz.prog w = .ok (.agg trackZ) w := by kernel_rfl
set_option maxHeartbeats 8000000 in
set_option maxRecDepth 100000 in
theorem eq_side (s a : Bool) (n k z : Int) (w : World) : (Op.equalIn 9999 52 (.agg #[.bool s, .bool a, .int .u32 n, .int .u32 k, .int .i64 z]) (.agg #[.bool false, .bool false, .int .u32 0, .int .u32 0, .int .i64 0])).run Tryz.prog w = .ok (!s && (!a && (n == 0 && (k == 0 && z == 0)))) w := by
  cases s
  case true => simp [go_sem]
  cases a
  case true => simp [go_sem]
  cases h1 : (n == 0)
  · simp [go_sem, h1]
  cases h2 : (k == 0)
  · simp [go_sem, h1, h2]
  cases h3 : (z == 0) <;> simp [go_sem, h1, h2, h3]
theorem eq_track (a b : TSd) (w : World) : (Op.equalIn 10000 54 (.agg (trackA a b)) (.agg trackZ)).run Tryz.prog w = .ok (a.isZero && b.isZero) w := by
  obtain ⟨s1, a1, n1, k1, z1⟩ := a
  obtain ⟨s2, a2, n2, k2, z2⟩ := b
  have h1 := fun W => eq_side s1 a1 n1 k1 z1 W
  have h2 := fun W => eq_side s2 a2 n2 k2 z2 W
  unfold trackZ trackA TSd.isZero
  refine (run_equalIn_array (P := Tryz.prog) (w := w) 9999 (t := 54) (e := 52) (n := 2) (i := (Tryz.prog.info? 52).getD default) _ _ Tryz.underlying54 (by kernel_rfl)).trans ?_
  rw [show Tryz.prog.cellsOf 52 = 5 by kernel_rfl, show List.range 2 = [0, 1] from rfl]
  dsimp only
  generalize (!s1 && (!a1 && (n1 == 0 && (k1 == 0 && z1 == 0)))) = B1 at *
  generalize (!s2 && (!a2 && (n2 == 0 && (k2 == 0 && z2 == 0)))) = B2 at *
  cases B1 <;> cases B2 <;> simp [Op.eqItems, go_sem, h1, h2]
theorem phaseSize : (Tryz.prog.info? 56).map (·.size) = some 15 := by kernel_rfl
theorem trackSize : (Tryz.prog.info? 54).map (·.size) = some 10 := by kernel_rfl
set_option maxHeartbeats 4000000 in
set_option maxRecDepth 100000 in
theorem pflow_any (p : Ph) (w : World) : Gives Tryz.prog 101 #[.agg p.arr] w (.agg #[.int .u8 p.kd, .int .u8 p.st, .int .u8 p.ty]) := by
  unfold Ph.arr
  unfold Gives
  go_enter Tryz.func101, Tryz.ntmps101
  go_wp2_with fail
  first
    | (go_ret; exact ⟨rfl, mkI⟩)
    | exact bodyPost_ret (v := .agg #[.int .u8 p.kd, .int .u8 p.st, .int .u8 p.ty]) (by simp [results, Tryz.results101, go_sem]) rfl ⟨rfl, mkI⟩
theorem track_at {W : World} {b f : Nat} {p : Ph} (h : W.rangeAt b f p.arr.toList) : W.rangeAt b (f + 5) (trackA p.a p.b).toList := fun j u hj => by
  have : p.arr.toList[5 + j]? = some u := by
    rw [show p.arr.toList = (p.arr.toList.take 5) ++ (trackA p.a p.b).toList from rfl, List.getElem?_append_right (by simp [Ph.arr])]
    simpa [Ph.arr] using hj
  rw [Nat.add_assoc]
  exact h _ u this
/-- The phase of the one flow. -/
def phO : Ph := ⟨2, 1, 0, false, false, ⟨false, false, 0, 0, 0⟩, ⟨false, false, 0, 0, 0⟩⟩
set_option maxHeartbeats 32000000 in
set_option maxRecDepth 100000 in
theorem arightO (w : World) : Gives Tryz.prog 75 #[.agg phO.arr] w (.bool true) := by
  have hF := fun W => pflow_any phO W
  have hS := fun W => sright2 W
  have hps : (Tryz.prog.info? 56).map (·.size) = some phO.arr.size := phaseSize
  have hts0 : (Tryz.prog.info? 54).map (·.size) = some (trackA phO.a phO.b).toList.length := trackSize
  have hEq0 := fun W => eq_track phO.a phO.b W
  have hta := fun (W : World) (b f : Nat) (h : W.rangeAt b f phO.arr.toList) => track_at h
  have a0 : phO.arr[0]? = some (.int .u8 2) := rfl
  have a1 : phO.arr[1]? = some (.int .u8 1) := rfl
  have a2 : phO.arr[2]? = some (.int .u8 0) := rfl
  have a3 : phO.arr[3]? = some (.bool false) := rfl
  have a4 : phO.arr[4]? = some (.bool false) := rfl
  rw [show (phO.a.isZero && phO.b.isZero) = true from rfl] at hEq0
  rw [show phO.kd = 2 from rfl, show phO.st = 1 from rfl, show phO.ty = 0 from rfl] at hF
  obtain ⟨ta, hta1⟩ : ∃ ta, trackA phO.a phO.b = ta := ⟨_, rfl⟩
  obtain ⟨tz, htz1⟩ : ∃ tz, trackZ = tz := ⟨_, rfl⟩
  rw [hta1] at hts0 hEq0
  rw [htz1] at hEq0
  simp only [hta1] at hta
  have hts := hts0
  have build_track := fun W => build_track W
  rw [htz1] at build_track
  generalize phO.arr = pa at *
  clear hta1 htz1 hts0
  unfold Gives
  go_enter Tryz.func75, Tryz.ntmps75
  go_upto_region 1 with fail
  obtain ⟨A, hA⟩ : ∃ A, w.heap.size = A := ⟨_, rfl⟩
  rw [hA]
  refine wp_letter (fun W => UpI w W ∧ W.heap[A]? = some (.cells pa 56 (0, 0))) ⟨inferInstance, alloc_new hA⟩ ?_
  clear hA
  rintro W ⟨uW, hR⟩
  haveI := uW
  have c0 := row_cellF hR 0 _ a0
  have c1 := row_cellF hR 1 _ a1
  have c2 := row_cellF hR 2 _ a2
  have c3 := row_cellF hR 3 _ a3
  have c4 := row_cellF hR 4 _ a4
  haveI : LtSize A W := ⟨cell_lt c0⟩
  have hTr : ∀ V, UpI W V → V.rangeAt A 5 ta.toList := fun V h => by
    have := hta V A 0 (fun j u hj => by rw [Nat.zero_add]; exact h.up.cell_some' (row_cellF hR j u (by simpa using hj)))
    rwa [Nat.zero_add] at this
  clear hta a0 a1 a2 a3 a4
  have hEq : ∀ V, (Op.equalIn 10000 54 (.agg ta) (.agg tz)).run Tryz.prog V = .ok true V := hEq0
  clear hEq0
  go_wp2_with (first
    | (refine wpList_load_row rfl 56 _ rfl A rfl 56 pa (0, 0) _ (((upI : Up W _).block A (LtSize.lt (b := A))).trans hR) Tryz.underlying56 rfl hps ?_)
    | (refine load_midF 54 _ rfl A 5 rfl (by first | kernel_rfl | rfl) ta.toList _ (hTr _ inferInstance) Tryz.underlying54 rfl hts ?_)
    | (refine buildRunF 54 _ rfl (by first | kernel_rfl | rfl) #[] (by kernel_rfl) _ _ (build_track _) ?_)
    | (go_at_call 101; (with_reducible refine (hF _).mono ?_); rintro e w' ⟨rfl, z1, rfl⟩)
    | (go_at_call 100; (with_reducible refine (hS _).mono ?_); rintro e w' ⟨rfl, z2, rfl⟩))
  all_goals go_ret
  all_goals exact ⟨rfl, mkI⟩
set_option maxHeartbeats 16000000 in
set_option maxRecDepth 100000 in
theorem aclassO (w : World) : Gives Tryz.prog 42 #[.agg phO.arr] w (.tuple #[.int .u8 5, .bool true]) := by
  have hR := fun W => arightO W
  have hps : (Tryz.prog.info? 56).map (·.size) = some phO.arr.size := phaseSize
  have a0 : phO.arr[0]? = some (.int .u8 2) := rfl
  have a1 : phO.arr[1]? = some (.int .u8 1) := rfl
  generalize phO.arr = pa at *
  unfold Gives
  go_enter Tryz.func42, Tryz.ntmps42
  go_upto_region 1 with fail
  obtain ⟨A, hA⟩ : ∃ A, w.heap.size = A := ⟨_, rfl⟩
  rw [hA]
  refine wp_letter (fun W => UpI w W ∧ W.heap[A]? = some (.cells pa 56 (0, 0))) ⟨inferInstance, alloc_new hA⟩ ?_
  clear hA
  rintro W ⟨uW, hRw⟩
  haveI := uW
  have c0 := row_cellF hRw 0 _ a0
  have c1 := row_cellF hRw 1 _ a1
  haveI : LtSize A W := ⟨cell_lt c0⟩
  go_wp2_with (first
    | (refine wpList_load_row rfl 56 _ rfl A rfl 56 pa (0, 0) _ (((upI : Up W _).block A (LtSize.lt (b := A))).trans hRw) Tryz.underlying56 rfl hps ?_)
    | (go_at_call 75; (with_reducible refine (hR _).mono ?_); rintro e w' ⟨rfl, z1, rfl⟩))
  go_ret2
  exact ⟨rfl, mkI⟩
/-- The one flow. -/
def flO : List Value := [.int .u8 0, .int .u32 0, .int .u32 0, .int .u16 0, .int .u16 0, .int .u8 2] ++ phO.arr.toList ++ [.int .i64 0, .int .i64 0]
theorem wpList_letterO {P : Program} {ops : Array Oper} {Q : Exit → Act → World → Prop} {l : List Oper} {a : Act} {W : World} (p : World → Prop) (hp : p W) (h : ∀ Z, p Z → wpList P ops Q l a Z) : wpList P ops Q l a W := h W hp
theorem keySizeO : (Tryz.prog.info? 29).map (·.size) = some 5 := by kernel_rfl
theorem build_lnO (w : World) : (Instr.build 31 #[(0, .agg #[.int .u8 0, .int .u32 0, .int .u32 0, .int .u16 0, .int .u16 0]), (1, .int .u8 2), (2, .int .u8 5), (3, .bool false), (4, .bool false), (5, .int .i64 0), (6, .int .i64 0)]).run Tryz.prog w = .ok (.agg (Ln.mk 0 0 0 0 0 2 5 false false 0 0).cells.toArray) w := by kernel_rfl
theorem build_lnZO (w : World) : (Instr.build 31 #[]).run Tryz.prog w = .ok (.agg Ln.zero.cells.toArray) w := by kernel_rfl
theorem build_flO (w : World) : (Instr.build 58 #[(2, .agg phO.arr), (1, .int .u8 2)]).run Tryz.prog w = .ok (.agg flO.toArray) w := by kernel_rfl
theorem build_phO (w : World) : (Instr.build 56 #[(0, .int .u8 2), (1, .int .u8 1)]).run Tryz.prog w = .ok (.agg phO.arr) w := by kernel_rfl
set_option maxHeartbeats 32000000 in
set_option maxRecDepth 100000 in
theorem dofO (w : World) : Gives Tryz.prog 13 #[.agg flO.toArray] w (.tuple #[.agg Ln.zero.cells.toArray, .int .i64 380]) := by
  have hC := fun W => aclassO W
  have hB : LnB (Ln.mk 0 0 0 0 0 2 5 false false 0 0) := by constructor <;> first | (constructor <;> decide) | decide
  have hRt : ∀ W, Gives Tryz.prog 18 #[.agg (Ln.mk 0 0 0 0 0 2 5 false false 0 0).cells.toArray] W (.bool false) := fun W => (dright_any (Ln.mk 0 0 0 0 0 2 5 false false 0 0) W hB).cast rfl
  have hbl := fun W => build_lnO W
  have hps : (Tryz.prog.info? 56).map (·.size) = some phO.arr.toList.length := phaseSize
  have hphA : ∀ (W : World) (o : Nat), W.rangeAt o 0 flO → W.rangeAt o 6 phO.arr.toList := fun W o h j u hj => by
    have hj5 : j < 15 := (List.getElem?_eq_some_iff.1 hj).1
    have := h (6 + j) u (by rw [flO, List.append_assoc, List.getElem?_append_right (by simp), List.getElem?_append_left (show 6 + j - 6 < 15 by omega)]; simpa using hj)
    rwa [Nat.zero_add] at this
  have hkA : ∀ (W : World) (o : Nat), W.rangeAt o 0 flO → W.rangeAt o 0 [.int .u8 0, .int .u32 0, .int .u32 0, .int .u16 0, .int .u16 0] := fun W o h j u hj => by
    have hj5 : j < 5 := (List.getElem?_eq_some_iff.1 hj).1
    refine h j u ?_
    rw [show flO = [.int .u8 0, .int .u32 0, .int .u32 0, .int .u16 0, .int .u16 0] ++ flO.drop 5 from rfl, List.getElem?_append_left hj5]
    exact hj
  have a5 : flO.toArray[5]? = some (.int .u8 2) := rfl
  have a9 : flO.toArray[9]? = some (.bool false) := rfl
  have a10 : flO.toArray[10]? = some (.bool false) := rfl
  have a21 : flO.toArray[21]? = some (.int .i64 0) := rfl
  have a22 : flO.toArray[22]? = some (.int .i64 0) := rfl
  generalize phO.arr = pa at *
  generalize flO = fc at *
  generalize hX : Ln.mk 0 0 0 0 0 2 5 false false 0 0 = X at *
  clear hB hX
  unfold Gives
  go_enter Tryz.func13, Tryz.ntmps13
  go_upto_region 1 with fail
  obtain ⟨A, hA⟩ : ∃ A, w.heap.size = A := ⟨_, rfl⟩
  rw [hA]
  refine wp_letter (fun W => UpI w W ∧ W.heap[A]? = some (.cells fc.toArray 58 (0, 0)) ∧ W.heap[A + 1]? = some (.cells Ln.zero.cells.toArray 31 (0, 0)) ∧ W.heap.size = A + 2)
    ⟨inferInstance, (Below.heap_alloc _ _ _ (by rw [World.size_alloc, hA]; exact Nat.lt_succ_self _)).trans (alloc_new hA), alloc_new (by rw [World.size_alloc, hA]), by rw [World.size_alloc, World.size_alloc, hA]⟩ ?_
  have hwA : w.heap.size ≤ A + 1 := by rw [hA]; exact Nat.le_succ A
  clear hA
  rintro W ⟨uW, hRA, hRB, hS⟩
  haveI := uW
  haveI : LtSize A W := ⟨by omega⟩
  haveI : LtSize (A + 1) W := ⟨by omega⟩
  have hra : W.rangeAt A 0 fc := fun j u hj => by rw [Nat.zero_add]; exact row_cellF hRA j u (by simpa using hj)
  have hPh := hphA W A hra
  have hKy := hkA W A hra
  have c5 := row_cellF hRA 5 _ a5
  have c9 := row_cellF hRA 9 _ a9
  have c10 := row_cellF hRA 10 _ a10
  have c21 := row_cellF hRA 21 _ a21
  have c22 := row_cellF hRA 22 _ a22
  clear hphA hkA hra a5 a9 a10 a21 a22 hS
  go_upto_region 2 with (first
    | (refine wpList_load_mid rfl 56 _ rfl A 6 rfl pa.toList _ hPh Tryz.underlying56 rfl hps ?_)
    | (go_at_call 42; (with_reducible refine (hC _).mono ?_); rintro e w' ⟨rfl, z1, rfl⟩))
  have hKy2 : z1.w.rangeAt A 0 [.int .u8 0, .int .u32 0, .int .u32 0, .int .u16 0, .int .u16 0] := fun j u hj => z1.up.cell_some' (hKy j u hj)
  clear hPh hKy hC
  go_upto_region 3 with (first
    | (refine wpList_load_mid rfl 29 _ rfl A 0 rfl [.int .u8 0, .int .u32 0, .int .u32 0, .int .u16 0, .int .u16 0] _ hKy2 Tryz.underlying29 rfl keySizeO ?_)
    | (refine wpList_buildRun rfl 31 _ rfl #[(0, .agg #[.int .u8 0, .int .u32 0, .int .u32 0, .int .u16 0, .int .u16 0]), (1, .int .u8 2), (2, .int .u8 5), (3, .bool false), (4, .bool false), (5, .int .i64 0), (6, .int .i64 0)] (by kernel_rfl) _ _ (hbl _) ?_)
    | (refine wpList_store_row rfl 31 _ _ rfl _ X.cells.toArray rfl rfl 31 _ (alloc_new rfl) lnSize rfl (ln_all X) ?_))
  obtain ⟨E, hE⟩ : ∃ E, z1.w.heap.size = E := ⟨_, rfl⟩
  rw [hE]
  refine wp_letter (fun Z => UpI W Z ∧ Z.heap[E]? = some (.cells X.cells.toArray 31 (0, 0))) ⟨⟨UpI.row hE _⟩, setRow_heap _ _ _ _ _ _ (alloc_new hE)⟩ ?_
  clear hE hKy2 c5 c9 c10 c21 c22 hbl
  rintro Z ⟨uZ, hZE⟩
  haveI := uZ
  haveI : UpI w Z := ⟨uW.up.trans uZ.up⟩
  haveI : LtSize E Z := ⟨(Array.getElem?_eq_some_iff.1 hZE).1⟩
  go_wp2_with (first
    | (refine load_rowG2 31 _ rfl E rfl (by kernel_rfl) 31 X.cells.toArray (0, 0) _ (((upI : Up Z _).block E (LtSize.lt (b := E))).trans hZE) Tryz.underlying31 rfl lnSize ?_)
    | (go_at_call 18; (with_reducible refine (hRt _).mono ?_); rintro e w' ⟨rfl, z3, rfl⟩)
    | (refine wpList_buildRun rfl 31 _ rfl #[] (by kernel_rfl) _ _ (build_lnZO _) ?_)
    | (refine wpList_store_row rfl 31 _ _ rfl (A + 1) Ln.zero.cells.toArray rfl rfl 31 Ln.zero.cells.toArray (((upI : Up W _).block (A + 1) (LtSize.lt (b := A + 1))).trans hRB) lnSize rfl (ln_all Ln.zero) ?_; refine wpList_letterO (fun Z => UpI w Z ∧ Z.heap[A + 1]? = some (.cells Ln.zero.cells.toArray 31 (0, 0))) ⟨⟨up_setRowG (upI : Up w _) hwA _⟩, setRow_heap _ _ _ _ _ _ (((upI : Up W _).block (A + 1) (LtSize.lt (b := A + 1))).trans hRB)⟩ ?_; rintro Z9 ⟨uZ9, hZ9⟩; haveI := uZ9))
  have r0 : Z9.cell? ⟨A + 1, 0, none⟩ = some (.int .u8 Ln.zero.pr) := row_cellF hZ9 0 _ rfl
  have r1 : Z9.cell? ⟨A + 1, 1, none⟩ = some (.int .u32 Ln.zero.s) := row_cellF hZ9 1 _ rfl
  have r2 : Z9.cell? ⟨A + 1, 2, none⟩ = some (.int .u32 Ln.zero.d) := row_cellF hZ9 2 _ rfl
  have r3 : Z9.cell? ⟨A + 1, 3, none⟩ = some (.int .u16 Ln.zero.sp) := row_cellF hZ9 3 _ rfl
  have r4 : Z9.cell? ⟨A + 1, 4, none⟩ = some (.int .u16 Ln.zero.dp) := row_cellF hZ9 4 _ rfl
  have r5 : Z9.cell? ⟨A + 1, 5, none⟩ = some (.int .u8 Ln.zero.sd) := row_cellF hZ9 5 _ rfl
  have r6 : Z9.cell? ⟨A + 1, 6, none⟩ = some (.int .u8 Ln.zero.cl) := row_cellF hZ9 6 _ rfl
  have r7 : Z9.cell? ⟨A + 1, 7, none⟩ = some (.bool Ln.zero.rp) := row_cellF hZ9 7 _ rfl
  have r8 : Z9.cell? ⟨A + 1, 8, none⟩ = some (.bool Ln.zero.ss) := row_cellF hZ9 8 _ rfl
  have r9 : Z9.cell? ⟨A + 1, 9, none⟩ = some (.int .i64 Ln.zero.dl) := row_cellF hZ9 9 _ rfl
  have r10 : Z9.cell? ⟨A + 1, 10, none⟩ = some (.int .i64 Ln.zero.sn) := row_cellF hZ9 10 _ rfl
  exact bodyPost_ret (v := .tuple #[.agg #[.int .u8 Ln.zero.pr, .int .u32 Ln.zero.s, .int .u32 Ln.zero.d, .int .u16 Ln.zero.sp, .int .u16 Ln.zero.dp, .int .u8 Ln.zero.sd, .int .u8 Ln.zero.cl, .bool Ln.zero.rp, .bool Ln.zero.ss, .int .i64 Ln.zero.dl, .int .i64 Ln.zero.sn], .int .i64 380]) (by simp [results, Tryz.results13, go_sem, r0, r1, r2, r3, r4, r5, r6, r7, r8, r9, r10]) rfl ⟨rfl, mkI⟩
end Go.Proofs.YtlbbepgfjigjpaaGreatDoor
