/- Rows of lines into which lines are stored; loads and stores in a region that draws its order. The laws of single operations behind a seal: 'refine' looks at a goal's weak head normal form; the seal keeps it from unfolding the walk. -/
import Derived.Test.YteciigbonaecoaaGreatDoorDBuild
import Derived.Test.YteciigbonaecoaaGreatDoorQuiet
import Derived.Test.YteciigbonaecoaaGreatDoorInRound
import Derived.Maps.RangeWalk
namespace Go.Ab
open Go.RowKit Go.Proofs.YteciigbonaecoaaGreatDoor
/-- Some cells hold the lines, one behind the other. -/
def Holds (cur : Array Value) (l : List Ln) : Prop := ∀ (i : Nat) (z : Ln), l[i]? = some z → ∀ (j : Nat) (u : Value), z.cells[j]? = some u → cur[i * 11 + j]? = some u
theorem Holds.of_take {cur : Array Value} {l : List Ln} {n : Nat} (h : cur.toList.take n = l.flatMap Ln.cells) : Holds cur l := fun i z hz j u hu => by
  have h1 := flat_at (cells := Ln.cells) Ln.cells_length l i j z u hz hu
  rw [← h, List.getElem?_take] at h1
  split at h1
  · simpa using h1
  · cases h1
theorem Holds.set {cur : Array Value} {l : List Ln} (h : Holds cur l) (k : Nat) (x : Ln) (hs : k * 11 + 11 ≤ cur.size) : Holds (insA cur (k * 11) x.cells) (l.set k x) := fun i z hz j u hu => by
  have hj : j < 11 := by have := (List.getElem?_eq_some_iff.1 hu).1; rwa [z.cells_length] at this
  have hxl := x.cells_length
  have hfit : k * 11 + x.cells.length ≤ cur.size := by omega
  have get : ∀ t, (insA cur (k * 11) x.cells)[t]? = (insA cur (k * 11) x.cells).toList[t]? := fun t => Array.getElem?_toList.symm
  rw [List.getElem?_set] at hz
  by_cases hki : k = i
  · subst hki
    rw [if_pos rfl] at hz
    split at hz
    · obtain rfl : x = z := Option.some.inj hz
      have ht := insA_take cur (k * 11) x.cells hfit
      have h2 := congrArg (fun (l : List Value) => l[k * 11 + j]?) ht
      rw [List.getElem?_take, if_pos (by omega), List.getElem?_append_right (by rw [List.length_take, Array.length_toList]; omega), List.length_take, Array.length_toList, show k * 11 + j - min (k * 11) cur.size = j by omega] at h2
      rw [get, h2]; exact hu
    · cases hz
  · rw [if_neg hki] at hz
    have hc := h i z hz j u hu
    rcases Nat.lt_or_gt_of_ne hki with h1 | h1
    · rw [insA_hi cur (k * 11) x.cells (i * 11 + j) hfit (by omega)]; exact hc
    · have hl := insA_lo cur (k * 11) x.cells hfit
      have h2 := congrArg (fun (l : List Value) => l[i * 11 + j]?) hl
      rw [List.getElem?_take, if_pos (by omega), List.getElem?_take, if_pos (by omega)] at h2
      rw [get, h2]
      simpa using hc
theorem Holds.row {w : World} {g cap N : Nat} {cur : Array Value} {l : List Ln} {t : TypeId} {fr : Nat × Nat} (h : Holds cur l) (hg : w.heap[g]? = some (.cells cur t fr)) (hn : l.length = N) (hc : N ≤ cap) : LnRow w (.slice (some ⟨g, 0, none⟩) N cap) l :=
  ⟨some ⟨g, 0, none⟩, cap, by rw [hn], by rw [hn]; exact hc, fun i z hz => ⟨g, 0, rfl, (Array.getElem?_eq_some_iff.1 hg).1, fun j u hu => by
    rw [cell_of_row w g _ _ _ _ hg, Nat.zero_add]; exact h i z hz j u hu⟩⟩
theorem Holds.range {w : World} {g : Nat} {cur : Array Value} {l : List Ln} {t : TypeId} {fr : Nat × Nat} (h : Holds cur l) (hg : w.heap[g]? = some (.cells cur t fr)) {i : Nat} {z : Ln} (hz : l[i]? = some z) : w.rangeAt g (i * 11) z.cells := fun j u hu => by
  rw [cell_of_row w g _ _ _ _ hg]; exact h i z hz j u hu
section
variable {P : Program} {ops : Array Oper} {o : Oper} {a : Act} {w : World} {K : Act → World → Prop} {Q : Exit → Act → World → Prop} {E : Prop}
theorem step_load_mid (hw : Region.wanted o (yielded ops a.tmps) = true) (ty : TypeId) (x : Operand) (ho : o.op = .load ty x)
    (b f : Nat) (hx : a.eval x = .pointer (some ⟨b, f, none⟩)) (cs : List Value) (d : TypeDesc) (hc : w.rangeAt b f cs)
    (hu : P.underlying ty = some d) (hd : d.isRow = true) (hi : (P.info? ty).map (·.size) = some cs.length) (h : K (a.put o.dst (.agg cs.toArray)) w) :
    if Region.wanted o (yielded ops a.tmps) = true then o.wp P a w K Q else E := by
  rw [if_pos hw]
  exact wp_load_mid ty x ho b f hx cs d hc hu hd hi h
theorem step_slice (hw : Region.wanted o (yielded ops a.tmps) = true) (t : TypeId) (n : Nat) (parts : Array (Nat × Operand)) (ho : o.op = .buildSlice t n parts) (ps : Array (Nat × Value)) (hp : (parts.map fun (i, x) => (i, a.eval x)) = ps) (v : Value) (w' : World)
    (hr : (Instr.buildSlice t n ps).run P w = .ok v w') (h : K (a.put o.dst v) w') : if Region.wanted o (yielded ops a.tmps) = true then o.wp P a w K Q else E := by
  rw [if_pos hw]
  exact wp_sliceRun t n parts ho ps hp v w' hr h
theorem step_store_ins (hw : Region.wanted o (yielded ops a.tmps) = true) (ty : TypeId) (x y : Operand) (ho : o.op = .store ty x y)
    (g off : Nat) (cells : Array Value) (hx : a.eval x = .pointer (some ⟨g, off, none⟩)) (hy : a.eval y = .agg cells)
    (t : TypeId) (cur : Array Value) (hg : w.heap[g]? = some (.cells cur t (0, 0))) (hi : (P.info? ty).map (·.size) = some cells.size) (hfit : off + cells.size ≤ cur.size) (h1 : ∀ u ∈ cells.toList, u.oneCell' = true)
    (h : K (a.put o.dst undef) (w.setRow g (insA cur off cells.toList))) : if Region.wanted o (yielded ops a.tmps) = true then o.wp P a w K Q else E := by
  rw [if_pos hw]
  have hr := run_storeCells_at (P := P) g off t cells.toList 0 cur w hg (by simpa using hfit) h1
  cases hq : P.info? ty with
  | none => simp [hq] at hi
  | some i =>
    have hs : cells.size = i.size := by simp [hq] at hi; omega
    have hsv : (storeVar ty ⟨g, off, none⟩ (.agg cells)).run P w = .ok () (w.setRow g (insA cur off cells.toList)) := by
      simp only [Nat.add_zero] at hr
      simp [storeVar, sizeOf, typeInfo, hq, Value.cells, hs, hr, insA]
    unfold Oper.wp execOp
    simp only [ho, hx, hy, Instr.storeAt, Instr.sureAddr, Sem.run_bind, Sem.run_pure, Result.andThen_ok, hsv]
    exact h
end
section
variable {P : Program} {Q : Exit → Act → World → Prop}
theorem step_append_ownG {ops : Array Oper} {o : Oper} {a : Act} {w : World} {K : Act → World → Prop} {E : Prop} (hw : Region.wanted o (yielded ops a.tmps) = true) (s x : Operand) (t : TypeId)
    (hop : o.op = Op.call { callee := Callee.builtin Builtin.append, args := #[s, x], argTypes := #[t, t] })
    (base : Nat) (e : TypeId) (i : TypeInfo) (z : Value) (size bytes : Nat) (h1 : P.underlying t = some (.slice e)) (h2 : P.info? e = some i) (h3 : i.zero = some z) (h4 : i.size = size) (h5 : i.bytes = bytes) (h6 : z.cells.size = size) (h7 : 0 < size)
    (v : Value) (k : Nat) (xs : List Value) (hs : a.eval s = v) (hown : w.ownsRow base e size v k xs) (ad : Addr) (m c : Nat) (news : List Value) (hx : a.eval x = .slice (some ad) m c) (hn : news.length = m * size)
    (hc : ∀ j u, news[j]? = some u → w.cell? (ad.add j) = some u) (h1c : ∀ u ∈ news, u.oneCell' = true) (b1 : k + m ≤ maxLen) (b2 : (k + m) * bytes ≤ 140737488355328) (b3 : base ≤ w.heap.size)
    (hK : ∀ v' w', w'.ownsRow base e size v' (k + m) (xs ++ news) → w.grownBy w' v.ownBlock → K (a.put o.dst v') w') :
    if Region.wanted o (yielded ops a.tmps) = true then o.wp P a w K Q else E := by
  rw [if_pos hw]
  obtain ⟨v', w', hrun, r1, r2, _⟩ := run_append_own (P := P) w base t o.type e i z size bytes h1 h2 h3 h4 h5 h6 h7 v k xs hown ad m c news hn hc h1c b1 b2 b3
  unfold Oper.wp
  simp [execOp, hop, resolve, invoke, builtin, hs, hx, hrun, Result.andThen]
  exact hK _ _ r1 r2
end
end Go.Ab
namespace Go.Ab
open Go.RowKit Go.Proofs.YteciigbonaecoaaGreatDoor
structure Held (p : Prop) : Prop where
  out : p
theorem held {p : Prop} (h : Held p) : p := h.out
section
variable {P : Program} {ops : Array Oper} {rest : List Oper} {o : Oper} {a : Act} {w : World} {Q : Exit → Act → World → Prop} {K : Act → World → Prop} {E : Prop} {C : World → Prop} {R : Act → Prop}
theorem H_load_mid (hgd : o.guard = none) (ty : TypeId) (x : Operand) (ho : o.op = .load ty x) (b f : Nat) (hx : a.eval x = .pointer (some ⟨b, f, none⟩)) (cs : List Value) (d : TypeDesc) (hc : w.rangeAt b f cs)
    (hu : P.underlying ty = some d) (hd : d.isRow = true) (hi : (P.info? ty).map (·.size) = some cs.length) (h : wpList P ops Q rest (a.put o.dst (.agg cs.toArray)) w) : Held (wpList P ops Q (o :: rest) a w) :=
  ⟨wpList_load_mid hgd ty x ho b f hx cs d hc hu hd hi h⟩
theorem H_load_midG (ty : TypeId) (x : Operand) (ho : o.op = .load ty x) (b f : Nat) (hx : a.eval x = .pointer (some ⟨b, f, none⟩)) (hw : Region.wanted o (yielded ops a.tmps) = true) (cs : List Value) (d : TypeDesc) (hc : w.rangeAt b f cs)
    (hu : P.underlying ty = some d) (hd : d.isRow = true) (hi : (P.info? ty).map (·.size) = some cs.length) (h : wpList P ops Q rest (a.put o.dst (.agg cs.toArray)) w) : Held (wpList P ops Q (o :: rest) a w) :=
  ⟨wpList_load_midG ty x ho b f hx hw cs d hc hu hd hi h⟩
theorem H_load_row (hgd : o.guard = none) (ty : TypeId) (x : Operand) (ho : o.op = .load ty x) (g : Nat) (hx : a.eval x = .pointer (some ⟨g, 0, none⟩)) (t : TypeId) (cs : Array Value) (fr : Nat × Nat) (d : TypeDesc) (hg : w.heap[g]? = some (.cells cs t fr))
    (hu : P.underlying ty = some d) (hd : (match d with | .struct _ | .array _ _ => true | _ => false) = true) (hi : (P.info? ty).map (·.size) = some cs.size) (h : wpList P ops Q rest (a.put o.dst (.agg cs)) w) : Held (wpList P ops Q (o :: rest) a w) :=
  ⟨wpList_load_row hgd ty x ho g hx t cs fr d hg hu hd hi h⟩
theorem H_load_rowG (ty : TypeId) (x : Operand) (ho : o.op = .load ty x) (g : Nat) (hx : a.eval x = .pointer (some ⟨g, 0, none⟩)) (hw : Region.wanted o (yielded ops a.tmps) = true) (t : TypeId) (cs : Array Value) (fr : Nat × Nat) (d : TypeDesc) (hg : w.heap[g]? = some (.cells cs t fr))
    (hu : P.underlying ty = some d) (hd : (match d with | .struct _ | .array _ _ => true | _ => false) = true) (hi : (P.info? ty).map (·.size) = some cs.size) (h : wpList P ops Q rest (a.put o.dst (.agg cs)) w) : Held (wpList P ops Q (o :: rest) a w) :=
  ⟨wpList_step fun K hK => by rw [if_pos hw]; exact wp_load_row ty x ho g hx t cs fr d hg hu hd hi (hK _ _ h)⟩
theorem H_store_row (hgd : o.guard = none) (ty : TypeId) (x y : Operand) (ho : o.op = .store ty x y) (g : Nat) (cells : Array Value) (hx : a.eval x = .pointer (some ⟨g, 0, none⟩)) (hy : a.eval y = .agg cells)
    (t : TypeId) (old : Array Value) (hg : w.heap[g]? = some (.cells old t (0, 0))) (hi : (P.info? ty).map (·.size) = some cells.size) (hold : old.size = cells.size) (h1 : cells.all (·.oneCell') = true)
    (h : wpList P ops Q rest (a.put o.dst undef) (w.setRow g cells)) : Held (wpList P ops Q (o :: rest) a w) :=
  ⟨wpList_store_row hgd ty x y ho g cells hx hy t old hg hi hold h1 h⟩
theorem H_buildRun (hgd : o.guard = none) (t : TypeId) (parts : Array (Nat × Operand)) (ho : o.op = .build t parts) (ps : Array (Nat × Value)) (hp : (parts.map fun (i, x) => (i, a.eval x)) = ps) (v : Value) (w' : World)
    (hr : (Instr.build t ps).run P w = .ok v w') (h : wpList P ops Q rest (a.put o.dst v) w') : Held (wpList P ops Q (o :: rest) a w) := ⟨wpList_buildRun hgd t parts ho ps hp v w' hr h⟩
theorem H_buildRunG (t : TypeId) (parts : Array (Nat × Operand)) (ho : o.op = .build t parts) (hw : Region.wanted o (yielded ops a.tmps) = true) (ps : Array (Nat × Value)) (hp : (parts.map fun (i, x) => (i, a.eval x)) = ps) (v : Value) (w' : World)
    (hr : (Instr.build t ps).run P w = .ok v w') (h : wpList P ops Q rest (a.put o.dst v) w') : Held (wpList P ops Q (o :: rest) a w) := ⟨wpList_step fun K hK => by rw [if_pos hw]; exact wp_buildRun t parts ho ps hp v w' hr (hK _ _ h)⟩
theorem H_sliceRun (hgd : o.guard = none) (t : TypeId) (n : Nat) (parts : Array (Nat × Operand)) (ho : o.op = .buildSlice t n parts) (ps : Array (Nat × Value)) (hp : (parts.map fun (i, x) => (i, a.eval x)) = ps) (v : Value) (w' : World)
    (hr : (Instr.buildSlice t n ps).run P w = .ok v w') (h : wpList P ops Q rest (a.put o.dst v) w') : Held (wpList P ops Q (o :: rest) a w) := ⟨wpList_sliceRun hgd t n parts ho ps hp v w' hr h⟩
theorem H_sliceRunG (t : TypeId) (n : Nat) (parts : Array (Nat × Operand)) (ho : o.op = .buildSlice t n parts) (hw : Region.wanted o (yielded ops a.tmps) = true) (ps : Array (Nat × Value)) (hp : (parts.map fun (i, x) => (i, a.eval x)) = ps) (v : Value) (w' : World)
    (hr : (Instr.buildSlice t n ps).run P w = .ok v w') (h : wpList P ops Q rest (a.put o.dst v) w') : Held (wpList P ops Q (o :: rest) a w) := ⟨wpList_sliceRunG t n parts ho hw ps hp v w' hr h⟩
theorem H_append_own (hgd : o.guard = none) (s x : Operand) (t : TypeId) (ho : o.op = .call { callee := .builtin .append, args := #[s, x], argTypes := #[t, t] })
    (base : Nat) (e : TypeId) (i : TypeInfo) (z : Value) (size bytes : Nat) (ht : P.underlying t = some (.slice e)) (hi : P.info? e = some i) (hz : i.zero = some z) (hsize : i.size = size) (hby : i.bytes = bytes) (hzs : z.cells.size = size) (hsz : 0 < size)
    (v : Value) (n : Nat) (xs : List Value) (hs : a.eval s = v) (hown : w.ownsRow base e size v n xs)
    (ad : Addr) (m c : Nat) (news : List Value) (hx : a.eval x = .slice (some ad) m c) (hl : news.length = m * size) (hnews : ∀ j u, news[j]? = some u → w.cell? (ad.add j) = some u) (h1 : ∀ u ∈ news, u.oneCell' = true)
    (h63 : n + m ≤ maxLen) (hbytes : (n + m) * bytes ≤ 140737488355328) (hbase : base ≤ w.heap.size)
    (h : ∀ v' w', w'.ownsRow base e size v' (n + m) (xs ++ news) → w.grownBy w' v.ownBlock → (v' = .slice none 0 0 ↔ v = .slice none 0 0 ∧ m = 0) → wpList P ops Q rest (a.put o.dst v') w') : Held (wpList P ops Q (o :: rest) a w) :=
  ⟨wpList_append_own w hgd s x t ho base e i z size bytes ht hi hz hsize hby hzs hsz v n xs hs hown ad m c news hx hl hnews h1 h63 hbytes hbase h⟩
theorem HQ_load_mid (hw : Region.wanted o (yielded ops a.tmps) = true) (ty : TypeId) (x : Operand) (ho : o.op = .load ty x) (b f : Nat) (hx : a.eval x = .pointer (some ⟨b, f, none⟩)) (cs : List Value) (d : TypeDesc) (hc : ∀ w, C w → w.rangeAt b f cs)
    (hu : P.underlying ty = some d) (hd : d.isRow = true) (hi : (P.info? ty).map (·.size) = some cs.length) (h : wpQuiet P ops C R rest (a.put o.dst (.agg cs.toArray))) : Held (wpQuiet P ops C R (o :: rest) a) :=
  ⟨wpQuiet_load_mid hw ty x ho b f hx cs d hc hu hd hi h⟩
theorem HQ_build (hw : Region.wanted o (yielded ops a.tmps) = true) (t : TypeId) (parts : Array (Nat × Operand)) (ho : o.op = .build t parts) (ps : Array (Nat × Value)) (hp : (parts.map fun (i, x) => (i, a.eval x)) = ps) (v : Value)
    (hr : ∀ w, (Instr.build t ps).run P w = .ok v w) (h : wpQuiet P ops C R rest (a.put o.dst v)) : Held (wpQuiet P ops C R (o :: rest) a) := ⟨wpQuiet_build hw t parts ho ps hp v hr h⟩
theorem HS_load_mid (hw : Region.wanted o (yielded ops a.tmps) = true) (ty : TypeId) (x : Operand) (ho : o.op = .load ty x) (b f : Nat) (hx : a.eval x = .pointer (some ⟨b, f, none⟩)) (cs : List Value) (d : TypeDesc) (hc : w.rangeAt b f cs)
    (hu : P.underlying ty = some d) (hd : d.isRow = true) (hi : (P.info? ty).map (·.size) = some cs.length) (h : K (a.put o.dst (.agg cs.toArray)) w) : Held (if Region.wanted o (yielded ops a.tmps) = true then o.wp P a w K Q else E) :=
  ⟨step_load_mid hw ty x ho b f hx cs d hc hu hd hi h⟩
theorem HS_slice (hw : Region.wanted o (yielded ops a.tmps) = true) (t : TypeId) (n : Nat) (parts : Array (Nat × Operand)) (ho : o.op = .buildSlice t n parts) (ps : Array (Nat × Value)) (hp : (parts.map fun (i, x) => (i, a.eval x)) = ps) (v : Value) (w' : World)
    (hr : (Instr.buildSlice t n ps).run P w = .ok v w') (h : K (a.put o.dst v) w') : Held (if Region.wanted o (yielded ops a.tmps) = true then o.wp P a w K Q else E) := ⟨step_slice hw t n parts ho ps hp v w' hr h⟩
theorem HS_build (hw : Region.wanted o (yielded ops a.tmps) = true) (t : TypeId) (parts : Array (Nat × Operand)) (ho : o.op = .build t parts) (ps : Array (Nat × Value)) (hp : (parts.map fun (i, x) => (i, a.eval x)) = ps) (v : Value) (w' : World)
    (hr : (Instr.build t ps).run P w = .ok v w') (h : K (a.put o.dst v) w') : Held (if Region.wanted o (yielded ops a.tmps) = true then o.wp P a w K Q else E) := ⟨by rw [if_pos hw]; exact wp_buildRun t parts ho ps hp v w' hr h⟩
theorem HS_store_ins (hw : Region.wanted o (yielded ops a.tmps) = true) (ty : TypeId) (x y : Operand) (ho : o.op = .store ty x y) (g off : Nat) (cells : Array Value) (hx : a.eval x = .pointer (some ⟨g, off, none⟩)) (hy : a.eval y = .agg cells)
    (t : TypeId) (cur : Array Value) (hg : w.heap[g]? = some (.cells cur t (0, 0))) (hi : (P.info? ty).map (·.size) = some cells.size) (hfit : off + cells.size ≤ cur.size) (h1 : ∀ u ∈ cells.toList, u.oneCell' = true)
    (h : K (a.put o.dst undef) (w.setRow g (insA cur off cells.toList))) : Held (if Region.wanted o (yielded ops a.tmps) = true then o.wp P a w K Q else E) := ⟨step_store_ins hw ty x y ho g off cells hx hy t cur hg hi hfit h1 h⟩
theorem HS_append_own (hw : Region.wanted o (yielded ops a.tmps) = true) (s x : Operand) (t : TypeId) (hop : o.op = Op.call { callee := Callee.builtin Builtin.append, args := #[s, x], argTypes := #[t, t] })
    (base : Nat) (e : TypeId) (i : TypeInfo) (z : Value) (size bytes : Nat) (h1 : P.underlying t = some (.slice e)) (h2 : P.info? e = some i) (h3 : i.zero = some z) (h4 : i.size = size) (h5 : i.bytes = bytes) (h6 : z.cells.size = size) (h7 : 0 < size)
    (v : Value) (k : Nat) (xs : List Value) (hs : a.eval s = v) (hown : w.ownsRow base e size v k xs) (ad : Addr) (m c : Nat) (news : List Value) (hx : a.eval x = .slice (some ad) m c) (hn : news.length = m * size)
    (hc : ∀ j u, news[j]? = some u → w.cell? (ad.add j) = some u) (h1c : ∀ u ∈ news, u.oneCell' = true) (b1 : k + m ≤ maxLen) (b2 : (k + m) * bytes ≤ 140737488355328) (b3 : base ≤ w.heap.size)
    (hK : ∀ v' w', w'.ownsRow base e size v' (k + m) (xs ++ news) → w.grownBy w' v.ownBlock → K (a.put o.dst v') w') : Held (if Region.wanted o (yielded ops a.tmps) = true then o.wp P a w K Q else E) :=
  ⟨step_append_ownG hw s x t hop base e i z size bytes h1 h2 h3 h4 h5 h6 h7 v k xs hs hown ad m c news hx hn hc h1c b1 b2 b3 hK⟩
theorem HS_append_none (hw : Region.wanted o (yielded ops a.tmps) = true) (s x : Operand) (t : TypeId)
    (hop : o.op = Op.call { callee := Callee.builtin Builtin.append, args := #[s, x], argTypes := #[t, t] }) (base : Nat) (e : TypeId) (i : TypeInfo) (size : Nat) (ht : P.underlying t = some (.slice e)) (hi : P.info? e = some i)
    (v : Value) (n : Nat) (xs : List Value) (hs : a.eval s = v) (hown : w.ownsRow base e size v n xs) (hx : a.eval x = .slice none 0 0) (hK : K (a.put o.dst v) w) :
    Held (if Region.wanted o (yielded ops a.tmps) = true then o.wp P a w K Q else E) := ⟨by
  rw [if_pos hw]
  have hrun := run_append_owned_none (P := P) (w := w) base t o.type e i size ht hi v n xs hown
  unfold Oper.wp
  simp [execOp, hop, resolve, invoke, builtin, hs, hx, hrun, Result.andThen]
  exact hK⟩
theorem HS_call (hw : Region.wanted o (yielded ops a.tmps) = true) (f : FuncId) (xs : Array Operand) (ts : Array TypeId) (hop : o.op = Op.call { callee := Callee.value (Operand.func f), args := xs, argTypes := ts })
    (args : Array Value) (ha : xs.map a.eval = args) (hcf : ∀ w, (callFunc f args).run P w = .ok (.enter f args) w) (v : Value) (h : Gives P f args w v) (hK : ∀ x : Ext w, K (a.put o.dst v) x.w) :
    Held (if Region.wanted o (yielded ops a.tmps) = true then o.wp P a w K Q else E) := ⟨by
  rw [if_pos hw]
  unfold Oper.wp
  unfold execOp
  rw [hop]
  go_simp
  refine Gives.mono h ?_
  rintro e w1 ⟨rfl, x, rfl⟩
  exact hK x⟩
end
theorem HR_cons {P : Program} {md : Region.Mode} {ops : Array Oper} {Q : Exit → Act → World → Prop} {fuel : Nat} {listed : Array Bool} {a : Act} {w : World} {i : Nat} {o : Oper} {rs : List Nat} (ho : ops[i]? = some o)
    (h : ∀ K' : Act → World → Prop, (∀ a w, wpAny P md ops Q fuel (listed.setIfInBounds i true) a w → K' a w) → if Region.wanted o (yielded ops a.tmps) = true then Oper.wp P o a w K' Q else K' (a.put o.dst undef) w)
    (hs : AllReady P md ops Q fuel listed a w rs) : Held (AllReady P md ops Q fuel listed a w (i :: rs)) := ⟨AllReady.cons ho h hs⟩
/-- A small number, by instance: an equation on wrap64 in the context makes every omega slow. -/
class SmallN (m : Nat) : Prop where
  lt : m < 4611686018427387904
theorem wrapI (m : Nat) [h : SmallN m] : wrap64 (m : Int) = (m : Int) := IntWalk.wrap64_in _ ⟨by have := h.lt; omega, by have := h.lt; omega⟩
theorem wrapI1 (m : Nat) [h : SmallN m] : wrap64 ((m : Int) + 1) = (m : Int) + 1 := IntWalk.wrap64_in _ ⟨by have := h.lt; omega, by have := h.lt; omega⟩
theorem wrapK (m : Nat) [SmallN m] : IntKind.i64.wrap (m : Int) = (m : Int) := (IntWalk.i64_left _).trans (wrapI m)
theorem wrapK1 (m : Nat) [SmallN m] : IntKind.i64.wrap ((m : Int) + 1) = (m : Int) + 1 := (IntWalk.i64_left _).trans (wrapI1 m)
end Go.Ab
