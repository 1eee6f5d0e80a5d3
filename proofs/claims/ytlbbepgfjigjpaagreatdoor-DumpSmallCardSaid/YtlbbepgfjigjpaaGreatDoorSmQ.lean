/- DumpSmall: plain laws on changes and rows; Diff on any two dumps. -/
import Derived.Test.YtlbbepgfjigjpaaGreatDoorSmA
import Derived.Test.YtlbbepgfjigjpaaGreatDoorDCountersAll
import Derived.Deep.RegionHeld3
import Derived.ArgAppend
import Derived.Laws.IdiomCopy
set_option linter.unusedSimpArgs false
set_option linter.unusedVariables false
namespace Go.Ab
open Go.RowKit Go.Proofs.YtlbbepgfjigjpaaGreatDoor
theorem pairsL_memM : ∀ (n : Nat) (a b : List Ln) (p : Option Ln × Option Ln), p ∈ pairsL n a b → (∀ x, p.1 = some x → x ∈ a) ∧ (∀ y, p.2 = some y → y ∈ b)
  | 0, _, _, p, h => by rw [pairsL] at h; cases h
  | n + 1, [], [], p, h => by rw [pairsL] at h; cases h
  | n + 1, a :: us, [], p, h => by
    rw [pairsL] at h
    rcases List.mem_cons.1 h with rfl | h
    · exact ⟨fun x e => (by cases e; simp), fun y e => (by cases e)⟩
    · have := pairsL_memM n us [] p h
      exact ⟨fun x e => by simp [this.1 x e], fun y e => this.2 y e⟩
  | n + 1, [], b :: vs, p, h => by
    rw [pairsL] at h
    rcases List.mem_cons.1 h with rfl | h
    · exact ⟨fun x e => (by cases e), fun y e => (by cases e; simp)⟩
    · have := pairsL_memM n [] vs p h
      exact ⟨fun x e => this.1 x e, fun y e => by simp [this.2 y e]⟩
  | n + 1, a :: us, b :: vs, p, h => by
    rw [pairsL] at h
    split at h
    · rcases List.mem_cons.1 h with rfl | h
      · exact ⟨fun x e => (by cases e; simp), fun y e => (by cases e)⟩
      · have := pairsL_memM n us (b :: vs) p h
        exact ⟨fun x e => by simp [this.1 x e], fun y e => this.2 y e⟩
    · split at h
      · rcases List.mem_cons.1 h with rfl | h
        · exact ⟨fun x e => (by cases e), fun y e => (by cases e; simp)⟩
        · have := pairsL_memM n (a :: us) vs p h
          exact ⟨fun x e => this.1 x e, fun y e => by simp [this.2 y e]⟩
      · rcases List.mem_cons.1 h with rfl | h
        · exact ⟨fun x e => (by cases e; simp), fun y e => (by cases e; simp)⟩
        · have := pairsL_memM n us vs p h
          exact ⟨fun x e => by simp [this.1 x e], fun y e => by simp [this.2 y e]⟩
/-- What a change between two dumps is. -/
theorem diffL_memM (a b : List Ln) (c : Ch) (h : c ∈ diffL a b) : (c.kind = 1 ∧ c.old = Ln.zero ∧ c.new ∈ b) ∨ (c.kind = 2 ∧ c.old ∈ a ∧ c.new = Ln.zero) ∨ (c.kind = 3 ∧ c.old ∈ a ∧ c.new ∈ b ∧ c.old ≠ c.new) := by
  unfold diffL at h
  obtain ⟨p, hp, hc⟩ := List.mem_flatMap.1 h
  have hm := pairsL_memM _ _ _ p hp
  obtain ⟨p1, p2⟩ := p
  cases p1 with
  | none =>
    cases p2 with
    | none => rw [chOf] at hc; cases hc
    | some y =>
      rw [chOf] at hc
      obtain rfl := List.mem_singleton.1 hc
      exact .inl ⟨rfl, rfl, hm.2 y rfl⟩
  | some x =>
    cases p2 with
    | none =>
      rw [chOf] at hc
      obtain rfl := List.mem_singleton.1 hc
      exact .inr (.inl ⟨rfl, hm.1 x rfl, rfl⟩)
    | some y =>
      rw [chOf] at hc
      split at hc
      · cases hc
      · rename_i hne
        obtain rfl := List.mem_singleton.1 hc
        exact .inr (.inr ⟨rfl, hm.1 x rfl, hm.2 y rfl, hne⟩)
theorem diffL_B {a b : List Ln} (ha : ∀ x ∈ a, LnB x) (hb : ∀ x ∈ b, LnB x) : ∀ c ∈ diffL a b, ChB c := by
  intro c hc
  rcases diffL_memM a b c hc with ⟨h1, h2, h3⟩ | ⟨h1, h2, h3⟩ | ⟨h1, h2, h3, _⟩
  · exact ⟨by omega, by omega, by rw [h2]; exact LnB.zero, hb _ h3⟩
  · exact ⟨by omega, by omega, ha _ h2, by rw [h3]; exact LnB.zero⟩
  · exact ⟨by omega, by omega, ha _ h2, hb _ h3⟩
section
variable {α : Type} {cells : α → List Value} {k : Nat}
theorem row_cellsM (hk : ∀ e, (cells e).length = k) (h0 : 0 < k) {w : World} {p : Addr} {n cap : Nat} {L : List α} (h : RowOf cells k w (.slice (some p) n cap) L) (j : Nat) (u : Value) (hu : (L.flatMap cells)[j]? = some u) : w.cell? (p.add j) = some u := by
  obtain ⟨p', cap', hv, _, hc⟩ := h
  simp only [Value.slice.injEq] at hv
  obtain ⟨rfl, rfl, rfl⟩ := hv
  have hj : j < L.length * k := by rw [← flat_length hk L]; exact (List.getElem?_eq_some_iff.1 hu).1
  have hd : j / k < L.length := Nat.div_lt_of_lt_mul (by rwa [Nat.mul_comm])
  have hm : j / k * k + j % k = j := Nat.div_add_mod' j k
  obtain ⟨x, hx⟩ : ∃ x, L[j / k]? = some x := ⟨_, List.getElem?_eq_getElem hd⟩
  obtain ⟨b, o, hp, _, hcc⟩ := hc (j / k) x hx
  obtain ⟨v, hv⟩ : ∃ v, (cells x)[j % k]? = some v := ⟨_, List.getElem?_eq_getElem (by rw [hk]; exact Nat.mod_lt _ h0)⟩
  have h1 := flat_at hk L (j / k) (j % k) x v hx hv
  rw [hm, hu] at h1
  cases h1
  have := hcc (j % k) u hv
  rw [Option.some.inj hp, show (Addr.add ⟨b, o, none⟩ j) = (⟨b, o + j, none⟩ : Addr) by cases j <;> simp [Addr.add]]
  rw [show o + j / k * k + j % k = o + j by omega] at this
  exact this
end
theorem RowOf.dropM {α : Type} {cells : α → List Value} {k : Nat} {w : World} {b o n cap : Nat} {l : List α} (h : RowOf cells k w (.slice (some ⟨b, o, none⟩) n cap) l) (j : Nat) (hn : l.length = n) (hj : j ≤ n) (c' : Nat) (hc : n - j ≤ c') : RowOf cells k w (.slice (some ⟨b, o + j * k, none⟩) (n - j) c') (l.drop j) := by
  obtain ⟨p, cap', hv, hle, hcc⟩ := h
  simp only [Value.slice.injEq] at hv
  obtain ⟨rfl, _, _⟩ := hv
  refine ⟨_, c', by rw [List.length_drop, hn], by rw [List.length_drop, hn]; exact hc, fun i e he => ?_⟩
  rw [List.getElem?_drop] at he
  obtain ⟨b', o', hp, hb, h2⟩ := hcc (j + i) e he
  simp only [Option.some.injEq, Addr.mk.injEq, and_true] at hp
  obtain ⟨rfl, rfl⟩ := hp
  refine ⟨b, o + j * k, rfl, hb, fun q u hu => ?_⟩
  have := h2 q u hu
  rw [show o + (j + i) * k = o + j * k + i * k by rw [Nat.add_mul]; omega] at this
  exact this
theorem flat_setM {α : Type} {cells : α → List Value} {k : Nat} (hk : ∀ e, (cells e).length = k) : ∀ (l : List α) (j f : Nat) (x x' : α) (u : Value), l[j]? = some x → f < k → (cells x).set f u = cells x' → (l.flatMap cells).set (j * k + f) u = (l.set j x').flatMap cells
  | [], j, f, x, x', u, h, _, _ => by simp at h
  | y :: l, 0, f, x, x', u, h, hf, he => by
    simp only [List.getElem?_cons_zero, Option.some.injEq] at h
    subst h
    rw [Nat.zero_mul, Nat.zero_add, List.set_cons_zero, List.flatMap_cons, List.flatMap_cons, List.set_append_left _ _ (by rw [hk]; exact hf), he]
  | y :: l, j + 1, f, x, x', u, h, hf, he => by
    simp only [List.getElem?_cons_succ] at h
    have hle : k ≤ (j + 1) * k + f := by rw [Nat.succ_mul]; omega
    rw [List.set_cons_succ, List.flatMap_cons, List.flatMap_cons, List.set_append_right _ _ (by rw [hk]; exact hle), hk, show (j + 1) * k + f - k = j * k + f by rw [Nat.succ_mul]; omega, flat_setM hk l j f x x' u h hf he]
theorem range_setM {W : World} {b j : Nat} {cs : List Value} {u : Value} (h : W.rangeAt b 0 cs) (hj : j < cs.length) : (W.setCell ⟨b, j, none⟩ u).rangeAt b 0 (cs.set j u) := by
  intro i v hv
  by_cases hij : i = j
  · subst hij
    rw [List.getElem?_set_self hj] at hv
    cases hv
    rw [Nat.zero_add]
    have := h i _ (List.getElem?_eq_getElem hj)
    rw [Nat.zero_add] at this
    exact World.cell?_setCell_same _ _ _ this
  · rw [List.getElem?_set_ne (Ne.symm hij)] at hv
    rw [World.cell?_setCell_other _ _ _ _ (fun e => hij (by have h2 : j = 0 + i := congrArg Addr.off e; omega))]
    exact h i v hv
theorem ints_set {W : World} {b j : Nat} {L : List Int} {u : Int} (h : W.rangeAt b 0 (L.map (Value.int .i64))) (hj : j < L.length) : (W.setCell ⟨b, j, none⟩ (.int .i64 u)).rangeAt b 0 ((L.set j u).map (Value.int .i64)) := by
  have := range_setM (u := .int .i64 u) h (by rw [List.length_map]; exact hj)
  rwa [← List.map_set] at this
theorem ints_atM {W : World} {b j : Nat} {L : List Int} (h : W.rangeAt b 0 (L.map (Value.int .i64))) (hj : j < L.length) : W.cell? ⟨b, j, none⟩ = some (.int .i64 (L[j])) := by
  have := h j (.int .i64 L[j]) (by rw [List.getElem?_map, List.getElem?_eq_getElem hj]; rfl)
  rwa [Nat.zero_add] at this
theorem ints_new (w : World) (L : List Int) (t : TypeId) : (w.alloc (.cells (L.map (Value.int .i64)).toArray t)).rangeAt w.heap.size 0 (L.map (Value.int .i64)) := by
  intro j v hj
  rw [Nat.zero_add, World.cell?_alloc_at _ _ _ _ rfl]
  simpa using hj
theorem ch_store {W : World} {base g N c : Nat} {t : TypeId} {l : List Ch} {j : Nat} {x : Ch} (n : Int) (h : W.ownsRow base t 23 (.slice (some ⟨g, 0, none⟩) N c) N (l.flatMap Ch.cells)) (hx : l[j]? = some x) :
    (W.setCell ⟨g, j * 23, none⟩ (.int .u8 n)).ownsRow base t 23 (.slice (some ⟨g, 0, none⟩) N c) N ((l.set j ⟨n, x.old, x.new⟩).flatMap Ch.cells) := by
  have := (World.ownsRow.stored h (j * 23) (.int .u8 n)).1
  rw [show j * 23 = j * 23 + 0 from rfl, flat_setM Ch.cells_length l j 0 x ⟨n, x.old, x.new⟩ (.int .u8 n) hx (by decide) rfl] at this
  exact this
theorem chB_set {l : List Ch} {j : Nat} {x : Ch} {n : Int} (h : ∀ c ∈ l, ChB c) (hx : l[j]? = some x) (n0 : 0 ≤ n) (n1 : n < 256) : ∀ c ∈ l.set j ⟨n, x.old, x.new⟩, ChB c := by
  intro c hc
  rcases List.mem_or_eq_of_mem_set hc with hc | rfl
  · exact h c hc
  · have := h x (List.mem_of_getElem? hx)
    exact ⟨n0, n1, this.old, this.new⟩
theorem ch_one (c : Ch) : ∀ u ∈ c.cells, u.oneCell' = true := by
  intro u hu
  simp only [Ch.cells, List.mem_cons, List.mem_append] at hu
  rcases hu with rfl | hu | hu
  · rfl
  · exact c.old.one u hu
  · exact c.new.one u hu
theorem chs_one (l : List Ch) : ∀ u ∈ l.flatMap Ch.cells, u.oneCell' = true := by
  intro u hu
  obtain ⟨c, _, hc⟩ := List.mem_flatMap.1 hu
  exact ch_one c u hc
section
variable {P : Program} {ops : Array Oper} {Q : Exit → Act → World → Prop} {md : Region.Mode} {S : World → Prop} {fuel i j : Nat} {listed : Array Bool} {a : Act} {w : World} {o : Oper} {v : Value}
theorem wp_region_heldN {id : Nat} (S : World → Prop) (hm : P.follows .mixedOrders = true) (h : wpAnyH P .any ops (onlyN Q) S ops.size (Array.replicate ops.size false) a w.drew) : (Code.region id ops true).wp P Q a w :=
  wp_mono (wp_region_held hm h) (by rintro e a w ⟨rfl, h⟩; exact h)
theorem anyH_take (hi : ops[i]? = some o) (hs : Region.noSelect ops = true) (hf : Region.free md ops listed i = true) (hr : (Region.ready md ops listed).contains i = true)
    (hS : S w) (hy : YieldsIf P ops S o v a) (h : wpAnyH P md ops (onlyN Q) S fuel (listed.setIfInBounds i true) (a.put o.dst v) w) : wpAnyH P md ops (onlyN Q) S (fuel + 1) listed a w :=
  wpAnyH_take hi hs hf hr (fun _ _ _ h => by cases h.1) hy hS h
theorem yieldsH_mid (hw : Region.wanted o (yielded ops a.tmps) = true) (ty : TypeId) (x : Operand) (ho : o.op = .load ty x) (b f : Nat) (hx : a.eval x = .pointer (some ⟨b, f, none⟩)) (cs : List Value) (d : TypeDesc) (hc : ∀ w, S w → w.rangeAt b f cs)
    (hu : P.underlying ty = some d) (hd : d.isRow = true) (hi : (P.info? ty).map (·.size) = some cs.length) : YieldsIf P ops S o (.agg cs.toArray) a := by
  refine Or.inl ⟨hw, fun w hS => ?_⟩
  unfold execOp
  simp only [ho, hx, Instr.loadAt, Instr.sureAddr, Sem.run_bind, Sem.run_pure, Result.andThen_ok, run_loadVar_mid w b f ty cs d (hc w hS) hu hd hi]
/-- One operation that comes up. -/
def StepH (P : Program) (md : Region.Mode) (ops : Array Oper) (Q : Exit → Act → World → Prop) (S : World → Prop) (fuel : Nat) (listed : Array Bool) (a : Act) (w : World) (i : Nat) : Prop :=
  wpOp P ops Q i (fun a' w' => S w' ∧ wpAnyH P md ops Q S fuel (listed.setIfInBounds i true) a' w') a w
theorem anyH_one (hr : Region.ready md ops listed = [i]) (h : StepH P md ops Q S fuel listed a w i) : wpAnyH P md ops Q S (fuel + 1) listed a w :=
  wpAnyH_all hr (by simp) (fun k hk => by obtain rfl := List.mem_singleton.1 hk; exact h)
theorem anyH_two (hr : Region.ready md ops listed = [i, j]) (h : StepH P md ops Q S fuel listed a w i) (h2 : StepH P md ops Q S fuel listed a w j) : wpAnyH P md ops Q S (fuel + 1) listed a w :=
  wpAnyH_all hr (by simp) (fun k hk => by simp only [List.mem_cons, List.not_mem_nil, or_false] at hk; rcases hk with rfl | rfl <;> assumption)
theorem stepH_run (ho : ops[i]? = some o) (hw : Region.wanted o (yielded ops a.tmps) = true) (v : Value) (w' : World) (hrun : (execOp a.eval o).run P w = .ok (.value v) w') (hS : S w')
    (h : wpAnyH P md ops Q S fuel (listed.setIfInBounds i true) (a.put o.dst v) w') : StepH P md ops Q S fuel listed a w i :=
  wpOp_step ho (fun K' hK => by
    rw [if_pos hw]
    unfold Oper.wp
    rw [hrun]
    exact hK _ _ ⟨hS, h⟩)
theorem stepH_call (ho : ops[i]? = some o) (hw : Region.wanted o (yielded ops a.tmps) = true) (f : FuncId) (xs : Array Operand) (ts : Array TypeId) (hop : o.op = Op.call { callee := Callee.value (Operand.func f), args := xs, argTypes := ts })
    (args : Array Value) (ha : xs.map a.eval = args) (hcf : ∀ w, (callFunc f args).run P w = .ok (.enter f args) w) (v : Value) (hg : Gives P f args w v) (hS : ∀ x : Ext w, S x.w)
    (h : ∀ x : Ext w, wpAnyH P md ops Q S fuel (listed.setIfInBounds i true) (a.put o.dst v) x.w) : StepH P md ops Q S fuel listed a w i :=
  wpOp_step ho (fun K' hK => by
    rw [if_pos hw]
    unfold Oper.wp
    unfold execOp
    rw [hop]
    go_simp
    refine Gives.mono hg ?_
    rintro e w1 ⟨rfl, x, rfl⟩
    exact hK _ _ ⟨hS x, h x⟩)
/-- append to what a call owns: what was there is there still, by the old slice, too. -/
theorem append_keep (base : Nat) (t ty e : TypeId) (ti : TypeInfo) (z : Value) (size bytes : Nat) (h1 : P.underlying t = some (.slice e)) (h2 : P.info? e = some ti) (h3 : ti.zero = some z) (h4 : ti.size = size) (h5 : ti.bytes = bytes) (h6 : z.cells.size = size) (h7 : 0 < size)
    (v : Value) (k : Nat) (xs : List Value) (hown : w.ownsRow base e size v k xs) (ad : Addr) (m c : Nat) (news : List Value) (hn : news.length = m * size)
    (hc : ∀ j u, news[j]? = some u → w.cell? (ad.add j) = some u) (h1c : ∀ u ∈ news, u.oneCell' = true) (b1 : k + m ≤ maxLen) (b2 : (k + m) * bytes ≤ 140737488355328) (b3 : base ≤ w.heap.size) :
    ∃ v' w', (Builtin.append_ #[t, t] ty #[v, .slice (some ad) m c]).run P w = .ok v' w' ∧ w'.ownsRow base e size v' (k + m) (xs ++ news) ∧ w.grownBy w' v.ownBlock ∧
      ∀ g n' cap, v = .slice (some ⟨g, 0, none⟩) n' cap → ∀ j u, xs[j]? = some u → w'.cell? ⟨g, j, none⟩ = some u := by
  obtain ⟨v', w', hrun, r1, r2, _⟩ := run_append_own (P := P) w base t ty e ti z size bytes h1 h2 h3 h4 h5 h6 h7 v k xs hown ad m c news hn hc h1c b1 b2 b3
  refine ⟨v', w', hrun, r1, r2, fun g n' cap hv j u hj => ?_⟩
  subst hv
  obtain ⟨hl, ⟨h0, _⟩ | ⟨g', cap', cur, hv, hg, hh, hnc, hcm, hcs, htake⟩⟩ := hown
  · cases h0
  · simp only [Value.slice.injEq, Option.some.injEq, Addr.mk.injEq, and_true] at hv
    obtain ⟨rfl, rfl, rfl⟩ := hv
    have hj2 : j < n' * size := by rw [← hl]; exact (List.getElem?_eq_some_iff.1 hj).1
    have hold : ∀ j u, xs[j]? = some u → w.cell? ⟨g, j, none⟩ = some u := fun j u hj => by
      have hj2 : j < n' * size := by rw [← hl]; exact (List.getElem?_eq_some_iff.1 hj).1
      simp only [World.cell?, hh]
      rw [← htake, List.getElem?_take, if_pos hj2] at hj
      simpa using hj
    by_cases hr : n' + m ≤ cap
    · have hsz : n' * size + news.length ≤ cap * size := by rw [hn, ← Nat.add_mul]; exact Nat.mul_le_mul_right _ hr
      have hroom := run_append_room_cells (P := P) w t ty e ti h1 h2 g 0 n' cap ad m c news (by rw [h4]; exact hn) hc h1c hr
        (fun j hj => by rw [h4, cell_of_row w g _ _ _ _ hh]; rw [Array.getElem?_eq_getElem (by omega)]; rfl) (fun j hj => frozen_of_row w g _ _ _ hh)
      rw [hrun] at hroom
      injection hroom with _ hw
      rw [hw, World.cell?_setCells_out g news _ _ _ (fun _ _ => by show j < 0 + n' * ti.size ∨ _; rw [h4]; omega)]
      exact hold j u hj
    · obtain ⟨v2, w2, hrun2, _, hgr⟩ := run_append_arg_grows (P := P) w t ty e ti z size bytes h1 h2 h3 h4 h5 h6 h7 ⟨g, 0, none⟩ n' cap xs hl (fun j u hj => by rw [show Addr.add ⟨g, 0, none⟩ j = (⟨g, j, none⟩ : Addr) by cases j <;> simp [Addr.add]]; exact hold j u hj) ad m c news hn hc (by omega) b1 b2
      rw [hrun] at hrun2
      injection hrun2 with _ hw
      rw [hw]
      exact (Up.grown (Up.refl w) hgr (by intro k h; cases h)).cell_some' (hold j u hj)
theorem strCells_appM (a b : List (List UInt8)) : strCells (a ++ b) = strCells a ++ strCells b := by simp [strCells]
theorem strCells_lenM (a : List (List UInt8)) : (strCells a).length = a.length := by simp [strCells]
theorem strCells_oneM (a : List (List UInt8)) : ∀ u ∈ strCells a, u.oneCell' = true := by
  intro u hu
  simp only [strCells, List.mem_map] at hu
  obtain ⟨x, _, rfl⟩ := hu
  rfl
theorem strRow_of_cells {w : World} {g cap : Nat} {L : List (List UInt8)} (hg : g < w.heap.size) (hc : L.length ≤ cap) (h : ∀ j u, (strCells L)[j]? = some u → w.cell? ⟨g, j, none⟩ = some u) : StrRow w (.slice (some ⟨g, 0, none⟩) L.length cap) L :=
  ⟨_, cap, rfl, hc, fun i e he => ⟨g, 0, rfl, hg, fun j u hj => by
    rcases (by have := (List.getElem?_eq_some_iff.1 hj).1; simp at this; omega : j = 0) with rfl
    simp at hj; subst hj
    have := h i (.string ⟨e.toArray⟩) (by simp [strCells, he])
    simpa using this⟩⟩
theorem run_append_nothingM {t ty e : TypeId} {ti : TypeInfo} {size base n c : Nat} {xs : List Value} (ht : P.underlying t = some (.slice e)) (hi : P.info? e = some ti) (h : w.ownsRow base e size v n xs) :
    (Builtin.append_ #[t, t] ty #[v, .slice none 0 c]).run P w = .ok v w := by
  rcases h.2 with ⟨rfl, rfl⟩ | ⟨g, cap, cur, rfl, _, _, hnc, _⟩
  · simp [Builtin.append_, run_underlying ht, sizeOf, typeInfo, hi, Builtin.lenOf, Builtin.firstCells]
  · simp [Builtin.append_, run_underlying ht, sizeOf, typeInfo, hi, Builtin.lenOf, Builtin.firstCells, storeCells, hnc]
/-- append of any row of strings to one that a call owns. -/
theorem stepH_appendS (ho : ops[i]? = some o) (hw : Region.wanted o (yielded ops a.tmps) = true) (s x : Operand) (t : TypeId)
    (hop : o.op = Op.call { callee := Callee.builtin Builtin.append, args := #[s, x], argTypes := #[t, t] })
    (base : Nat) (e : TypeId) (ti : TypeInfo) (z : Value) (bytes : Nat) (h1 : P.underlying t = some (.slice e)) (h2 : P.info? e = some ti) (h3 : ti.zero = some z) (h4 : ti.size = 1) (h5 : ti.bytes = bytes) (h6 : z.cells.size = 1)
    (v : Value) (L : List (List UInt8)) (hs : a.eval s = v) (hown : w.ownsRow base e 1 v L.length (strCells L)) (u : Value) (l : List (List UInt8)) (hx : a.eval x = u) (hr : StrRow w u l)
    (b1 : L.length + l.length ≤ maxLen) (b2 : (L.length + l.length) * bytes ≤ 140737488355328) (b3 : base ≤ w.heap.size)
    (hK : ∀ v' w', w'.ownsRow base e 1 v' (L ++ l).length (strCells (L ++ l)) → w.grownBy w' v.ownBlock → StrRow w' v L → S w' ∧ wpAnyH P md ops Q S fuel (listed.setIfInBounds i true) (a.put o.dst v') w') : StepH P md ops Q S fuel listed a w i :=
  wpOp_step ho (fun K' hK' => by
    rw [if_pos hw]
    have hr' := hr
    obtain ⟨p, c, rfl, hle, hc⟩ := hr
    cases p with
    | none =>
      have hl : l = [] := by
        cases l with
        | nil => rfl
        | cons y l => obtain ⟨_, _, hp, _⟩ := hc 0 y rfl; cases hp
      subst hl
      have hrun := run_append_nothingM (P := P) (ty := o.type) (c := c) h1 h2 hown
      simp only [List.length_nil] at hx
      unfold Oper.wp
      simp [execOp, hop, resolve, invoke, builtin, hs, hx, hrun, Result.andThen]
      exact hK' _ _ (hK v w (by simpa using hown) ⟨rfl, rfl, rfl, Nat.le_refl _, fun _ _ _ => rfl⟩ (StrRow.of_owns hown))
    | some ad =>
      obtain ⟨v', w', hrun, r1, r2, r3⟩ := append_keep (P := P) (w := w) base t o.type e ti z 1 bytes h1 h2 h3 h4 h5 h6 (by decide) v L.length _ hown ad l.length c (strCells l) (by rw [strCells_lenM, Nat.mul_one]) (fun j u h => strRow_cells hr' j u h) (strCells_oneM l) b1 b2 b3
      unfold Oper.wp
      simp [execOp, hop, resolve, invoke, builtin, hs, hx, hrun, Result.andThen]
      refine hK' _ _ (hK v' w' (by rw [strCells_appM, List.length_append]; exact r1) r2 ?_)
      obtain ⟨_, ⟨rfl, h0⟩ | ⟨g, cap, cur, rfl, hg, hh, hnc, _⟩⟩ := hown
      · rw [List.eq_nil_of_length_eq_zero h0]; exact RowOf.nil _
      · exact strRow_of_cells (Nat.lt_of_lt_of_le (Array.getElem?_eq_some_iff.1 hh).1 r2.size) hnc (fun j u hj => r3 g L.length cap rfl j u hj))
theorem owns_lit (w : World) (t : TypeId) (k n : Nat) (cs : List Value) (h : cs.length = n * k) (hn : n ≤ maxLen) : (w.alloc (.cells cs.toArray t)).ownsRow w.heap.size t k (.slice (some ⟨w.heap.size, 0, none⟩) n n) n cs :=
  ⟨h, .inr ⟨_, n, cs.toArray, rfl, Nat.le_refl _, alloc_new rfl, Nat.le_refl _, hn, by simp [h], by rw [← h]; simp⟩⟩
theorem str_lit (w : World) (t : TypeId) (L : List (List UInt8)) (hn : L.length ≤ maxLen) : (w.alloc (.cells (strCells L).toArray t)).ownsRow w.heap.size t 1 (.slice (some ⟨w.heap.size, 0, none⟩) L.length L.length) L.length (strCells L) :=
  owns_lit w t 1 L.length (strCells L) (by rw [strCells_lenM, Nat.mul_one]) hn
/-- append onto a slice that lies anywhere: a new row, where there is no room. -/
theorem stepH_grows (ho : ops[i]? = some o) (hw : Region.wanted o (yielded ops a.tmps) = true) (s x : Operand) (t : TypeId)
    (hop : o.op = Op.call { callee := Callee.builtin Builtin.append, args := #[s, x], argTypes := #[t, t] })
    (e : TypeId) (ti : TypeInfo) (z : Value) (size bytes : Nat) (h1 : P.underlying t = some (.slice e)) (h2 : P.info? e = some ti) (h3 : ti.zero = some z) (h4 : ti.size = size) (h5 : ti.bytes = bytes) (h6 : z.cells.size = size) (h7 : 0 < size)
    (b : Addr) (n cap : Nat) (olds : List Value) (hs : a.eval s = .slice (some b) n cap) (hlo : olds.length = n * size) (holds : ∀ j u, olds[j]? = some u → w.cell? (b.add j) = some u) (ad : Addr) (m c : Nat) (news : List Value) (hx : a.eval x = .slice (some ad) m c) (hn : news.length = m * size)
    (hc : ∀ j u, news[j]? = some u → w.cell? (ad.add j) = some u) (hfull : cap < n + m) (b1 : n + m ≤ maxLen) (b2 : (n + m) * bytes ≤ 140737488355328)
    (hK : ∀ v' w', w'.ownsRow w.heap.size e size v' (n + m) (olds ++ news) → w.grownBy w' none → S w' ∧ wpAnyH P md ops Q S fuel (listed.setIfInBounds i true) (a.put o.dst v') w') : StepH P md ops Q S fuel listed a w i :=
  wpOp_step ho (fun K' hK' => by
    rw [if_pos hw]
    obtain ⟨v', w', hrun, r1, r2⟩ := run_append_arg_grows (P := P) w t o.type e ti z size bytes h1 h2 h3 h4 h5 h6 h7 b n cap olds hlo holds ad m c news hn hc hfull b1 b2
    unfold Oper.wp
    simp [execOp, hop, resolve, invoke, builtin, hs, hx, hrun, Result.andThen]
    exact hK' _ _ (hK v' w' r1 r2))
end
end Go.Ab
namespace Go.Proofs.YtlbbepgfjigjpaaGreatDoor
open Go.RowKit Go.Ab
theorem ddiff_all (a b : List Ln) (va vb : Value) (w : World) (ha : LnRow w va a) (hb : LnRow w vb b) (ba : ∀ x ∈ a, LnB x) (bb : ∀ x ∈ b, LnB x) (la : a.length ≤ 3) (lb : b.length ≤ 3) :
    Calls Tryz.prog 8 #[va, vb] w fun e w' => ∃ q c L er, e = .returned (.tuple #[.slice q L.length c, .int .i64 er]) ∧ ChRow w' (.slice q L.length c) L ∧ NilOk (.slice q L.length c) ∧ L.length ≤ 6 ∧ (∀ x ∈ L, ChB x) ∧ ∃ x : Ext w, w' = x.w := by
  by_cases h : (orderedL a && orderedL b) = true
  · rw [Bool.and_eq_true] at h
    refine (ddiff_yes a b va vb w ha hb ba bb (by omega) (by omega) h.1 h.2).mono ?_
    rintro e w' ⟨u, rfl, hown, x, rfl⟩
    have hl := diffL_len a b
    have hn : NilOk u := NilOk.of_owns hown
    have hr : ChRow x.w u (diffL a b) := ChRow.of_owns hown
    obtain ⟨q, c, hu, _⟩ := id hr
    subst hu
    exact ⟨q, c, diffL a b, 0, rfl, hr, hn, by omega, diffL_B ba bb, x, rfl⟩
  · refine (ddiff_no a b va vb w ha hb ba bb (by omega) (by omega) (by simpa using h)).mono ?_
    rintro e w' ⟨rfl, x, rfl⟩
    exact ⟨none, 0, [], 383, rfl, RowOf.nil _, (by intro n c h; cases h; rfl), by decide, (by intro x h; cases h), x, rfl⟩
theorem dcounts_all (c : List Int) (w : World) (g : GoodD w) (hc : c.length = 31) (hb : ∀ n ∈ c, -9223372036854775808 ≤ n ∧ n ≤ 9223372036854775807) :
    Calls Tryz.prog 11 #[.agg (c.map (Value.int .i64)).toArray] w fun e w' => ∃ u L er, e = .returned (.tuple #[u, .int .i64 er]) ∧ w'.ownsRow w.heap.size 9 1 u L.length (strCells L) ∧ L.length ≤ 31 ∧ ∃ x : Ext w, w' = x.w := by
  refine (dcounts_any c w g hc hb).mono fun e w' ⟨h1, h2⟩ => ?_
  unfold countsE at h1
  cases h : c.all fun n => decide (0 ≤ n)
  · rw [h] at h1; exact ⟨_, [], 2, h1, World.ownsRow_nil _ _ _ _, by decide, h2⟩
  · rw [h] at h1
    obtain ⟨u, h3, h4⟩ := h1
    exact ⟨u, _, 0, h3, h4, by rw [← hc]; exact countsL_len c, h2⟩
end Go.Proofs.YtlbbepgfjigjpaaGreatDoor
