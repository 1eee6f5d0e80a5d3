/- append of a slice of another type with the same elements (a set, a slice of spans) onto a row of the call's own. -/
import Derived.Test.YtgfkcbflnkpogaaGreatDoorSp19
set_option linter.unusedVariables false
set_option linter.unusedSimpArgs false
namespace Go.Ab
open Go.RowKit
theorem owns_lt {w : World} {base : Nat} {e : TypeId} {size : Nat} {v : Value} {n : Nat} {xs : List Value} (h : w.ownsRow base e size v n xs) : ∀ k, v.ownBlock = some k → k < w.heap.size := by
  obtain ⟨_, ⟨rfl, _⟩ | ⟨g, cap, cur, rfl, _, hh, _⟩⟩ := h
  · intro k hk; cases hk
  · intro k hk; cases hk; exact (Array.getElem?_eq_some_iff.1 hh).1
theorem grown_cell {w w' : World} {row : Option Nat} (hg : w.grownBy w' row) {b o : Nat} {u : Value} (hc : w.cell? ⟨b, o, none⟩ = some u) (hne : ∀ k, row = some k → k < b) : w'.cell? ⟨b, o, none⟩ = some u :=
  (World.cell?_of_block (hg.block b (cell_lt' hc) (fun e => by have := hne b e.symm; omega))).trans hc
theorem append_types {P : Program} {w : World} {t t' ty e e' : TypeId} (ht : P.underlying t = some (.slice e)) (ht' : P.underlying t' = some (.slice e')) (b : Option Addr) (n c : Nat) (x : Value) :
    (Builtin.append_ #[t, t'] ty #[.slice b n c, x]).run P w = (Builtin.append_ #[t, t] ty #[.slice b n c, x]).run P w := by
  simp [Builtin.append_, Sem.run_bind, run_underlying ht, run_underlying ht']
theorem owns_form {w : World} {base : Nat} {e : TypeId} {size n : Nat} {v : Value} {xs : List Value} (h : w.ownsRow base e size v n xs) : ∃ p c, v = .slice p n c := by
  rcases h.2 with ⟨h1, h2⟩ | ⟨g, cap, cur, hv, _⟩
  · exact ⟨none, 0, by rw [h1, h2]⟩
  · exact ⟨_, cap, hv⟩
section
variable {α : Type} {cells : α → List Value} {k : Nat}
theorem run_append_list (hk : ∀ e, (cells e).length = k) (h1 : ∀ e u, u ∈ cells e → u.oneCell' = true) (h0 : 0 < k) {P : Program} {w : World} (t ty : TypeId)
    (base : Nat) (e : TypeId) (i : TypeInfo) (z : Value) (bytes : Nat) (ht : P.underlying t = some (.slice e)) (hi : P.info? e = some i) (hz : i.zero = some z) (hsize : i.size = k) (hby : i.bytes = bytes) (hzs : z.cells.size = k)
    (L : List α) (v : Value) (hown : w.ownsRow base e k v L.length (L.flatMap cells)) (l : List α) (u : Value) (hr : RowOf cells k w u l) (h63 : L.length + l.length ≤ maxLen) (hbytes : (L.length + l.length) * bytes ≤ 140737488355328) (hbase : base ≤ w.heap.size) :
    ∃ v' w', (Builtin.append_ #[t, t] ty #[v, u]).run P w = .ok v' w' ∧ w'.ownsRow base e k v' (L ++ l).length ((L ++ l).flatMap cells) ∧ w.grownBy w' v.ownBlock := by
  have hr' := hr
  obtain ⟨p, c, rfl, hle, hc⟩ := hr
  cases p with
  | none =>
    have hl : l = [] := by
      cases l with
      | nil => rfl
      | cons y l => obtain ⟨_, _, hp, _⟩ := hc 0 y rfl; cases hp
    subst hl
    exact ⟨v, w, run_append_nothing ht hi hown, by simpa using hown, ⟨rfl, rfl, rfl, Nat.le_refl _, fun _ _ _ => rfl⟩⟩
  | some ad =>
    obtain ⟨v', w', hrun, r1, r2, _⟩ := run_append_own (P := P) w base t ty e i z k bytes ht hi hz hsize hby hzs h0 v L.length _ hown ad l.length c (l.flatMap cells) (flat_length hk l) (row_cells hk h0 hr') (fun u hu => by
      obtain ⟨y, _, hy⟩ := List.mem_flatMap.1 hu
      exact h1 y u hy) h63 hbytes hbase
    refine ⟨v', w', hrun, ?_, r2⟩
    rw [List.length_append, List.flatMap_append]
    exact r1
theorem wpList_append_list2 (hk : ∀ e, (cells e).length = k) (h1 : ∀ e u, u ∈ cells e → u.oneCell' = true) (h0 : 0 < k) {P : Program} {w : World} {ops : Array Oper} {rest : List Oper} {o : Oper} {a : Act} {Q : Exit → Act → World → Prop} (hgd : o.guard = none) (s x : Operand) (t t' e' : TypeId)
    (ho : o.op = .call { callee := .builtin .append, args := #[s, x], argTypes := #[t, t'] }) (ht' : P.underlying t' = some (.slice e'))
    (base : Nat) (e : TypeId) (i : TypeInfo) (z : Value) (bytes : Nat) (ht : P.underlying t = some (.slice e)) (hi : P.info? e = some i) (hz : i.zero = some z) (hsize : i.size = k) (hby : i.bytes = bytes) (hzs : z.cells.size = k)
    (L : List α) (v : Value) (hs : a.eval s = v) (hown : w.ownsRow base e k v L.length (L.flatMap cells))
    (l : List α) (u : Value) (hx : a.eval x = u) (hr : RowOf cells k w u l) (h63 : L.length + l.length ≤ maxLen) (hbytes : (L.length + l.length) * bytes ≤ 140737488355328) (hbase : base ≤ w.heap.size)
    (h : ∀ v' w', w'.ownsRow base e k v' (L ++ l).length ((L ++ l).flatMap cells) → w.grownBy w' v.ownBlock → wpList P ops Q rest (a.put o.dst v') w') : wpList P ops Q (o :: rest) a w :=
  wpList_plain hgd fun K hK => by
    obtain ⟨v', w', hrun, r1, r2⟩ := run_append_list hk h1 h0 (P := P) t o.type base e i z bytes ht hi hz hsize hby hzs L v hown l u hr h63 hbytes hbase
    obtain ⟨pv, cv, rfl⟩ := owns_form hown
    rw [← append_types ht ht'] at hrun
    unfold Oper.wp
    simp [execOp, ho, resolve, invoke, builtin, hs, hx, hrun, Result.andThen]
    exact hK _ _ (h v' w' r1 r2)
theorem step_append_list2 (hk : ∀ e, (cells e).length = k) (h1 : ∀ e u, u ∈ cells e → u.oneCell' = true) (h0 : 0 < k) {P : Program} {w : World} {ops : Array Oper} {o : Oper} {a : Act} {K : Act → World → Prop} {Q : Exit → Act → World → Prop} {E : Prop} (hgd : o.guard = none) (s x : Operand) (t t' e' : TypeId)
    (ho : o.op = .call { callee := .builtin .append, args := #[s, x], argTypes := #[t, t'] }) (ht' : P.underlying t' = some (.slice e'))
    (base : Nat) (e : TypeId) (i : TypeInfo) (z : Value) (bytes : Nat) (ht : P.underlying t = some (.slice e)) (hi : P.info? e = some i) (hz : i.zero = some z) (hsize : i.size = k) (hby : i.bytes = bytes) (hzs : z.cells.size = k)
    (L : List α) (v : Value) (hs : a.eval s = v) (hown : w.ownsRow base e k v L.length (L.flatMap cells))
    (l : List α) (u : Value) (hx : a.eval x = u) (hr : RowOf cells k w u l) (h63 : L.length + l.length ≤ maxLen) (hbytes : (L.length + l.length) * bytes ≤ 140737488355328) (hbase : base ≤ w.heap.size)
    (hK : ∀ v' w', w'.ownsRow base e k v' (L ++ l).length ((L ++ l).flatMap cells) → w.grownBy w' v.ownBlock → K (a.put o.dst v') w') :
    if Region.wanted o (yielded ops a.tmps) = true then o.wp P a w K Q else E := by
  have hw : Region.wanted o (yielded ops a.tmps) = true := by simp [Region.wanted, hgd]
  rw [if_pos hw]
  obtain ⟨v', w', hrun, r1, r2⟩ := run_append_list hk h1 h0 (P := P) t o.type base e i z bytes ht hi hz hsize hby hzs L v hown l u hr h63 hbytes hbase
  obtain ⟨pv, cv, rfl⟩ := owns_form hown
  rw [← append_types ht ht'] at hrun
  unfold Oper.wp
  simp [execOp, ho, resolve, invoke, builtin, hs, hx, hrun, Result.andThen]
  exact hK _ _ r1 r2
/-- append of elements onto an empty slice without room: the result is new. -/
theorem step_append_first2 (hk : ∀ e, (cells e).length = k) (h1 : ∀ e u, u ∈ cells e → u.oneCell' = true) (h0 : 0 < k) {P : Program} {w : World} {ops : Array Oper} {o : Oper} {a : Act} {K : Act → World → Prop} {Q : Exit → Act → World → Prop} {E : Prop} (hgd : o.guard = none) (s x : Operand) (t t' e' : TypeId)
    (ho : o.op = .call { callee := .builtin .append, args := #[s, x], argTypes := #[t, t'] }) (ht' : P.underlying t' = some (.slice e'))
    (e : TypeId) (i : TypeInfo) (z : Value) (bytes : Nat) (ht : P.underlying t = some (.slice e)) (hi : P.info? e = some i) (hz : i.zero = some z) (hsize : i.size = k) (hby : i.bytes = bytes) (hzs : z.cells.size = k)
    (g : Nat) (hs : a.eval s = .slice (some ⟨g, 0, none⟩) 0 0)
    (l : List α) (ad : Addr) (n c : Nat) (hx : a.eval x = .slice (some ad) n c) (hr : RowOf cells k w (.slice (some ad) n c) l) (hl : l.length = n) (hpos : 0 < n) (h63 : n ≤ maxLen) (hbytes : n * bytes ≤ 140737488355328)
    (hK : ∀ v' w', w'.ownsRow w.heap.size e k v' l.length (l.flatMap cells) → w.grownBy w' none → K (a.put o.dst v') w') :
    if Region.wanted o (yielded ops a.tmps) = true then o.wp P a w K Q else E := by
  have hw : Region.wanted o (yielded ops a.tmps) = true := by simp [Region.wanted, hgd]
  rw [if_pos hw]
  subst hl
  obtain ⟨v', w', hrun, r1, r2⟩ := run_append_arg_grows (P := P) w t o.type e i z k bytes ht hi hz hsize hby hzs h0 ⟨g, 0, none⟩ 0 0 [] (by simp) (fun j u h => by simp at h) ad l.length c (l.flatMap cells) (flat_length hk l) (row_cells hk h0 hr) (by omega) (by omega) (by rw [Nat.zero_add]; exact hbytes)
  rw [Nat.zero_add, List.nil_append] at r1
  rw [← append_types ht ht'] at hrun
  unfold Oper.wp
  simp [execOp, ho, resolve, invoke, builtin, hs, hx, hrun, Result.andThen]
  exact hK _ _ r1 r2
end
theorem row_grown {α : Type} {cells : α → List Value} {k : Nat} {W W' : World} {r : Option Nat} {b n c : Nat} {l : List α} (hg : W.grownBy W' r) (hne : ∀ k, r = some k → k < b) (h : RowOf cells k W (.slice (some ⟨b, 0, none⟩) n c) l) : RowOf cells k W' (.slice (some ⟨b, 0, none⟩) n c) l := by
  obtain ⟨p, cap, hv, hle, hc⟩ := h
  have hv' := hv
  simp only [Value.slice.injEq] at hv'
  obtain ⟨rfl, rfl, rfl⟩ := hv'
  refine ⟨_, _, rfl, hle, fun i e he => ?_⟩
  obtain ⟨b', o', hp, hb, h2⟩ := hc i e he
  simp only [Option.some.injEq, Addr.mk.injEq, and_true] at hp
  obtain ⟨rfl, rfl⟩ := hp
  refine ⟨b, 0, rfl, Nat.lt_of_lt_of_le hb hg.size, fun j u hj => ?_⟩
  exact (World.cell?_of_block (hg.block b hb (fun e => by have := hne b e.symm; omega))).trans (h2 j u hj)
theorem RowOf.drop {α : Type} {cells : α → List Value} {k : Nat} {w : World} {b o n cap : Nat} {l : List α} (h : RowOf cells k w (.slice (some ⟨b, o, none⟩) n cap) l) (j : Nat) (hn : l.length = n) (hj : j ≤ n) (c' : Nat) (hc : n - j ≤ c') : RowOf cells k w (.slice (some ⟨b, o + j * k, none⟩) (n - j) c') (l.drop j) := by
  obtain ⟨p, cap', hv, hle, hcc⟩ := h
  simp only [Value.slice.injEq] at hv
  obtain ⟨rfl, _, _⟩ := hv
  refine ⟨_, c', by rw [List.length_drop, hn], by rw [List.length_drop, hn]; exact hc, fun i e he => ?_⟩
  rw [List.getElem?_drop] at he
  obtain ⟨b', o', hp, hb, h2⟩ := hcc (j + i) e he
  simp only [Option.some.injEq, Addr.mk.injEq, and_true] at hp
  obtain ⟨rfl, rfl⟩ := hp
  refine ⟨b, o + j * k, rfl, hb, fun q u hu => ?_⟩
  have := h2 q u hu
  rw [show o + (j + i) * k = o + j * k + i * k by rw [Nat.add_mul]; omega] at this
  exact this
end Go.Ab
