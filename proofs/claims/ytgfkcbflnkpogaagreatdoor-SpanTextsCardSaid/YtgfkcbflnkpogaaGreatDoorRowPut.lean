/- append of a slice that reads as a list (nil or not) onto a row of the call's own. -/
import Derived.Test.YtgfkcbflnkpogaaGreatDoorSp17
set_option linter.unusedVariables false
namespace Go.Ab
open Go.RowKit
section
variable {α : Type} {cells : α → List Value} {k : Nat}
theorem row_cells (hk : ∀ e, (cells e).length = k) (h0 : 0 < k) {w : World} {p : Addr} {n cap : Nat} {L : List α} (h : RowOf cells k w (.slice (some p) n cap) L) (j : Nat) (u : Value) (hu : (L.flatMap cells)[j]? = some u) : w.cell? (p.add j) = some u := by
  obtain ⟨p', cap', hv, _, hc⟩ := h
  simp only [Value.slice.injEq] at hv
  obtain ⟨rfl, rfl, rfl⟩ := hv
  have hj : j < L.length * k := by rw [← flat_length hk L]; exact (List.getElem?_eq_some_iff.1 hu).1
  have hd : j / k < L.length := Nat.div_lt_of_lt_mul (by rwa [Nat.mul_comm])
  have hm : j / k * k + j % k = j := Nat.div_add_mod' j k
  obtain ⟨x, hx⟩ : ∃ x, L[j / k]? = some x := ⟨_, List.getElem?_eq_getElem hd⟩
  obtain ⟨b, o, hp, _, hcc⟩ := hc (j / k) x hx
  obtain ⟨v, hv⟩ : ∃ v, (cells x)[j % k]? = some v := ⟨_, List.getElem?_eq_getElem (by rw [hk]; exact Nat.mod_lt _ h0)⟩
  have h1 := flat_at hk L (j / k) (j % k) x v hx hv
  rw [hm, hu] at h1
  cases h1
  have := hcc (j % k) u hv
  rw [Option.some.inj hp, show (Addr.add ⟨b, o, none⟩ j) = (⟨b, o + j, none⟩ : Addr) by cases j <;> simp [Addr.add]]
  rw [show o + j / k * k + j % k = o + j by omega] at this
  exact this
theorem run_append_nothing {P : Program} {w : World} {t ty e : TypeId} {i : TypeInfo} {size base n c : Nat} {v : Value} {xs : List Value} (ht : P.underlying t = some (.slice e)) (hi : P.info? e = some i) (h : w.ownsRow base e size v n xs) :
    (Builtin.append_ #[t, t] ty #[v, .slice none 0 c]).run P w = .ok v w := by
  rcases h.2 with ⟨rfl, rfl⟩ | ⟨g, cap, cur, rfl, _, _, hnc, _⟩
  · simp [Builtin.append_, run_underlying ht, sizeOf, typeInfo, hi, Builtin.lenOf, Builtin.firstCells]
  · simp [Builtin.append_, run_underlying ht, sizeOf, typeInfo, hi, Builtin.lenOf, Builtin.firstCells, storeCells, hnc]
theorem wpList_append_list (hk : ∀ e, (cells e).length = k) (h1 : ∀ e u, u ∈ cells e → u.oneCell' = true) (h0 : 0 < k) {P : Program} {w : World} {ops : Array Oper} {rest : List Oper} {o : Oper} {a : Act} {Q : Exit → Act → World → Prop} (hgd : o.guard = none) (s x : Operand) (t : TypeId)
    (ho : o.op = .call { callee := .builtin .append, args := #[s, x], argTypes := #[t, t] })
    (base : Nat) (e : TypeId) (i : TypeInfo) (z : Value) (bytes : Nat) (ht : P.underlying t = some (.slice e)) (hi : P.info? e = some i) (hz : i.zero = some z) (hsize : i.size = k) (hby : i.bytes = bytes) (hzs : z.cells.size = k)
    (L : List α) (v : Value) (hs : a.eval s = v) (hown : w.ownsRow base e k v L.length (L.flatMap cells))
    (l : List α) (u : Value) (hx : a.eval x = u) (hr : RowOf cells k w u l) (h63 : L.length + l.length ≤ maxLen) (hbytes : (L.length + l.length) * bytes ≤ 140737488355328) (hbase : base ≤ w.heap.size)
    (h : ∀ v' w', w'.ownsRow base e k v' (L ++ l).length ((L ++ l).flatMap cells) → w.grownBy w' v.ownBlock → wpList P ops Q rest (a.put o.dst v') w') : wpList P ops Q (o :: rest) a w := by
  have hr' := hr
  obtain ⟨p, c, rfl, hle, hc⟩ := hr
  cases p with
  | none =>
    have hl : l = [] := by
      cases l with
      | nil => rfl
      | cons y l => obtain ⟨_, _, hp, _⟩ := hc 0 y rfl; cases hp
    subst hl
    refine wpList_plain hgd fun K hK => ?_
    have hrun := run_append_nothing (P := P) (ty := o.type) (c := c) ht hi hown
    simp only [List.length_nil] at hx
    unfold Oper.wp
    simp [execOp, ho, resolve, invoke, builtin, hs, hx, hrun, Result.andThen]
    exact hK _ _ (h v w (by simpa using hown) ⟨rfl, rfl, rfl, Nat.le_refl _, fun _ _ _ => rfl⟩)
  | some ad =>
    refine wpList_append_own w hgd s x t ho base e i z k bytes ht hi hz hsize hby hzs h0 v L.length _ hs hown ad l.length c (l.flatMap cells) hx (flat_length hk l) (row_cells hk h0 hr') (fun u hu => by
      obtain ⟨y, _, hy⟩ := List.mem_flatMap.1 hu
      exact h1 y u hy) h63 hbytes hbase (fun v' w' h2 h3 _ => h v' w' ?_ h3)
    rw [List.length_append, List.flatMap_append]
    exact h2
end
end Go.Ab
