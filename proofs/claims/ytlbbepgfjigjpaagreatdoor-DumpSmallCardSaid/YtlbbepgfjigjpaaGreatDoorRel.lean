/- A region that draws its order, each operation walked once: what it yields is told by a relation that later worlds keep. No condition but that no two operations yield into one slot, and that each waits only for earlier ones. -/
import Derived.Test.YtlbbepgfjigjpaaGreatDoorBase
namespace Go.Ab
open Go.RowKit
/-- The frame in which the operations' slots hold vs. -/
def fillL (vs : Nat → Value) : List Oper → Nat → Act → Act
  | [], _, a => a
  | o :: l, k, a => fillL vs l (k + 1) (a.put o.dst (vs k))
theorem act_put_comm (a : Act) (d d' : Option Tmp) (v u : Value) (h : d' ≠ d ∨ d = none) : (a.put d v).put d' u = (a.put d' u).put d v := by
  cases d with
  | none => rfl
  | some d =>
    cases d' with
    | none => rfl
    | some d' =>
      have hne : d' ≠ d := by
        rcases h with h | h
        · exact fun e => h (by rw [e])
        · cases h
      simp only [Act.put]
      rw [Array.setIfInBounds_comm _ _ hne.symm]
theorem act_put_put (a : Act) (d : Option Tmp) (v u : Value) : (a.put d v).put d u = a.put d u := by
  cases d with
  | none => rfl
  | some d => simp only [Act.put, Array.setIfInBounds_setIfInBounds]
theorem act_put_self (a : Act) (d : Option Tmp) : ∃ v, a.put d v = a := by
  cases d with
  | none => exact ⟨undef, rfl⟩
  | some d =>
    refine ⟨(a.tmps[d]?).getD undef, ?_⟩
    simp only [Act.put]
    have : a.tmps.setIfInBounds d ((a.tmps[d]?).getD undef) = a.tmps := by
      apply Array.ext_getElem?
      intro i
      rw [Array.getElem?_setIfInBounds]
      by_cases h : d = i
      · subst h
        rw [if_pos rfl]
        by_cases h2 : d < a.tmps.size
        · rw [if_pos h2, Array.getElem?_eq_getElem h2]; rfl
        · rw [if_neg h2, Array.getElem?_eq_none (Nat.le_of_not_lt h2)]
      · rw [if_neg h]
    rw [this]
theorem fill_congr (vs vs' : Nat → Value) : ∀ (l : List Oper) (k : Nat) (a : Act), (∀ j, k ≤ j → vs j = vs' j) → fillL vs l k a = fillL vs' l k a
  | [], _, _, _ => rfl
  | o :: l, k, a, h => by
    rw [fillL, fillL, h k (Nat.le_refl _)]
    exact fill_congr vs vs' l (k + 1) _ fun j hj => h j (by omega)
theorem fill_out (vs : Nat → Value) (d : Option Tmp) (v : Value) : ∀ (l : List Oper) (k : Nat) (b : Act), (∀ o ∈ l, d ≠ o.dst ∨ o.dst = none) → (fillL vs l k b).put d v = fillL vs l k (b.put d v)
  | [], _, _, _ => rfl
  | o :: l, k, b, h => by
    rw [fillL, fillL, fill_out vs d v l (k + 1) _ fun x hx => h x (by simp [hx]), act_put_comm b o.dst d _ _ (h o (by simp))]
theorem fill_put (vs : Nat → Value) (v : Value) : ∀ (l : List Oper) (k i : Nat) (a : Act) (o : Oper), l[i]? = some o → (∀ j x, l[j]? = some x → j ≠ i → o.dst ≠ x.dst ∨ x.dst = none) →
    (fillL vs l k a).put o.dst v = fillL (fun j => if j = k + i then v else vs j) l k a
  | [], _, _, _, _, h, _ => by simp at h
  | x :: l, k, 0, a, o, h, hd => by
    simp only [List.getElem?_cons_zero, Option.some.injEq] at h
    subst h
    rw [fillL, fillL, fill_out vs x.dst v l (k + 1) _ fun y hy => by
      obtain ⟨j, hj⟩ := List.getElem?_of_mem hy
      exact hd (j + 1) y (by simpa using hj) (by omega), act_put_put]
    simp only [Nat.add_zero, if_true]
    exact fill_congr _ _ l (k + 1) _ fun j hj => by rw [if_neg (by omega)]
  | x :: l, k, i + 1, a, o, h, hd => by
    rw [List.getElem?_cons_succ] at h
    rw [fillL, fillL, fill_put vs v l (k + 1) i _ o h fun j y hj hne => hd (j + 1) y (by simpa using hj) (by omega)]
    rw [if_neg (by omega)]
    exact fill_congr _ _ l (k + 1) _ fun j hj => by
      by_cases h1 : j = k + 1 + i
      · rw [if_pos h1, if_pos (by omega)]
      · rw [if_neg h1, if_neg (by omega)]
theorem fill_self : ∀ (l : List Oper) (k : Nat) (a : Act), ∃ vs, a = fillL vs l k a
  | [], _, _ => ⟨fun _ => undef, rfl⟩
  | o :: l, k, a => by
    obtain ⟨vs, hvs⟩ := fill_self l (k + 1) a
    obtain ⟨v, hv⟩ := act_put_self a o.dst
    refine ⟨fun j => if j = k then v else vs j, ?_⟩
    rw [fillL, if_pos rfl, hv]
    refine hvs.trans (fill_congr _ _ l (k + 1) a fun j hj => by rw [if_neg (by omega)])
/-- No two operations yield into one slot; each waits for earlier ones alone. -/
def relB (l : List Oper) : Bool :=
  ((List.range l.length).all fun i => (List.range l.length).all fun j => i == j || ((l[i]?).bind (·.dst)) != ((l[j]?).bind (·.dst)) || ((l[j]?).bind (·.dst)) == none) &&
  ((List.range l.length).all fun i => ((l[i]?).map fun o => o.after.all fun e => !Region.binds .any e || decide (e.on < i)).getD true)
theorem relB_dst {l : List Oper} (h : relB l = true) {i j : Nat} {o x : Oper} (hi : l[i]? = some o) (hj : l[j]? = some x) (hne : j ≠ i) : o.dst ≠ x.dst ∨ x.dst = none := by
  simp only [relB, Bool.and_eq_true, List.all_eq_true, List.mem_range] at h
  have := h.1 i (List.getElem?_eq_some_iff.1 hi).1 j (List.getElem?_eq_some_iff.1 hj).1
  rw [hi, hj] at this
  simp only [Option.bind_some, Bool.or_eq_true, beq_iff_eq, bne_iff_ne, ne_eq] at this
  rcases this with (h1 | h1) | h1
  · exact absurd h1.symm hne
  · exact .inl h1
  · exact .inr h1
theorem relB_after {l : List Oper} (h : relB l = true) {i : Nat} {o : Oper} (hi : l[i]? = some o) (e : Edge) (he : e ∈ o.after) (hb : Region.binds .any e = true) : e.on < i := by
  simp only [relB, Bool.and_eq_true, List.all_eq_true, List.mem_range] at h
  have := h.2 i (List.getElem?_eq_some_iff.1 hi).1
  rw [hi, Option.map_some, Option.getD_some, Array.all_eq_true_iff_forall_mem] at this
  have := this e he
  rw [hb] at this
  simpa using this
/-- How many of the first n have not come up. -/
def unl (listed : Array Bool) : Nat → Nat
  | 0 => 0
  | n + 1 => unl listed n + (if listed.getD n true = true then 0 else 1)
theorem unl_le (listed : Array Bool) : ∀ n, unl listed n ≤ n
  | 0 => Nat.le_refl _
  | n + 1 => by have := unl_le listed n; rw [unl]; split <;> omega
theorem unl_zero (listed : Array Bool) : ∀ n, unl listed n = 0 → ∀ i, i < n → listed.getD i true = true
  | 0, _, i, hi => by omega
  | n + 1, h, i, hi => by
    rw [unl] at h
    by_cases hn : listed.getD n true = true
    · rw [if_pos hn] at h
      rcases (by omega : i < n ∨ i = n) with h1 | h1
      · exact unl_zero listed n (by omega) i h1
      · rw [h1]; exact hn
    · rw [if_neg hn] at h; omega
theorem getD_set (listed : Array Bool) (i j : Nat) : (listed.setIfInBounds i true).getD j true = if j = i then true else listed.getD j true := by
  simp only [Array.getD_eq_getD_getElem?, Array.getElem?_setIfInBounds]
  by_cases h : i = j
  · subst h
    rw [if_pos rfl, if_pos rfl]
    split <;> rfl
  · rw [if_neg h, if_neg (fun e => h e.symm)]
theorem unl_set_out (listed : Array Bool) (i : Nat) : ∀ n, n ≤ i → unl (listed.setIfInBounds i true) n = unl listed n
  | 0, _ => rfl
  | n + 1, h => by
    rw [unl, unl, unl_set_out listed i n (by omega), getD_set, if_neg (by omega : ¬ n = i)]
theorem unl_set (listed : Array Bool) (i : Nat) (hi : listed.getD i true = false) : ∀ n, i < n → unl (listed.setIfInBounds i true) n + 1 = unl listed n
  | 0, h => by omega
  | n + 1, h => by
    rw [unl, unl, getD_set]
    by_cases hn : n = i
    · subst hn
      rw [unl_set_out listed n n (Nat.le_refl _), if_pos rfl, if_pos rfl, hi, if_neg (by simp)]
    · rw [if_neg hn, ← unl_set listed i hi n (by omega)]
      omega
/-- What is asked of one operation. -/
def RelStep (P : Program) (l : List Oper) (w : World) (a0 : Act) (R : Nat → Value → World → Prop) (Q : Exit → Act → World → Prop) (i : Nat) (o : Oper) : Prop :=
  ∀ (vs : Nat → Value) (W : World), Up w W → (∀ e ∈ o.after, Region.binds .any e = true → R e.on (vs e.on) W) →
    if Region.wanted o (yielded l.toArray (fillL vs l 0 a0).tmps) = true then o.wp P (fillL vs l 0 a0) W (fun a' W' => ∃ v, a' = (fillL vs l 0 a0).put o.dst v ∧ Up W W' ∧ R i v W') Q else R i undef W
def RelSteps (P : Program) (l : List Oper) (w : World) (a0 : Act) (R : Nat → Value → World → Prop) (Q : Exit → Act → World → Prop) : List Oper → Nat → Prop
  | [], _ => True
  | o :: t, k => RelStep P l w a0 R Q k o ∧ RelSteps P l w a0 R Q t (k + 1)
theorem RelSteps.at {P : Program} {l : List Oper} {w : World} {a0 : Act} {R : Nat → Value → World → Prop} {Q : Exit → Act → World → Prop} : ∀ {t : List Oper} {k i : Nat} {o : Oper}, RelSteps P l w a0 R Q t k → t[i]? = some o → RelStep P l w a0 R Q (k + i) o
  | [], _, _, _, _, h => by simp at h
  | x :: t, k, 0, o, hs, h => by
    simp only [List.getElem?_cons_zero, Option.some.injEq] at h
    subst h
    exact hs.1
  | x :: t, k, i + 1, o, hs, h => by
    have := RelSteps.at hs.2 (by simpa using h)
    rwa [show k + 1 + i = k + (i + 1) by omega] at this
section
variable {P : Program} {l : List Oper} {w : World} {a0 : Act} {R : Nat → Value → World → Prop} {Q : Exit → Act → World → Prop}
theorem wpAny_rel (hR : ∀ i v W W', R i v W → Up W W' → R i v W') (hB : relB l = true) (hs : RelSteps P l w a0 R Q l 0)
    (hend : ∀ vs W, Up w W → (∀ i, i < l.length → R i (vs i) W) → Q .normal (fillL vs l 0 a0) W) : ∀ (fuel : Nat) (listed : Array Bool) (vs : Nat → Value) (W : World),
    unl listed l.length ≤ fuel → Up w W → (∀ j, j < l.length → listed.getD j true = true → R j (vs j) W) → wpAny P .any l.toArray Q fuel listed (fillL vs l 0 a0) W
  | 0, listed, vs, W, hu, hW, hl => by
    have hz := unl_zero listed l.length (by omega)
    refine ⟨?_, hend vs W hW fun i hi => hl i hi (hz i hi)⟩
    rw [List.eq_nil_iff_forall_not_mem]
    intro i hi
    obtain ⟨h0, o, ho, _⟩ := mem_ready.1 hi
    have : i < l.length := by
      have := (Array.getElem?_eq_some_iff.1 ho).1
      simpa using this
    rw [hz i this] at h0
    cases h0
  | fuel + 1, listed, vs, W, hu, hW, hl => by
    refine ⟨fun h0 => ?_, fun i hi => ?_⟩
    · refine hend vs W hW fun i hi => ?_
      have hall : ∀ n i, i < n → i < l.length → listed.getD i true = true := by
        intro n
        induction n with
        | zero => intro i h; omega
        | succ n ih =>
          intro i hin hil
          by_cases hi2 : listed.getD i true = true
          · exact hi2
          · exfalso
            have : i ∈ Region.ready .any l.toArray listed := by
              refine mem_ready.2 ⟨by simpa using hi2, l[i], by simp [hil], fun e he hb => ?_⟩
              have hlt := relB_after hB (List.getElem?_eq_getElem hil) e he hb
              have h1 := ih e.on (by omega) (by omega)
              have hle : e.on < l.length := by omega
              by_cases hsz : e.on < listed.size
              · simpa [Array.getD_eq_getD_getElem?, hsz] using h1
              · exfalso
                have h2 : listed.getD i true = true := by
                  simp only [Array.getD_eq_getD_getElem?]
                  rw [Array.getElem?_eq_none (by omega)]; rfl
                exact hi2 h2
            rw [h0] at this
            cases this
      exact hl i hi (hall (i + 1) i (by omega) hi)
    · obtain ⟨h0, o, ho, hd⟩ := mem_ready.1 hi
      have ho' : l[i]? = some o := by simpa using ho
      have hil : i < l.length := (List.getElem?_eq_some_iff.1 ho').1
      have hdep : ∀ e ∈ o.after, Region.binds .any e = true → R e.on (vs e.on) W := fun e he hb => by
        have hlt := relB_after hB ho' e he hb
        refine hl e.on (by omega) ?_
        have h1 := hd e he hb
        by_cases hsz : e.on < listed.size
        · simpa [Array.getD_eq_getD_getElem?, hsz] using h1
        · simp only [Array.getD_eq_getD_getElem?]
          rw [Array.getElem?_eq_none (by omega)]; rfl
      have hst := hs.at ho' vs W hW hdep
      rw [Nat.zero_add] at hst
      have next : ∀ v W', Up W W' → R i v W' → wpAny P .any l.toArray Q fuel (listed.setIfInBounds i true) ((fillL vs l 0 a0).put o.dst v) W' := by
        intro v W' hW' hv
        rw [fill_put vs v l 0 i a0 o ho' fun j x hj hne => relB_dst hB ho' hj hne, Nat.zero_add]
        refine wpAny_rel hR hB hs hend fuel _ _ W' (by have := unl_set listed i h0 l.length hil; omega) (hW.trans hW') fun j hj hlj => ?_
        by_cases hji : j = i
        · subst hji
          simp only [if_true]
          exact hv
        · simp only [if_neg hji]
          rw [getD_set, if_neg hji] at hlj
          exact hR _ _ _ _ (hl j hj hlj) hW'
      unfold wpOp
      rw [ho]
      simp only
      split at hst
      · rename_i hwt
        rw [if_pos hwt]
        refine .inl (Oper.wp_mono ?_ hst)
        rintro a' W' ⟨v, rfl, h1, h2⟩
        exact next v W' h1 h2
      · rename_i hwt
        rw [if_neg hwt]
        exact next undef W (Up.refl W) hst
theorem wp_region_rel {id : Nat} (R : Nat → Value → World → Prop) (hm : P.follows .mixedOrders = true) (hB : relB l = true) (hR : ∀ i v W W', R i v W → Up W W' → R i v W') (hs : RelSteps P l w a0 R Q l 0)
    (hend : ∀ vs W, Up w W → (∀ i, i < l.length → R i (vs i) W) → Q .normal (fillL vs l 0 a0) W) : (Code.region id l.toArray true).wp P Q a0 w := by
  refine wp_region_any hm ?_
  obtain ⟨vs, hvs⟩ := fill_self l 0 a0
  have hz : (l.toArray).size = l.length := by simp
  rw [hz]
  have := wpAny_rel (P := P) (l := l) (w := w) (a0 := a0) (R := R) (Q := Q) hR hB hs hend l.length (Array.replicate l.length false) vs { w with drawn := w.drawn + 1 } (unl_le _ _) (Up.refl w).drew fun j hj hl => by
    simp [Array.getD_eq_getD_getElem?, hj] at hl
  rwa [← hvs] at this
end
theorem fill_far (vs : Nat → Value) (t : Tmp) : ∀ (l : List Oper) (k : Nat) (a : Act), (∀ o ∈ l, o.dst ≠ some t) → (fillL vs l k a).tmps[t]? = a.tmps[t]?
  | [], _, _, _ => rfl
  | o :: l, k, a, h => by
    rw [fillL, fill_far vs t l (k + 1) _ fun x hx => h x (by simp [hx])]
    have h0 := h o (by simp)
    cases hd : o.dst with
    | none => rfl
    | some d =>
      rw [hd] at h0
      simp only [Act.put, Array.getElem?_setIfInBounds]
      rw [if_neg (fun e => h0 (by rw [e]))]
theorem fill_get (vs : Nat → Value) : ∀ (l : List Oper) (k i : Nat) (a : Act) (o : Oper) (d : Tmp), l[i]? = some o → o.dst = some d → (∀ j x, l[j]? = some x → j ≠ i → x.dst ≠ some d) → d < a.tmps.size → (fillL vs l k a).tmps[d]? = some (vs (k + i))
  | [], _, _, _, _, _, h, _, _, _ => by simp at h
  | x :: l, k, 0, a, o, d, h, hd, hx, hs => by
    simp only [List.getElem?_cons_zero, Option.some.injEq] at h
    subst h
    rw [fillL, fill_far vs d l (k + 1) _ fun y hy => by
      obtain ⟨j, hj⟩ := List.getElem?_of_mem hy
      exact hx (j + 1) y (by simpa using hj) (by omega)]
    simp only [Act.put, hd, Array.getElem?_setIfInBounds, if_true, hs, Nat.add_zero]
  | x :: l, k, i + 1, a, o, d, h, hd, hx, hs => by
    rw [fillL, fill_get vs l (k + 1) i _ o d (by simpa using h) hd (fun j y hj hne => hx (j + 1) y (by simpa using hj) (by omega)) (by cases x.dst <;> simpa [Act.put] using hs)]
    rw [show k + 1 + i = k + (i + 1) by omega]
section
variable {l : List Oper} {vs : Nat → Value} {a0 : Act}
theorem fill_in (hB : relB l = true) (i : Nat) {d : Tmp} (hi : (l[i]?).bind (·.dst) = some d) (hd : d < a0.tmps.size) : (fillL vs l 0 a0).tmps[d]? = some (vs i) := by
  obtain ⟨o, ho, hod⟩ := Option.bind_eq_some_iff.1 hi
  have := fill_get vs l 0 i a0 o d ho hod (fun j x hj hne => by
    rcases relB_dst hB ho hj hne with h | h
    · rw [hod] at h; exact fun e => h e.symm
    · rw [h]; exact fun e => by cases e) hd
  rwa [Nat.zero_add] at this
theorem fill_yield (hB : relB l = true) (i : Nat) {d : Tmp} (hi : (l[i]?).bind (·.dst) = some d) (hd : d < a0.tmps.size) {b : Bool} (hv : vs i = .bool b) : yielded l.toArray (fillL vs l 0 a0).tmps i = some b := by
  unfold yielded
  rw [show (l.toArray[i]?) = l[i]? from by simp, hi, Option.bind_some, fill_in hB i hi hd, hv]
theorem fill_ein (hB : relB l = true) (i : Nat) {d : Tmp} (hi : (l[i]?).bind (·.dst) = some d) (hd : d < a0.tmps.size) {v : Value} (hv : vs i = v) : (fillL vs l 0 a0).tmps[d]? = some v := by
  rw [fill_in hB i hi hd, hv]
theorem fill_eout {t : Tmp} (h : (l.all fun o => o.dst != some t) = true) {v : Value} (hv : a0.tmps[t]? = some v) : (fillL vs l 0 a0).tmps[t]? = some v := by
  rw [fill_far vs t l 0 a0 (fun o ho => by have := List.all_eq_true.1 h o ho; simpa using this), hv]
end
/-- What the slots of a filled frame hold. -/
structure FrameOf (ds : List Tmp) (n : Nat) (tm : Array Value) (vs : Nat → Value) (F : Act) (Y : Nat → Option Bool) : Prop where
  ein : ∀ (i : Nat) (d : Tmp) (v : Value), ds[i]? = some d → d < n → vs i = v → F.tmps[d]? = some v
  eout : ∀ (t : Tmp) (v : Value), ds.contains t = false → tm[t]? = some v → F.tmps[t]? = some v
  yld : ∀ (i : Nat) (d : Tmp) (b : Bool), ds[i]? = some d → d < n → vs i = .bool b → Y i = some b
/-- What is asked of one operation, the frame a letter. -/
def RelOp (P : Program) (ds : List Tmp) (n : Nat) (tm : Array Value) (w : World) (R : Nat → Value → World → Prop) (Q : Exit → Act → World → Prop) (i : Nat) (o : Oper) : Prop :=
  ∀ (vs : Nat → Value) (W : World) (F : Act) (Y : Nat → Option Bool), FrameOf ds n tm vs F Y → Up w W → (∀ e ∈ o.after, Region.binds .any e = true → R e.on (vs e.on) W) →
    if Region.wanted o Y = true then o.wp P F W (fun a' W' => ∃ v, a' = F.put o.dst v ∧ Up W W' ∧ R i v W') Q else R i undef W
def RelOps (P : Program) (ds : List Tmp) (n : Nat) (tm : Array Value) (w : World) (R : Nat → Value → World → Prop) (Q : Exit → Act → World → Prop) : List Oper → Nat → Prop
  | [], _ => True
  | o :: t, k => RelOp P ds n tm w R Q k o ∧ RelOps P ds n tm w R Q t (k + 1)
theorem relSteps_of {P : Program} {l : List Oper} {ds : List Tmp} {n : Nat} {w : World} {a0 : Act} {R : Nat → Value → World → Prop} {Q : Exit → Act → World → Prop} (hB : relB l = true) (hds : l.map (·.dst) = ds.map some) (hn : a0.tmps.size = n) :
    ∀ (t : List Oper) (k : Nat), RelOps P ds n a0.tmps w R Q t k → RelSteps P l w a0 R Q t k
  | [], _, _ => trivial
  | o :: t, k, h => by
    refine ⟨fun vs W hu hd => h.1 vs W (fillL vs l 0 a0) (yielded l.toArray (fillL vs l 0 a0).tmps) ⟨?_, ?_, ?_⟩ hu hd, relSteps_of hB hds hn t (k + 1) h.2⟩
    · intro i d v hi hd hv
      refine fill_ein hB i ?_ (by rw [hn]; exact hd) hv
      have : (l.map (·.dst))[i]? = some (some d) := by rw [hds, List.getElem?_map, hi]; rfl
      rw [List.getElem?_map] at this
      obtain ⟨x, hx, hxd⟩ := Option.map_eq_some_iff.1 this
      rw [hx, Option.bind_some, hxd]
    · intro t v ht hv
      refine fill_eout (List.all_eq_true.2 fun x hx => ?_) hv
      have h1 : x.dst ∈ l.map (·.dst) := List.mem_map.2 ⟨x, hx, rfl⟩
      rw [hds] at h1
      obtain ⟨d, hd, he⟩ := List.mem_map.1 h1
      rw [← he]
      have hne : d ≠ t := fun e => by
        subst e
        have : ds.contains d = true := List.contains_iff_mem.2 hd
        rw [this] at ht; cases ht
      simpa using hne
    · intro i d b hi hd hv
      refine fill_yield hB i (d := d) ?_ (by rw [hn]; exact hd) hv
      have : (l.map (·.dst))[i]? = some (some d) := by rw [hds, List.getElem?_map, hi]; rfl
      rw [List.getElem?_map] at this
      obtain ⟨x, hx, hxd⟩ := Option.map_eq_some_iff.1 this
      rw [hx, Option.bind_some, hxd]
theorem wp_region_rel2 {P : Program} {l : List Oper} {w : World} {a0 : Act} {Q : Exit → Act → World → Prop} {id : Nat} (R : Nat → Value → World → Prop) (ds : List Tmp) (n : Nat) (hm : P.follows .mixedOrders = true) (hB : relB l = true) (hds : l.map (·.dst) = ds.map some) (hn : a0.tmps.size = n)
    (hR : ∀ i v W W', R i v W → Up W W' → R i v W') (hs : RelOps P ds n a0.tmps w R Q l 0)
    (hend : ∀ vs W, Up w W → (∀ i, i < ds.length → R i (vs i) W) → Q .normal (fillL vs l 0 a0) W) : (Code.region id l.toArray true).wp P Q a0 w :=
  wp_region_rel R hm hB hR (relSteps_of hB hds hn l 0 hs) fun vs W hu hall => hend vs W hu fun i hi => hall i (by have := congrArg List.length hds; simp at this; omega)
theorem want_of {o : Oper} {Y : Nat → Option Bool} (i : Nat) (b : Bool) (hg : o.guard = some (i, b)) (h : Y i = some b) : Region.wanted o Y = true := by
  simp [Region.wanted, hg, h]
section
variable {P : Program} {o : Oper} {Y : Nat → Option Bool} {F : Act} {W W' : World} {Q : Exit → Act → World → Prop} {S : Value → World → Prop} {E : Prop} {v : Value}
theorem rel_val (hw : Region.wanted o Y = true) (hr : (execOp F.eval o).run P W = .ok (.value v) W') (hu : Up W W') (hv : S v W') :
    if Region.wanted o Y = true then o.wp P F W (fun a' W'' => ∃ v, a' = F.put o.dst v ∧ Up W W'' ∧ S v W'') Q else E := by
  rw [if_pos hw]
  unfold Oper.wp
  rw [hr]
  exact ⟨v, rfl, hu, hv⟩
theorem rel_call {f : FuncId} {args : Array Value} (hw : Region.wanted o Y = true) (hr : (execOp F.eval o).run P W = .ok (.enter f args) W) (hc : Gives P f args W v) (hv : ∀ W', Up W W' → S v W') :
    if Region.wanted o Y = true then o.wp P F W (fun a' W'' => ∃ v, a' = F.put o.dst v ∧ Up W W'' ∧ S v W'') Q else E := by
  rw [if_pos hw]
  unfold Oper.wp
  rw [hr]
  refine Calls.mono hc ?_
  rintro e w' ⟨rfl, x, rfl⟩
  exact ⟨v, rfl, x.up, hv _ x.up⟩
end
/-- The value alone. -/
def isV (u : Value) : Value → World → Prop := fun v _ => v = u
/-- The relations, one for each operation. -/
def relAt (L : List (Value → World → Prop)) (i : Nat) : Value → World → Prop := L.getD i fun _ _ => True
theorem relAt_mono {L : List (Value → World → Prop)} (h : ∀ r ∈ L, ∀ v W W', r v W → Up W W' → r v W') : ∀ i v W W', relAt L i v W → Up W W' → relAt L i v W' := by
  intro i v W W' h1 hu
  unfold relAt at *
  rw [List.getD_eq_getElem?_getD] at *
  cases hi : L[i]? with
  | none => rw [hi] at h1; exact h1
  | some r => rw [hi] at h1; exact h r (List.mem_of_getElem? hi) v W W' h1 hu
end Go.Ab
