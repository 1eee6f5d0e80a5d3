/- What changes between two right dumps are; what is written is read back (plain laws). Plain laws for DumpBack: the lengths of texts; what two lines, or two texts, are. -/
import Derived.Test.YtlbbepgfjigjpaaGreatDoorDBuild
import Derived.Test.YtlbbepgfjigjpaaGreatDoorDE
namespace Go.Ab
open Go.RowKit Go.Proofs.YtlbbepgfjigjpaaGreatDoor
theorem Srt.tail {a : Ln} {t : List Ln} (h : Srt (a :: t)) : Srt t := (List.pairwise_cons.1 h).2
theorem Srt.head {a : Ln} {t : List Ln} (h : Srt (a :: t)) : ∀ y ∈ t, a.cmp y < 0 := (List.pairwise_cons.1 h).1
/-- The line by which a pair stands in order. -/
def prLn : Option Ln × Option Ln → Ln
  | (some x, _) => x
  | (none, some y) => y
  | (none, none) => Ln.zero
def PrOk (a b : List Ln) : Option Ln × Option Ln → Prop
  | (some x, none) => x ∈ a ∧ ∀ y ∈ b, x.cmp y ≠ 0
  | (none, some y) => y ∈ b ∧ ∀ x ∈ a, x.cmp y ≠ 0
  | (some x, some y) => x ∈ a ∧ y ∈ b ∧ x.cmp y = 0
  | (none, none) => False
theorem PrOk.ln {a b : List Ln} {p : Option Ln × Option Ln} (h : PrOk a b p) {z : Ln} (ha : ∀ x ∈ a, z.cmp x < 0) (hb : ∀ y ∈ b, z.cmp y < 0) : z.cmp (prLn p) < 0 := by
  obtain ⟨x, y⟩ := p
  cases x with
  | some x => cases y with
    | none => exact ha x h.1
    | some y => exact ha x h.1
  | none => cases y with
    | none => exact h.elim
    | some y => exact hb y h.1
theorem cmp_ne_of_lt {a b : Ln} (h : a.cmp b < 0) : a.cmp b ≠ 0 ∧ b.cmp a ≠ 0 := by have := cmp_neg a b; omega
theorem pairsL_spec : ∀ (n : Nat) (a b : List Ln), Srt a → Srt b → (∀ p ∈ pairsL n a b, PrOk a b p) ∧ (pairsL n a b).Pairwise fun p q => (prLn p).cmp (prLn q) < 0
  | 0, a, b, _, _ => by rw [pairsL]; exact ⟨fun p h => (by cases h), .nil⟩
  | n + 1, [], [], _, _ => by rw [pairsL]; exact ⟨fun p h => (by cases h), .nil⟩
  | n + 1, a :: us, [], sa, sb => by
    obtain ⟨h1, h2⟩ := pairsL_spec n us [] sa.tail sb
    rw [pairsL]
    refine ⟨fun p hp => ?_, .cons (fun q hq => (h1 q hq).ln sa.head (fun y hy => by cases hy)) h2⟩
    rcases List.mem_cons.1 hp with rfl | hp
    · exact ⟨by simp, fun y hy => by cases hy⟩
    · have := h1 p hp
      obtain ⟨x, y⟩ := p
      cases x with
      | some x => cases y with
        | none => exact ⟨List.mem_cons_of_mem _ this.1, this.2⟩
        | some y => cases this.2.1
      | none => cases y with
        | none => exact this
        | some y => cases this.1
  | n + 1, [], b :: bs, sa, sb => by
    obtain ⟨h1, h2⟩ := pairsL_spec n [] bs sa sb.tail
    rw [pairsL]
    refine ⟨fun p hp => ?_, .cons (fun q hq => (h1 q hq).ln (fun y hy => by cases hy) sb.head) h2⟩
    rcases List.mem_cons.1 hp with rfl | hp
    · exact ⟨by simp, fun y hy => by cases hy⟩
    · have := h1 p hp
      obtain ⟨x, y⟩ := p
      cases x with
      | some x => cases y with
        | none => cases this.1
        | some y => cases this.1
      | none => cases y with
        | none => exact this
        | some y => exact ⟨List.mem_cons_of_mem _ this.1, this.2⟩
  | n + 1, a :: us, b :: bs, sa, sb => by
    have nb := cmp_neg a b
    rw [pairsL]
    by_cases c1 : a.cmp b < 0
    · rw [if_pos c1]
      obtain ⟨h1, h2⟩ := pairsL_spec n us (b :: bs) sa.tail sb
      have hab : ∀ y ∈ b :: bs, a.cmp y < 0 := fun y hy => by
        rcases List.mem_cons.1 hy with rfl | hy
        · exact c1
        · exact cmp_lt_trans c1 (sb.head y hy)
      refine ⟨fun p hp => ?_, .cons (fun q hq => (h1 q hq).ln sa.head hab) h2⟩
      rcases List.mem_cons.1 hp with rfl | hp
      · exact ⟨by simp, fun y hy => (cmp_ne_of_lt (hab y hy)).1⟩
      · have := h1 p hp
        obtain ⟨x, y⟩ := p
        cases x with
        | some x => cases y with
          | none => exact ⟨List.mem_cons_of_mem _ this.1, this.2⟩
          | some y => exact ⟨List.mem_cons_of_mem _ this.1, this.2⟩
        | none => cases y with
          | none => exact this
          | some y =>
            refine ⟨this.1, fun x hx => ?_⟩
            rcases List.mem_cons.1 hx with rfl | hx
            · exact (cmp_ne_of_lt (hab y this.1)).1
            · exact this.2 x hx
    · rw [if_neg c1]
      by_cases c2 : 0 < a.cmp b
      · rw [if_pos c2]
        obtain ⟨h1, h2⟩ := pairsL_spec n (a :: us) bs sa sb.tail
        have hba : ∀ x ∈ a :: us, b.cmp x < 0 := fun x hx => by
          rcases List.mem_cons.1 hx with rfl | hx
          · omega
          · exact cmp_lt_trans (b := a) (by omega) (sa.head x hx)
        refine ⟨fun p hp => ?_, .cons (fun q hq => (h1 q hq).ln hba sb.head) h2⟩
        rcases List.mem_cons.1 hp with rfl | hp
        · exact ⟨by simp, fun x hx => (cmp_ne_of_lt (hba x hx)).2⟩
        · have := h1 p hp
          obtain ⟨x, y⟩ := p
          cases x with
          | some x => cases y with
            | none =>
              refine ⟨this.1, fun y hy => ?_⟩
              rcases List.mem_cons.1 hy with rfl | hy
              · exact (cmp_ne_of_lt (hba x this.1)).2
              · exact this.2 y hy
            | some y => exact ⟨this.1, List.mem_cons_of_mem _ this.2.1, this.2.2⟩
          | none => cases y with
            | none => exact this
            | some y => exact ⟨List.mem_cons_of_mem _ this.1, this.2⟩
      · rw [if_neg c2]
        obtain ⟨h1, h2⟩ := pairsL_spec n us bs sa.tail sb.tail
        have hab : ∀ y ∈ bs, a.cmp y < 0 := fun y hy => cmp_le_lt (b := b) (by omega) (sb.head y hy)
        have hba : ∀ x ∈ us, b.cmp x < 0 := fun x hx => cmp_le_lt (b := a) (by omega) (sa.head x hx)
        refine ⟨fun p hp => ?_, .cons (fun q hq => (h1 q hq).ln sa.head hab) h2⟩
        rcases List.mem_cons.1 hp with rfl | hp
        · exact ⟨by simp, by simp, by omega⟩
        · have := h1 p hp
          obtain ⟨x, y⟩ := p
          cases x with
          | some x => cases y with
            | none =>
              refine ⟨List.mem_cons_of_mem _ this.1, fun y hy => ?_⟩
              rcases List.mem_cons.1 hy with rfl | hy
              · exact (cmp_ne_of_lt (hba x this.1)).2
              · exact this.2 y hy
            | some y => exact ⟨List.mem_cons_of_mem _ this.1, List.mem_cons_of_mem _ this.2.1, this.2.2⟩
          | none => cases y with
            | none => exact this
            | some y =>
              refine ⟨List.mem_cons_of_mem _ this.1, fun x hx => ?_⟩
              rcases List.mem_cons.1 hx with rfl | hx
              · exact (cmp_ne_of_lt (hab y this.1)).1
              · exact this.2 x hx
/-- The line by which a change stands in order. -/
def chLn (c : Ch) : Ln := if c.kind = 1 then c.new else c.old
theorem chOf_ln (p : Option Ln × Option Ln) (c : Ch) (h : c ∈ chOf p) : chLn c = prLn p := by
  obtain ⟨x, y⟩ := p
  cases x with
  | some x => cases y with
    | none => obtain rfl := List.mem_singleton.1 h; rfl
    | some y =>
      simp only [chOf] at h
      split at h
      · cases h
      · obtain rfl := List.mem_singleton.1 h; rfl
  | none => cases y with
    | none => cases h
    | some y => obtain rfl := List.mem_singleton.1 h; rfl
theorem chOf_pair (p : Option Ln × Option Ln) (R : Ch → Ch → Prop) : (chOf p).Pairwise R := by
  have := chOf_length p
  cases h : chOf p with
  | nil => exact .nil
  | cons c t =>
    rw [h] at this
    obtain rfl : t = [] := List.length_eq_zero_iff.1 (by simpa using this)
    exact List.pairwise_singleton _ _
/-- Changes are in the order of keys. -/
theorem diffL_order (a b : List Ln) (sa : Srt a) (sb : Srt b) : (diffL a b).Pairwise fun c d => (chLn c).cmp (chLn d) < 0 := by
  unfold diffL
  rw [List.pairwise_flatMap]
  refine ⟨fun p _ => chOf_pair p _, ?_⟩
  refine (pairsL_spec _ a b sa sb).2.imp fun h c hc d hd => ?_
  rw [chOf_ln _ _ hc, chOf_ln _ _ hd]; exact h
/-- What a change is, by its kind. -/
def ChOk (a b : List Ln) (c : Ch) : Prop :=
  (c.kind = 1 ∧ c.old = Ln.zero ∧ c.new ∈ b ∧ ∀ x ∈ a, keyB x c.new = false) ∨ (c.kind = 2 ∧ c.new = Ln.zero ∧ c.old ∈ a ∧ ∀ y ∈ b, keyB y c.old = false) ∨ (c.kind = 3 ∧ c.old ∈ a ∧ c.new ∈ b ∧ c.old ≠ c.new ∧ keyB c.old c.new = true)
theorem diffL_ok (a b : List Ln) (sa : Srt a) (sb : Srt b) (c : Ch) (h : c ∈ diffL a b) : ChOk a b c := by
  unfold diffL at h
  obtain ⟨p, hp, hc⟩ := List.mem_flatMap.1 h
  have hm := (pairsL_spec _ a b sa sb).1 p hp
  obtain ⟨x, y⟩ := p
  cases x with
  | some x => cases y with
    | none =>
      obtain rfl := List.mem_singleton.1 hc
      refine .inr (.inl ⟨rfl, rfl, hm.1, fun y hy => ?_⟩)
      have h1 := hm.2 y hy
      have h2 := cmp_neg y x
      rw [keyB_cmp]; exact beq_eq_false_iff_ne.2 (by show y.cmp x ≠ 0; omega)
    | some y =>
      simp only [chOf] at hc
      split at hc
      · cases hc
      · rename_i hne
        obtain rfl := List.mem_singleton.1 hc
        refine .inr (.inr ⟨rfl, hm.1, hm.2.1, hne, ?_⟩)
        rw [keyB_cmp]; exact beq_iff_eq.2 hm.2.2
  | none => cases y with
    | none => cases hc
    | some y =>
      obtain rfl := List.mem_singleton.1 hc
      refine .inl ⟨rfl, rfl, hm.1, fun x hx => ?_⟩
      rw [keyB_cmp]; exact beq_eq_false_iff_ne.2 (hm.2 x hx)
theorem keyB_self (x : Ln) : keyB x x = true := by rw [keyB_cmp, cmp_self]; rfl
theorem drop_head (a : List Ln) (k : Nat) (x : Ln) (hx : a[k]? = some x) : a.drop k = x :: a.drop (k + 1) := by
  obtain ⟨hk, rfl⟩ := List.getElem?_eq_some_iff.1 hx
  exact List.drop_eq_getElem_cons hk
end Go.Ab
namespace Go.Ab
open Go.RowKit Go.Proofs.YtlbbepgfjigjpaaGreatDoor
end Go.Ab
