/- What changes between two right dumps are; what is written is read back (plain laws). Plain laws for DumpBack: the lengths of texts; what two lines, or two texts, are. -/
import Derived.Test.YteciigbonaecoaaGreatDoorDBuild
import Derived.Test.YteciigbonaecoaaGreatDoorDE
namespace Go.Ab
open Go.RowKit Go.Proofs.YteciigbonaecoaaGreatDoor
theorem Srt.tail {a : Ln} {t : List Ln} (h : Srt (a :: t)) : Srt t := (List.pairwise_cons.1 h).2
theorem Srt.head {a : Ln} {t : List Ln} (h : Srt (a :: t)) : ∀ y ∈ t, a.cmp y < 0 := (List.pairwise_cons.1 h).1
/-- The line by which a pair stands in order. -/
def prLn : Option Ln × Option Ln → Ln
  | (some x, _) => x
  | (none, some y) => y
  | (none, none) => Ln.zero
def PrOk (a b : List Ln) : Option Ln × Option Ln → Prop
  | (some x, none) => x ∈ a ∧ ∀ y ∈ b, x.cmp y ≠ 0
  | (none, some y) => y ∈ b ∧ ∀ x ∈ a, x.cmp y ≠ 0
  | (some x, some y) => x ∈ a ∧ y ∈ b ∧ x.cmp y = 0
  | (none, none) => False
theorem PrOk.ln {a b : List Ln} {p : Option Ln × Option Ln} (h : PrOk a b p) {z : Ln} (ha : ∀ x ∈ a, z.cmp x < 0) (hb : ∀ y ∈ b, z.cmp y < 0) : z.cmp (prLn p) < 0 := by
  obtain ⟨x, y⟩ := p
  cases x with
  | some x => cases y with
    | none => exact ha x h.1
    | some y => exact ha x h.1
  | none => cases y with
    | none => exact h.elim
    | some y => exact hb y h.1
theorem cmp_ne_of_lt {a b : Ln} (h : a.cmp b < 0) : a.cmp b ≠ 0 ∧ b.cmp a ≠ 0 := by have := cmp_neg a b; omega
theorem pairsL_spec : ∀ (n : Nat) (a b : List Ln), Srt a → Srt b → (∀ p ∈ pairsL n a b, PrOk a b p) ∧ (pairsL n a b).Pairwise fun p q => (prLn p).cmp (prLn q) < 0
  | 0, a, b, _, _ => by rw [pairsL]; exact ⟨fun p h => (by cases h), .nil⟩
  | n + 1, [], [], _, _ => by rw [pairsL]; exact ⟨fun p h => (by cases h), .nil⟩
  | n + 1, a :: us, [], sa, sb => by
    obtain ⟨h1, h2⟩ := pairsL_spec n us [] sa.tail sb
    rw [pairsL]
    refine ⟨fun p hp => ?_, .cons (fun q hq => (h1 q hq).ln sa.head (fun y hy => by cases hy)) h2⟩
    rcases List.mem_cons.1 hp with rfl | hp
    · exact ⟨by simp, fun y hy => by cases hy⟩
    · have := h1 p hp
      obtain ⟨x, y⟩ := p
      cases x with
      | some x => cases y with
        | none => exact ⟨List.mem_cons_of_mem _ this.1, this.2⟩
        | some y => cases this.2.1
      | none => cases y with
        | none => exact this
        | some y => cases this.1
  | n + 1, [], b :: bs, sa, sb => by
    obtain ⟨h1, h2⟩ := pairsL_spec n [] bs sa sb.tail
    rw [pairsL]
    refine ⟨fun p hp => ?_, .cons (fun q hq => (h1 q hq).ln (fun y hy => by cases hy) sb.head) h2⟩
    rcases List.mem_cons.1 hp with rfl | hp
    · exact ⟨by simp, fun y hy => by cases hy⟩
    · have := h1 p hp
      obtain ⟨x, y⟩ := p
      cases x with
      | some x => cases y with
        | none => cases this.1
        | some y => cases this.1
      | none => cases y with
        | none => exact this
        | some y => exact ⟨List.mem_cons_of_mem _ this.1, this.2⟩
  | n + 1, a :: us, b :: bs, sa, sb => by
    have nb := cmp_neg a b
    rw [pairsL]
    by_cases c1 : a.cmp b < 0
    · rw [if_pos c1]
      obtain ⟨h1, h2⟩ := pairsL_spec n us (b :: bs) sa.tail sb
      have hab : ∀ y ∈ b :: bs, a.cmp y < 0 := fun y hy => by
        rcases List.mem_cons.1 hy with rfl | hy
        · exact c1
        · exact cmp_lt_trans c1 (sb.head y hy)
      refine ⟨fun p hp => ?_, .cons (fun q hq => (h1 q hq).ln sa.head hab) h2⟩
      rcases List.mem_cons.1 hp with rfl | hp
      · exact ⟨by simp, fun y hy => (cmp_ne_of_lt (hab y hy)).1⟩
      · have := h1 p hp
        obtain ⟨x, y⟩ := p
        cases x with
        | some x => cases y with
          | none => exact ⟨List.mem_cons_of_mem _ this.1, this.2⟩
          | some y => exact ⟨List.mem_cons_of_mem _ this.1, this.2⟩
        | none => cases y with
          | none => exact this
          | some y =>
            refine ⟨this.1, fun x hx => ?_⟩
            rcases List.mem_cons.1 hx with rfl | hx
            · exact (cmp_ne_of_lt (hab y this.1)).1
            · exact this.2 x hx
    · rw [if_neg c1]
      by_cases c2 : 0 < a.cmp b
      · rw [if_pos c2]
        obtain ⟨h1, h2⟩ := pairsL_spec n (a :: us) bs sa sb.tail
        have hba : ∀ x ∈ a :: us, b.cmp x < 0 := fun x hx => by
          rcases List.mem_cons.1 hx with rfl | hx
          · omega
          · exact cmp_lt_trans (b := a) (by omega) (sa.head x hx)
        refine ⟨fun p hp => ?_, .cons (fun q hq => (h1 q hq).ln hba sb.head) h2⟩
        rcases List.mem_cons.1 hp with rfl | hp
        · exact ⟨by simp, fun x hx => (cmp_ne_of_lt (hba x hx)).2⟩
        · have := h1 p hp
          obtain ⟨x, y⟩ := p
          cases x with
          | some x => cases y with
            | none =>
              refine ⟨this.1, fun y hy => ?_⟩
              rcases List.mem_cons.1 hy with rfl | hy
              · exact (cmp_ne_of_lt (hba x this.1)).2
              · exact this.2 y hy
            | some y => exact ⟨this.1, List.mem_cons_of_mem _ this.2.1, this.2.2⟩
          | none => cases y with
            | none => exact this
            | some y => exact ⟨List.mem_cons_of_mem _ this.1, this.2⟩
      · rw [if_neg c2]
        obtain ⟨h1, h2⟩ := pairsL_spec n us bs sa.tail sb.tail
        have hab : ∀ y ∈ bs, a.cmp y < 0 := fun y hy => cmp_le_lt (b := b) (by omega) (sb.head y hy)
        have hba : ∀ x ∈ us, b.cmp x < 0 := fun x hx => cmp_le_lt (b := a) (by omega) (sa.head x hx)
        refine ⟨fun p hp => ?_, .cons (fun q hq => (h1 q hq).ln sa.head hab) h2⟩
        rcases List.mem_cons.1 hp with rfl | hp
        · exact ⟨by simp, by simp, by omega⟩
        · have := h1 p hp
          obtain ⟨x, y⟩ := p
          cases x with
          | some x => cases y with
            | none =>
              refine ⟨List.mem_cons_of_mem _ this.1, fun y hy => ?_⟩
              rcases List.mem_cons.1 hy with rfl | hy
              · exact (cmp_ne_of_lt (hba x this.1)).2
              · exact this.2 y hy
            | some y => exact ⟨List.mem_cons_of_mem _ this.1, List.mem_cons_of_mem _ this.2.1, this.2.2⟩
          | none => cases y with
            | none => exact this
            | some y =>
              refine ⟨List.mem_cons_of_mem _ this.1, fun x hx => ?_⟩
              rcases List.mem_cons.1 hx with rfl | hx
              · exact (cmp_ne_of_lt (hab y this.1)).1
              · exact this.2 x hx
/-- The line by which a change stands in order. -/
def chLn (c : Ch) : Ln := if c.kind = 1 then c.new else c.old
theorem chOf_ln (p : Option Ln × Option Ln) (c : Ch) (h : c ∈ chOf p) : chLn c = prLn p := by
  obtain ⟨x, y⟩ := p
  cases x with
  | some x => cases y with
    | none => obtain rfl := List.mem_singleton.1 h; rfl
    | some y =>
      simp only [chOf] at h
      split at h
      · cases h
      · obtain rfl := List.mem_singleton.1 h; rfl
  | none => cases y with
    | none => cases h
    | some y => obtain rfl := List.mem_singleton.1 h; rfl
theorem chOf_pair (p : Option Ln × Option Ln) (R : Ch → Ch → Prop) : (chOf p).Pairwise R := by
  have := chOf_length p
  cases h : chOf p with
  | nil => exact .nil
  | cons c t =>
    rw [h] at this
    obtain rfl : t = [] := List.length_eq_zero_iff.1 (by simpa using this)
    exact List.pairwise_singleton _ _
/-- Changes are in the order of keys. -/
theorem diffL_order (a b : List Ln) (sa : Srt a) (sb : Srt b) : (diffL a b).Pairwise fun c d => (chLn c).cmp (chLn d) < 0 := by
  unfold diffL
  rw [List.pairwise_flatMap]
  refine ⟨fun p _ => chOf_pair p _, ?_⟩
  refine (pairsL_spec _ a b sa sb).2.imp fun h c hc d hd => ?_
  rw [chOf_ln _ _ hc, chOf_ln _ _ hd]; exact h
/-- What a change is, by its kind. -/
def ChOk (a b : List Ln) (c : Ch) : Prop :=
  (c.kind = 1 ∧ c.old = Ln.zero ∧ c.new ∈ b ∧ ∀ x ∈ a, keyB x c.new = false) ∨ (c.kind = 2 ∧ c.new = Ln.zero ∧ c.old ∈ a ∧ ∀ y ∈ b, keyB y c.old = false) ∨ (c.kind = 3 ∧ c.old ∈ a ∧ c.new ∈ b ∧ c.old ≠ c.new ∧ keyB c.old c.new = true)
theorem diffL_ok (a b : List Ln) (sa : Srt a) (sb : Srt b) (c : Ch) (h : c ∈ diffL a b) : ChOk a b c := by
  unfold diffL at h
  obtain ⟨p, hp, hc⟩ := List.mem_flatMap.1 h
  have hm := (pairsL_spec _ a b sa sb).1 p hp
  obtain ⟨x, y⟩ := p
  cases x with
  | some x => cases y with
    | none =>
      obtain rfl := List.mem_singleton.1 hc
      refine .inr (.inl ⟨rfl, rfl, hm.1, fun y hy => ?_⟩)
      have h1 := hm.2 y hy
      have h2 := cmp_neg y x
      rw [keyB_cmp]; exact beq_eq_false_iff_ne.2 (by show y.cmp x ≠ 0; omega)
    | some y =>
      simp only [chOf] at hc
      split at hc
      · cases hc
      · rename_i hne
        obtain rfl := List.mem_singleton.1 hc
        refine .inr (.inr ⟨rfl, hm.1, hm.2.1, hne, ?_⟩)
        rw [keyB_cmp]; exact beq_iff_eq.2 hm.2.2
  | none => cases y with
    | none => cases hc
    | some y =>
      obtain rfl := List.mem_singleton.1 hc
      refine .inl ⟨rfl, rfl, hm.1, fun x hx => ?_⟩
      rw [keyB_cmp]; exact beq_eq_false_iff_ne.2 (hm.2 x hx)
/-- What the law's own 'has' says. -/
def hasL : List Ln → Ln → Bool × Bool
  | [], _ => (false, false)
  | y :: t, x => if keyB y x then (true, decide (y = x)) else hasL t x
theorem keyB_self (x : Ln) : keyB x x = true := by rw [keyB_cmp, cmp_self]; rfl
theorem hasL_mem : ∀ (l : List Ln), Srt l → ∀ x ∈ l, hasL l x = (true, true)
  | [], _, x, h => by cases h
  | y :: t, s, x, h => by
    rw [hasL]
    rcases List.mem_cons.1 h with rfl | h
    · rw [if_pos (keyB_self _)]; simp
    · have h1 := s.head x h
      rw [if_neg (by rw [keyB_cmp]; simp; omega)]
      exact hasL_mem t s.tail x h
theorem hasL_none : ∀ (l : List Ln) (x : Ln), (∀ y ∈ l, keyB y x = false) → hasL l x = (false, false)
  | [], _, _ => rfl
  | y :: t, x, h => by rw [hasL, if_neg (by rw [h y (by simp)]; simp)]; exact hasL_none t x fun z hz => h z (by simp [hz])
theorem hasL_key : ∀ (l : List Ln) (x y : Ln), y ∈ l → keyB y x = true → (hasL l x).1 = true
  | [], _, _, h, _ => by cases h
  | z :: t, x, y, h, hk => by
    rw [hasL]
    by_cases hz : keyB z x = true
    · rw [if_pos hz]
    · rw [if_neg hz]
      rcases List.mem_cons.1 h with rfl | h
      · exact absurd hk hz
      · exact hasL_key t x y h hk
/-- A line that has the key of another one and nothing besides. -/
def Ln.keyOnly (x : Ln) : Ln := ⟨x.pr, x.s, x.d, x.sp, x.dp, 0, 0, false, false, 0, 0⟩
theorem keyB_only (y x : Ln) : keyB y x.keyOnly = keyB y x := rfl
theorem hasL_only : ∀ (l : List Ln) (x : Ln), (hasL l x.keyOnly).1 = (hasL l x).1
  | [], _ => rfl
  | y :: t, x => by
    rw [hasL, hasL, keyB_only]
    by_cases h : keyB y x = true
    · rw [if_pos h, if_pos h]
    · rw [if_neg h, if_neg h]; exact hasL_only t x
theorem diffL_nil (a b : List Ln) (ha : orderedL a = true) (hb : orderedL b = true) : diffL a b = [] ↔ a = b := by
  constructor
  · intro h
    have sa := srt_of_ordered a ha
    have sb := srt_of_ordered b hb
    have hf := fold_diff (a.length + b.length) a b [] (Nat.le_refl _) sa sb (fun x hx => by cases hx) (fun x hx => by cases hx)
    have h2 : (pairsL (a.length + b.length) a b).flatMap chOf = [] := h
    rw [h2, List.nil_append, List.nil_append] at hf
    exact sorted_perm a b (sa.imp fun h => Int.le_of_lt h) sb hf
  · rintro rfl; exact diff_self _ a
/-- What is written is read back. -/
theorem rstep_text {out : List Ln} {x : Ln} (hb : LnB x) (hr : x.right = true) (ho : ∀ y, out.getLast? = some y → y.cmp x < 0) : rstep out x.text = some x := by
  unfold rstep
  rw [readLn_text x hb hr]
  cases h : out.getLast? with
  | none => rfl
  | some y => show (if y.cmp x < 0 then some x else none) = some x; rw [if_pos (ho y h)]
theorem getLast_mem {l : List Ln} {y : Ln} (h : l.getLast? = some y) : y ∈ l := by
  have := List.mem_of_getLast? h
  exact this
theorem reads_from : ∀ (t out : List Ln), (∀ x ∈ t, LnB x ∧ x.right = true) → Srt (out ++ t) → readsFrom out (t.map Ln.text) = (some (out ++ t), 0)
  | [], out, _, _ => by rw [List.map_nil, readsFrom, List.append_nil]
  | x :: t, out, h, s => by
    obtain ⟨h1, h2⟩ := h x (by simp)
    have s2 := List.pairwise_append.1 s
    rw [List.map_cons, readsFrom, rstep_text h1 h2 fun y hy => s2.2.2 y (getLast_mem hy) x (by simp)]
    show readsFrom (out ++ [x]) (t.map Ln.text) = _
    rw [reads_from t (out ++ [x]) (fun z hz => h z (by simp [hz])) (by rw [List.append_assoc]; exact s), List.append_assoc]; rfl
theorem reads_texts (a : List Ln) (hb : ∀ x ∈ a, LnB x) (ho : orderedL a = true) : readsL (a.map Ln.text) = (some a, 0) := by
  have := reads_from a [] (fun x hx => ⟨hb x hx, ordered_right ho hx⟩) (by rw [List.nil_append]; exact srt_of_ordered a ho)
  rwa [List.nil_append] at this
/-- Texts that go on behind those of a dump with a line that does not come after the last one. -/
theorem reads_then : ∀ (t out : List Ln) (x : Ln) (r : List (List UInt8)), (∀ x ∈ t, LnB x ∧ x.right = true) → Srt (out ++ t) → LnB x → x.right = true → (∀ y, (out ++ t).getLast? = some y → ¬ y.cmp x < 0) → out ++ t ≠ [] → readsFrom out (t.map Ln.text ++ x.text :: r) = (none, (out ++ t).length)
  | [], out, x, r, _, _, hb, hr, hl, hne => by
    rw [List.append_nil] at hl hne ⊢
    rw [List.map_nil, List.nil_append, readsFrom]
    have : rstep out x.text = none := by
      unfold rstep
      rw [readLn_text x hb hr]
      cases h : out.getLast? with
      | none => exact absurd (List.getLast?_eq_none_iff.1 h) hne
      | some y => show (if y.cmp x < 0 then some x else none) = none; rw [if_neg (hl y h)]
    rw [this]
  | z :: t, out, x, r, h, s, hb, hr, hl, hne => by
    obtain ⟨h1, h2⟩ := h z (by simp)
    have s2 := List.pairwise_append.1 s
    have e : out ++ z :: t = out ++ [z] ++ t := by simp
    rw [List.map_cons, List.cons_append, readsFrom, rstep_text h1 h2 fun y hy => s2.2.2 y (getLast_mem hy) z (by simp)]
    show readsFrom (out ++ [z]) (t.map Ln.text ++ x.text :: r) = _
    rw [e] at s hl hne ⊢
    exact reads_then t (out ++ [z]) x r (fun y hy => h y (by simp [hy])) s hb hr hl hne
theorem take_last (a : List Ln) (k : Nat) (x : Ln) (hx : a[k]? = some x) : a.take (k + 1) = a.take k ++ [x] := take_snoc3 a k x hx
theorem drop_head (a : List Ln) (k : Nat) (x : Ln) (hx : a[k]? = some x) : a.drop k = x :: a.drop (k + 1) := by
  obtain ⟨hk, rfl⟩ := List.getElem?_eq_some_iff.1 hx
  exact List.drop_eq_getElem_cons hk
theorem reads_twice (a : List Ln) (hb : ∀ x ∈ a, LnB x) (ho : orderedL a = true) (k : Nat) (hk : k < a.length) :
    readsL ((a.map Ln.text).take (k + 1) ++ (a.map Ln.text).drop k) = (none, k + 1) := by
  obtain ⟨x, hx⟩ : ∃ x, a[k]? = some x := ⟨_, List.getElem?_eq_getElem hk⟩
  have hxa := List.mem_of_getElem? hx
  have s := srt_of_ordered a ho
  rw [← List.map_take, ← List.map_drop, drop_head a k x hx, List.map_cons]
  have hs : Srt (a.take (k + 1)) := List.Pairwise.sublist (List.take_sublist _ _) s
  have := reads_then (a.take (k + 1)) [] x ((a.drop (k + 1)).map Ln.text) (fun y hy => ⟨hb y (List.mem_of_mem_take hy), ordered_right ho (List.mem_of_mem_take hy)⟩) (by rw [List.nil_append]; exact hs) (hb x hxa) (ordered_right ho hxa)
    (fun y hy => by
      rw [List.nil_append, take_last a k x hx, List.getLast?_concat] at hy
      cases hy
      rw [cmp_self]; decide)
    (by rw [List.nil_append, take_last a k x hx]; simp)
  rw [List.nil_append, List.length_take, Nat.min_eq_left (by omega)] at this
  exact this
theorem ordered_twice (a : List Ln) (k : Nat) (hk : k < a.length) : orderedL (a.take (k + 1) ++ a.drop k) = false := by
  obtain ⟨x, hx⟩ : ∃ x, a[k]? = some x := ⟨_, List.getElem?_eq_getElem hk⟩
  cases h : orderedL (a.take (k + 1) ++ a.drop k) with
  | false => rfl
  | true =>
    exfalso
    have s := srt_of_ordered _ h
    have := (List.pairwise_append.1 s).2.2 x (by rw [take_last a k x hx]; simp) x (by rw [drop_head a k x hx]; simp)
    rw [cmp_self] at this
    exact absurd this (by decide)
/-- Two lines of a right dump exchanged. -/
theorem ordered_swap (a : List Ln) (ho : orderedL a = true) (k : Nat) (h0 : 0 < k) (x y : Ln) (hx : a[0]? = some x) (hy : a[k]? = some y) : orderedL ((a.set 0 y).set k x) = false := by
  have s := srt_of_ordered a ho
  have hk := (List.getElem?_eq_some_iff.1 hy).1
  have hxy : x.cmp y < 0 := by
    obtain ⟨h1, rfl⟩ := List.getElem?_eq_some_iff.1 hx
    obtain ⟨h2, rfl⟩ := List.getElem?_eq_some_iff.1 hy
    exact (List.pairwise_iff_getElem.1 s) 0 k h1 h2 h0
  cases h : orderedL ((a.set 0 y).set k x) with
  | false => rfl
  | true =>
    exfalso
    have s2 := srt_of_ordered _ h
    have hl : ((a.set 0 y).set k x).length = a.length := by simp
    have := (List.pairwise_iff_getElem.1 s2) 0 k (by omega) (by omega) h0
    rw [List.getElem_set_self, List.getElem_set_ne (by omega), List.getElem_set_self] at this
    have h3 := cmp_neg x y
    omega
end Go.Ab
namespace Go.Ab
open Go.RowKit Go.Proofs.YteciigbonaecoaaGreatDoor
theorem cls_len (c : Int) : (clsOf c).length ≤ 11 := by
  unfold clsOf
  cases h : clsL[c.toNat]? with
  | none => simp
  | some x =>
    have := List.mem_of_getElem? h
    have h2 : ∀ y ∈ clsL, y.length ≤ 11 := by decide +kernel
    exact h2 x this
theorem only_len (b : Bool) (w : List UInt8) : (onlyW b w).length ≤ w.length := by cases b <;> simp [onlyW]
theorem ln_text_len (l : Ln) (b : LnB l) : l.text.length ≤ 500 := by
  have h1 := keyT_len l.pr l.s l.d l.sp l.dp b.key.r0 b.key.r1 b.key.sp0 b.key.sp1 b.key.dp0 b.key.dp1
  have h2 : (sideW l.sd).length ≤ 7 := by unfold sideW; split <;> decide
  have h3 := cls_len l.cl
  have h4 := only_len l.rp repliedW
  have h5 := only_len l.ss assuredW
  have h6 := dec_length l.dl b.dl0 b.dl1
  have h7 := dec_length l.sn b.sn0 b.sn1
  have e1 : repliedW.length = 7 := rfl
  have e2 : assuredW.length = 7 := rfl
  have e3 : deadW.length = 8 := rfl
  have e4 : seenW.length = 4 := rfl
  unfold Ln.text Ln.words
  refine Nat.le_trans (joinW_length _) ?_
  simp only [List.map_cons, List.map_nil, List.sum_cons, List.sum_nil]
  omega
theorem ln_text_beq {x y : Ln} (hx : LnB x) (hy : LnB y) (rx : x.right = true) (ry : y.right = true) : (x.text == y.text) = decide (x = y) := by
  rw [Bool.eq_iff_iff]
  simp only [beq_iff_eq, decide_eq_true_eq]
  exact ⟨fun h => ln_inj hx hy rx ry h, fun h => by rw [h]⟩
theorem LnB.zero2 : LnB Ln.zero := LnB.zero
theorem zero_right : Ln.zero.right = true := by decide
end Go.Ab
