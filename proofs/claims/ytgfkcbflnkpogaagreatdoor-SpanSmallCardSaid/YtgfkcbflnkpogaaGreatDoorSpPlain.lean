/- Sets of numbers as lists of spans: plain laws. What is right, what has a number; a right set is known by its numbers; taking away, union, common part, complement; what is put together in the order of beginnings; counting. -/
namespace Go.Ab
abbrev Sp := Int × Int
def spIn (x : Sp) (n : Int) : Bool := decide (x.1 ≤ n) && decide (n ≤ x.2)
def hasS (s : List Sp) (n : Int) : Bool := s.any fun x => spIn x n
def rF : Int → List Sp → Bool
  | _, [] => true
  | lo, x :: s => decide (lo ≤ x.1) && decide (x.1 ≤ x.2) && rF (x.2 + 2) s
def rightS (s : List Sp) : Bool := rF 0 s
/-- The bounds of a span's numbers. -/
structure SpB (x : Sp) : Prop where
  f0 : 0 ≤ x.1
  f1 : x.1 < 4294967296
  t0 : 0 ≤ x.2
  t1 : x.2 < 4294967296
theorem spIn_iff (x : Sp) (n : Int) : spIn x n = true ↔ x.1 ≤ n ∧ n ≤ x.2 := by simp [spIn]
theorem hasS_nil (n : Int) : hasS [] n = false := rfl
theorem hasS_cons (x : Sp) (s : List Sp) (n : Int) : hasS (x :: s) n = (spIn x n || hasS s n) := rfl
theorem hasS_app (s t : List Sp) (n : Int) : hasS (s ++ t) n = (hasS s n || hasS t n) := by simp [hasS]
theorem hasS_one (x : Sp) (n : Int) : hasS [x] n = spIn x n := by simp [hasS]
theorem rF_cons {lo : Int} {x : Sp} {s : List Sp} : rF lo (x :: s) = true ↔ lo ≤ x.1 ∧ x.1 ≤ x.2 ∧ rF (x.2 + 2) s = true := by simp [rF, and_assoc]
theorem rF_mono : ∀ {s : List Sp} {lo lo' : Int}, lo' ≤ lo → rF lo s = true → rF lo' s = true
  | [], _, _, _, _ => rfl
  | _ :: _, _, _, h, hr => by
    obtain ⟨h1, h2, h3⟩ := rF_cons.1 hr
    exact rF_cons.2 ⟨by omega, h2, h3⟩
theorem rF_ge : ∀ {s : List Sp} {lo n : Int}, rF lo s = true → hasS s n = true → lo ≤ n
  | [], _, _, _, h => by cases h
  | x :: s, lo, n, hr, h => by
    obtain ⟨h1, h2, h3⟩ := rF_cons.1 hr
    rw [hasS_cons, Bool.or_eq_true] at h
    rcases h with h | h
    · have := (spIn_iff _ _).1 h; omega
    · have := rF_ge h3 h; omega
theorem rF_head {lo : Int} {x : Sp} {s : List Sp} (hr : rF lo (x :: s) = true) : hasS (x :: s) x.1 = true := by
  obtain ⟨h1, h2, h3⟩ := rF_cons.1 hr
  rw [hasS_cons, (spIn_iff x x.1).2 ⟨by omega, h2⟩]; rfl
theorem rF_behind {lo : Int} {x : Sp} {s : List Sp} (hr : rF lo (x :: s) = true) : hasS (x :: s) (x.2 + 1) = false := by
  obtain ⟨h1, h2, h3⟩ := rF_cons.1 hr
  rw [Bool.eq_false_iff]
  intro h
  rw [hasS_cons, Bool.or_eq_true] at h
  rcases h with h | h
  · have := (spIn_iff _ _).1 h; omega
  · have := rF_ge h3 h; omega
theorem rF_tail {lo : Int} {x : Sp} {s : List Sp} (hr : rF lo (x :: s) = true) (n : Int) : hasS s n = (hasS (x :: s) n && decide (x.2 < n)) := by
  obtain ⟨h1, h2, h3⟩ := rF_cons.1 hr
  rw [hasS_cons]
  cases h : hasS s n
  · by_cases hn : x.2 < n
    · have : spIn x n = false := by rw [Bool.eq_false_iff]; intro h; have := (spIn_iff _ _).1 h; omega
      simp [this]
    · simp [hn]
  · have := rF_ge h3 h
    simp; omega
/-- A right set is known by its numbers. -/
theorem rF_ext : ∀ {s t : List Sp} {lo lo' : Int}, rF lo s = true → rF lo' t = true → (∀ n, hasS s n = hasS t n) → s = t
  | [], [], _, _, _, _, _ => rfl
  | [], y :: t, _, _, _, h2, h => by have := rF_head h2; rw [← h] at this; cases this
  | x :: s, [], _, _, h1, _, h => by have := rF_head h1; rw [h] at this; cases this
  | x :: s, y :: t, lo, lo', h1, h2, h => by
    have hx := rF_head h1
    have hy := rF_head h2
    have hx' := rF_behind h1
    have hy' := rF_behind h2
    obtain ⟨a1, a2, a3⟩ := rF_cons.1 h1
    obtain ⟨b1, b2, b3⟩ := rF_cons.1 h2
    have l1 : y.1 ≤ x.1 := by
      rw [h] at hx
      exact rF_ge (rF_cons.2 ⟨Int.le_refl _, b2, b3⟩) hx
    have l2 : x.1 ≤ y.1 := by
      rw [← h] at hy
      exact rF_ge (rF_cons.2 ⟨Int.le_refl _, a2, a3⟩) hy
    have e1 : x.1 = y.1 := by omega
    have e2 : x.2 = y.2 := by
      by_cases c1 : x.2 < y.2
      · rw [h, hasS_cons, (spIn_iff y (x.2 + 1)).2 ⟨by omega, by omega⟩] at hx'
        cases hx'
      · by_cases c2 : y.2 < x.2
        · rw [← h, hasS_cons, (spIn_iff x (y.2 + 1)).2 ⟨by omega, by omega⟩] at hy'
          cases hy'
        · omega
    have e : x = y := Prod.ext e1 e2
    subst e
    rw [rF_ext a3 b3 (fun n => by rw [rF_tail h1, rF_tail h2, h])]
theorem rF_le : ∀ {s : List Sp} {lo : Int}, rF lo s = true → ∀ x ∈ s, x.1 ≤ x.2
  | [], _, _, _, h => by cases h
  | y :: s, lo, hr, x, h => by
    obtain ⟨h1, h2, h3⟩ := rF_cons.1 hr
    rcases List.mem_cons.1 h with rfl | h
    · exact h2
    · exact rF_le h3 x h
theorem rF_low : ∀ {s : List Sp} {lo : Int}, rF lo s = true → ∀ x ∈ s, lo ≤ x.1
  | [], _, _, _, h => by cases h
  | y :: s, lo, hr, x, h => by
    obtain ⟨h1, h2, h3⟩ := rF_cons.1 hr
    rcases List.mem_cons.1 h with rfl | h
    · exact h1
    · have := rF_low h3 x h; omega
theorem hasS_mem {s : List Sp} {x : Sp} {n : Int} (h : x ∈ s) (h1 : x.1 ≤ n) (h2 : n ≤ x.2) : hasS s n = true := List.any_eq_true.2 ⟨x, h, (spIn_iff _ _).2 ⟨h1, h2⟩⟩
theorem hasS_iff {s : List Sp} {n : Int} : hasS s n = true ↔ ∃ x ∈ s, x.1 ≤ n ∧ n ≤ x.2 := by
  unfold hasS
  rw [List.any_eq_true]
  exact ⟨fun ⟨x, h, k⟩ => ⟨x, h, (spIn_iff _ _).1 k⟩, fun ⟨x, h, k⟩ => ⟨x, h, (spIn_iff _ _).2 k⟩⟩
theorem hasS_bd {s : List Sp} {n : Int} (hb : ∀ x ∈ s, SpB x) (h : hasS s n = true) : 0 ≤ n ∧ n < 4294967296 := by
  obtain ⟨x, hx, h1, h2⟩ := hasS_iff.1 h
  have := hb x hx
  exact ⟨Int.le_trans this.f0 h1, by have := this.t1; omega⟩
/-- The bounds of a right set's spans out of those of its numbers. -/
theorem rF_bd {s : List Sp} {lo : Int} (hr : rF lo s = true) (h : ∀ n, hasS s n = true → 0 ≤ n ∧ n < 4294967296) : ∀ x ∈ s, SpB x := by
  intro x hx
  have hl := rF_le hr x hx
  have h1 := h x.1 (hasS_mem hx (Int.le_refl _) hl)
  have h2 := h x.2 (hasS_mem hx hl (Int.le_refl _))
  exact ⟨h1.1, h1.2, h2.1, h2.2⟩

/-! Taking away. -/
def lessL (x : Sp) : List Sp → List Sp
  | [] => []
  | y :: l => (if y.2 < x.1 ∨ x.2 < y.1 then [y] else (if y.1 < x.1 then [(y.1, x.1 - 1)] else []) ++ (if x.2 < y.2 then [(x.2 + 1, y.2)] else [])) ++ lessL x l
theorem spIn_eq (x : Sp) (n : Int) : spIn x n = decide (x.1 ≤ n ∧ n ≤ x.2) := by simp [spIn]
theorem lessL_one (x y : Sp) (n : Int) : hasS (if y.2 < x.1 ∨ x.2 < y.1 then [y] else (if y.1 < x.1 then [(y.1, x.1 - 1)] else []) ++ (if x.2 < y.2 then [(x.2 + 1, y.2)] else [])) n = (spIn y n && !spIn x n) := by
  rw [Bool.eq_iff_iff, Bool.and_eq_true, Bool.not_eq_true', Bool.eq_false_iff, ne_eq, spIn_iff, spIn_iff]
  by_cases h1 : y.2 < x.1 ∨ x.2 < y.1
  · rw [if_pos h1, hasS_one, spIn_iff]; omega
  · rw [if_neg h1]
    by_cases h2 : y.1 < x.1 <;> by_cases h3 : x.2 < y.2 <;> simp only [h2, h3, if_true, if_false, hasS_app, hasS_one, hasS_nil, Bool.or_eq_true, spIn_iff, Bool.false_eq_true, or_false, false_or, false_iff] <;> omega
theorem hasS_less (x : Sp) (n : Int) : ∀ l : List Sp, hasS (lessL x l) n = (hasS l n && !spIn x n)
  | [] => rfl
  | y :: l => by rw [lessL, hasS_app, lessL_one, hasS_less x n l, hasS_cons, Bool.and_or_distrib_right]
theorem rF_less (x : Sp) (hx : x.1 ≤ x.2) : ∀ {l : List Sp} {lo : Int}, rF lo l = true → rF lo (lessL x l) = true
  | [], _, _ => rfl
  | y :: l, lo, hr => by
    obtain ⟨h1, h2, h3⟩ := rF_cons.1 hr
    have ih := rF_less x hx h3
    rw [lessL]
    by_cases c1 : y.2 < x.1 ∨ x.2 < y.1
    · rw [if_pos c1]; exact rF_cons.2 ⟨h1, h2, ih⟩
    · rw [if_neg c1]
      by_cases c2 : y.1 < x.1 <;> by_cases c3 : x.2 < y.2 <;> simp only [c2, c3, if_true, if_false, List.nil_append, List.append_nil, List.cons_append]
      · exact rF_cons.2 ⟨h1, by simp only; omega, rF_cons.2 ⟨by simp only; omega, by simp only; omega, ih⟩⟩
      · exact rF_cons.2 ⟨h1, by simp only; omega, rF_mono (by simp only; omega) ih⟩
      · exact rF_cons.2 ⟨by simp only; omega, by simp only; omega, ih⟩
      · exact rF_mono (by omega) ih
def withoutL (a b : List Sp) : List Sp := b.foldl (fun o x => lessL x o) a
theorem hasS_without (n : Int) : ∀ (b a : List Sp), hasS (withoutL a b) n = (hasS a n && !hasS b n)
  | [], a => by simp [withoutL, hasS_nil]
  | x :: b, a => by
    have := hasS_without n b (lessL x a)
    unfold withoutL at this ⊢
    rw [List.foldl_cons, this, hasS_less, hasS_cons, Bool.not_or, Bool.and_assoc]
theorem rF_without {lo : Int} : ∀ (b a : List Sp), rF lo a = true → (∀ x ∈ b, x.1 ≤ x.2) → rF lo (withoutL a b) = true
  | [], _, h, _ => h
  | x :: b, a, h, hb => rF_without b (lessL x a) (rF_less x (hb x (by simp)) h) (fun y hy => hb y (by simp [hy]))
def allS : List Sp := [(0, 4294967295)]
def othersL (s : List Sp) : List Sp := withoutL allS s
def inU (n : Int) : Bool := decide (0 ≤ n) && decide (n < 4294967296)
theorem hasS_all (n : Int) : hasS allS n = inU n := by
  rw [allS, hasS_one, Bool.eq_iff_iff, spIn_iff]; simp [inU]; omega
theorem hasS_others (s : List Sp) (n : Int) : hasS (othersL s) n = (inU n && !hasS s n) := by rw [othersL, hasS_without, hasS_all]
theorem rF_others {s : List Sp} (h : ∀ x ∈ s, x.1 ≤ x.2) : rF 0 (othersL s) = true := rF_without s allS (by decide) h
theorem inU_iff (n : Int) : inU n = true ↔ 0 ≤ n ∧ n < 4294967296 := by simp [inU]
def ofL (l : List Sp) : List Sp := othersL (othersL l)
theorem hasS_of (l : List Sp) (n : Int) (hb : ∀ x ∈ l, SpB x) : hasS (ofL l) n = hasS l n := by
  rw [ofL, hasS_others, hasS_others]
  cases h : hasS l n
  · cases inU n <;> rfl
  · rw [(inU_iff n).2 (hasS_bd hb h)]; rfl
theorem rF_of {l : List Sp} (h : ∀ x ∈ l, x.1 ≤ x.2) : rF 0 (ofL l) = true := rF_others (rF_le (rF_others h))
def unionL (a b : List Sp) : List Sp := ofL (a ++ b)
def commonL (a b : List Sp) : List Sp := withoutL a (othersL b)
theorem app_all {α : Type} {p : α → Prop} {a b : List α} (h : ∀ x ∈ a, p x) (k : ∀ x ∈ b, p x) : ∀ x ∈ a ++ b, p x := fun x hx => (List.mem_append.1 hx).elim (h x) (k x)
theorem hasS_union (a b : List Sp) (n : Int) (ha : ∀ x ∈ a, SpB x) (hb : ∀ x ∈ b, SpB x) : hasS (unionL a b) n = (hasS a n || hasS b n) := by
  rw [unionL, hasS_of _ _ (app_all ha hb), hasS_app]
theorem hasS_common (a b : List Sp) (n : Int) (ha : ∀ x ∈ a, SpB x) : hasS (commonL a b) n = (hasS a n && hasS b n) := by
  rw [commonL, hasS_without, hasS_others]
  cases h : hasS a n
  · rfl
  · rw [(inU_iff n).2 (hasS_bd ha h)]; simp
theorem rF_union {a b : List Sp} (ha : rightS a = true) (hb : rightS b = true) : rF 0 (unionL a b) = true := rF_of (app_all (rF_le ha) (rF_le hb))
theorem rF_common {a b : List Sp} (ha : rightS a = true) (hb : rightS b = true) : rF 0 (commonL a b) = true := rF_without _ _ ha (rF_le (rF_others (rF_le hb)))
/-- What a choice among the numbers of two sets is. -/
structure Chosen (t : Bool → Bool → Bool) (a b o : List Sp) : Prop where
  r : rF 0 o = true
  h : ∀ n, hasS o n = (inU n && t (hasS a n) (hasS b n))
theorem Chosen.eq {t : Bool → Bool → Bool} {a b o p : List Sp} (h : Chosen t a b o) (k : Chosen t a b p) : o = p := rF_ext h.r k.r (fun n => by rw [h.h, k.h])
theorem inU_has {s : List Sp} (hb : ∀ x ∈ s, SpB x) (n : Int) : (inU n && hasS s n) = hasS s n := by
  cases h : hasS s n
  · simp
  · rw [(inU_iff n).2 (hasS_bd hb h)]; rfl
theorem chosen_union {a b : List Sp} (ha : rightS a = true) (hb : rightS b = true) (ba : ∀ x ∈ a, SpB x) (bb : ∀ x ∈ b, SpB x) : Chosen (fun p q => p || q) a b (unionL a b) :=
  ⟨rF_union ha hb, fun n => by rw [hasS_union a b n ba bb, Bool.and_or_distrib_left, inU_has ba, inU_has bb]⟩
theorem chosen_common {a b : List Sp} (ha : rightS a = true) (hb : rightS b = true) (ba : ∀ x ∈ a, SpB x) : Chosen (fun p q => p && q) a b (commonL a b) :=
  ⟨rF_common ha hb, fun n => by rw [hasS_common a b n ba, ← Bool.and_assoc, inU_has ba]⟩
theorem chosen_without {a b : List Sp} (ha : rightS a = true) (hb : rightS b = true) (ba : ∀ x ∈ a, SpB x) : Chosen (fun p q => p && !q) a b (withoutL a b) :=
  ⟨rF_without _ _ ha (rF_le hb), fun n => by rw [hasS_without, ← Bool.and_assoc, inU_has ba]⟩
theorem chosen_others {a b : List Sp} (ha : rightS a = true) : Chosen (fun p _ => !p) a b (othersL a) :=
  ⟨rF_others (rF_le ha), fun n => hasS_others a n⟩

/-! What is put together. -/
def endL : Int → List Sp → Int
  | lo, [] => lo
  | _, x :: s => endL (x.2 + 2) s
theorem endL_snoc (y : Sp) : ∀ (s : List Sp) (lo : Int), endL lo (s ++ [y]) = y.2 + 2
  | [], _ => rfl
  | _ :: s, _ => endL_snoc y s _
theorem rF_app (t : List Sp) : ∀ (s : List Sp) (lo : Int), rF lo (s ++ t) = (rF lo s && rF (endL lo s) t)
  | [], _ => by simp [rF, endL]
  | x :: s, lo => by rw [List.cons_append, rF, rF_app t s, rF, endL, Bool.and_assoc, Bool.and_assoc]; simp [Bool.and_assoc]
def addL (o : List Sp) (f t : Int) : List Sp :=
  match o.getLast? with
  | none => [(f, t)]
  | some y => if f ≤ y.2 + 1 then o.dropLast ++ [(y.1, max y.2 t)] else o ++ [(f, t)]
theorem addL_nil (f t : Int) : addL [] f t = [(f, t)] := rfl
theorem addL_in (p : List Sp) (y : Sp) (f t : Int) (h : f ≤ y.2 + 1) : addL (p ++ [y]) f t = p ++ [(y.1, max y.2 t)] := by simp [addL, h]
theorem addL_out (p : List Sp) (y : Sp) (f t : Int) (h : ¬ f ≤ y.2 + 1) : addL (p ++ [y]) f t = p ++ [y] ++ [(f, t)] := by simp [addL, h]
theorem snoc_or {α : Type} (o : List α) : o = [] ∨ ∃ p y, o = p ++ [y] := by
  rcases List.eq_nil_or_concat o with h | ⟨p, y, h⟩
  · exact .inl h
  · exact .inr ⟨p, y, by rw [h, List.concat_eq_append]⟩
structure AddOk (o q : List Sp) (f t : Int) : Prop where
  r : rF 0 q = true
  h : ∀ n, hasS q n = (hasS o n || spIn (f, t) n)
  lo : ∀ x ∈ q, x.1 ≤ f
  hi : ∀ m, (∀ x ∈ o, x.2 ≤ m) → t ≤ m → ∀ x ∈ q, x.2 ≤ m
theorem addL_ok (o : List Sp) (f t : Int) (hr : rF 0 o = true) (hlo : ∀ x ∈ o, x.1 ≤ f) (f0 : 0 ≤ f) (ft : f ≤ t) : AddOk o (addL o f t) f t := by
  rcases snoc_or o with rfl | ⟨p, y, rfl⟩
  · rw [addL_nil]
    exact ⟨rF_cons.2 ⟨f0, ft, rfl⟩, fun n => by rw [hasS_one, hasS_nil]; rfl, fun x hx => by rw [List.mem_singleton.1 hx]; exact Int.le_refl _, fun m _ hm x hx => by rw [List.mem_singleton.1 hx]; exact hm⟩
  · have hy := hlo y (by simp)
    rw [rF_app, Bool.and_eq_true] at hr
    obtain ⟨hp, hry⟩ := hr
    obtain ⟨y1, y2, _⟩ := rF_cons.1 hry
    by_cases c : f ≤ y.2 + 1
    · rw [addL_in p y f t c]
      refine ⟨?_, fun n => ?_, fun x hx => ?_, fun m h1 h2 x hx => ?_⟩
      · rw [rF_app, hp]; exact rF_cons.2 ⟨y1, by simp only; omega, rfl⟩
      · rw [hasS_app, hasS_app, hasS_one, hasS_one, Bool.or_assoc]
        congr 1
        rw [Bool.eq_iff_iff, Bool.or_eq_true, spIn_iff, spIn_iff, spIn_iff]
        simp only
        omega
      · rcases List.mem_append.1 hx with h | h
        · exact hlo x (List.mem_append_left _ h)
        · rw [List.mem_singleton.1 h]; exact hy
      · rcases List.mem_append.1 hx with h | h
        · exact h1 x (List.mem_append_left _ h)
        · rw [List.mem_singleton.1 h]; have := h1 y (by simp); simp only; omega
    · rw [addL_out p y f t c]
      refine ⟨?_, fun n => ?_, fun x hx => ?_, fun m h1 h2 x hx => ?_⟩
      · rw [rF_app, rF_app, hp, endL_snoc]
        simp only [Bool.true_and, Bool.and_eq_true]
        exact ⟨hry, rF_cons.2 ⟨by simp only; omega, ft, rfl⟩⟩
      · rw [hasS_app, hasS_one]
      · rcases List.mem_append.1 hx with h | h
        · exact hlo x h
        · rw [List.mem_singleton.1 h]; exact Int.le_refl _
      · rcases List.mem_append.1 hx with h | h
        · exact h1 x h
        · rw [List.mem_singleton.1 h]; exact h2
/-- What is put together out of the first numbers, up to m. -/
structure Upto (t : Bool → Bool → Bool) (a b o : List Sp) (m : Int) : Prop where
  r : rF 0 o = true
  m0 : 0 ≤ m
  m1 : m ≤ 4294967296
  hi : ∀ x ∈ o, x.2 < m
  h : ∀ n, 0 ≤ n → n < m → hasS o n = t (hasS a n) (hasS b n)
theorem Upto.start (t : Bool → Bool → Bool) (a b : List Sp) : Upto t a b [] 0 := ⟨rfl, by omega, by omega, fun x h => by (cases h), fun n h1 h2 => by omega⟩
theorem Upto.fin {t : Bool → Bool → Bool} {a b o : List Sp} (h : Upto t a b o 4294967296) : Chosen t a b o := by
  refine ⟨h.r, fun n => ?_⟩
  by_cases hn : 0 ≤ n ∧ n < 4294967296
  · rw [(inU_iff n).2 hn, h.h n hn.1 hn.2]; rfl
  · have h1 : inU n = false := by rw [Bool.eq_false_iff]; intro k; exact hn ((inU_iff n).1 k)
    have h2 : hasS o n = false := by
      rw [Bool.eq_false_iff]
      intro k
      have k0 := rF_ge h.r k
      obtain ⟨x, hx, _, k2⟩ := hasS_iff.1 k
      have := h.hi x hx
      omega
    rw [h1, h2]; rfl
theorem Upto.skip {t : Bool → Bool → Bool} {a b o : List Sp} {m e : Int} {p q : Bool} (h : Upto t a b o m) (he : m ≤ e) (e1 : e < 4294967296) (hc : ∀ n, m ≤ n → n ≤ e → hasS a n = p ∧ hasS b n = q) (ht : t p q = false) : Upto t a b o (e + 1) := by
  refine ⟨h.r, by have := h.m0; omega, by omega, fun x hx => by have := h.hi x hx; omega, fun n n0 n1 => ?_⟩
  by_cases c : n < m
  · exact h.h n n0 c
  · obtain ⟨h1, h2⟩ := hc n (by omega) (by omega)
    rw [h1, h2, ht, Bool.eq_false_iff]
    intro k
    obtain ⟨x, hx, _, k2⟩ := hasS_iff.1 k
    have := h.hi x hx
    omega
theorem Upto.add {t : Bool → Bool → Bool} {a b o : List Sp} {m e : Int} {p q : Bool} (h : Upto t a b o m) (he : m ≤ e) (e1 : e < 4294967296) (hc : ∀ n, m ≤ n → n ≤ e → hasS a n = p ∧ hasS b n = q) (ht : t p q = true) : Upto t a b (addL o m e) (e + 1) := by
  have ok := addL_ok o m e h.r (fun x hx => by have h1 := h.hi x hx; have h2 := rF_le h.r x hx; omega) h.m0 he
  refine ⟨ok.r, by have := h.m0; omega, by omega, fun x hx => by have := ok.hi e (fun x hx => by have := h.hi x hx; omega) (Int.le_refl _) x hx; omega, fun n n0 n1 => ?_⟩
  rw [ok.h]
  by_cases c : n < m
  · have : spIn (m, e) n = false := by rw [Bool.eq_false_iff]; intro k; have := (spIn_iff _ _).1 k; simp only at this; omega
    rw [this, h.h n n0 c, Bool.or_false]
  · obtain ⟨h1, h2⟩ := hc n (by omega) (by omega)
    rw [h1, h2, ht, (spIn_iff (m, e) n).2 ⟨by simp only; omega, by simp only; omega⟩, Bool.or_true]
/-- The pieces of two sets, up to a number. -/
structure Pc where
  f : Int
  t : Int
  p : Bool
  q : Bool
inductive Tiles (a b : List Sp) : List Pc → Int → Prop
  | nil : Tiles a b [] 0
  | snoc {l : List Pc} {m e : Int} {p q : Bool} (h : Tiles a b l m) (h0 : m ≤ e) (h1 : e < 4294967296) (hc : ∀ n, m ≤ n → n ≤ e → hasS a n = p ∧ hasS b n = q) : Tiles a b (l ++ [⟨m, e, p, q⟩]) (e + 1)
theorem Tiles.bd {a b : List Sp} {l : List Pc} {m : Int} (h : Tiles a b l m) : (l.length : Int) ≤ m ∧ m ≤ 4294967296 := by
  induction h with
  | nil => simp
  | snoc h h0 h1 hc ih => simp only [List.length_append, List.length_cons, List.length_nil]; omega
theorem Tiles.uncons {a b : List Sp} {l : List Pc} {x : Pc} {m : Int} (h : Tiles a b (l ++ [x]) m) : ∃ k, Tiles a b l k ∧ x.f = k ∧ m = x.t + 1 ∧ k ≤ x.t ∧ x.t < 4294967296 ∧ ∀ n, k ≤ n → n ≤ x.t → hasS a n = x.p ∧ hasS b n = x.q := by
  generalize hl : l ++ [x] = L at h
  cases h with
  | nil => simp at hl
  | snoc h h0 h1 hc =>
    obtain ⟨e1, e2⟩ := List.append_inj' hl rfl
    subst e1
    have e3 := List.singleton_inj.1 e2
    subst e3
    exact ⟨_, h, rfl, rfl, h0, h1, hc⟩
def chosenL (t : Bool → Bool → Bool) (l : List Pc) : List Sp := l.foldl (fun o x => if t x.p x.q then addL o x.f x.t else o) []
theorem chosenL_snoc (t : Bool → Bool → Bool) (l : List Pc) (x : Pc) : chosenL t (l ++ [x]) = if t x.p x.q then addL (chosenL t l) x.f x.t else chosenL t l := by simp [chosenL]
theorem Tiles.upto {t : Bool → Bool → Bool} {a b : List Sp} {l : List Pc} {m : Int} (h : Tiles a b l m) : Upto t a b (chosenL t l) m := by
  induction h with
  | nil => exact Upto.start t a b
  | snoc h h0 h1 hc ih =>
    rw [chosenL_snoc]
    split
    · rename_i ht; exact ih.add h0 h1 hc ht
    · rename_i ht; exact ih.skip h0 h1 hc (by simpa using ht)
/-- Of: the spans in the order of their beginnings, put together. -/
def ofFold (l : List Sp) : List Sp := l.foldl (fun o x => addL o x.1 x.2) []
theorem ofFold_ok : ∀ (l o : List Sp), rF 0 o = true → (∀ x ∈ l, 0 ≤ x.1 ∧ x.1 ≤ x.2) → l.Pairwise (fun x y => x.1 ≤ y.1) → (∀ x ∈ o, ∀ y ∈ l, x.1 ≤ y.1) →
    rF 0 (l.foldl (fun o x => addL o x.1 x.2) o) = true ∧ ∀ n, hasS (l.foldl (fun o x => addL o x.1 x.2) o) n = (hasS o n || hasS l n)
  | [], o, hr, _, _, _ => ⟨hr, fun n => by simp [hasS_nil]⟩
  | x :: l, o, hr, hl, hp, ho => by
    have ok := addL_ok o x.1 x.2 hr (fun y hy => ho y hy x (by simp)) (hl x (by simp)).1 (hl x (by simp)).2
    obtain ⟨hp1, hp2⟩ := List.pairwise_cons.1 hp
    obtain ⟨h1, h2⟩ := ofFold_ok l (addL o x.1 x.2) ok.r (fun y hy => hl y (by simp [hy])) hp2 (fun y hy z hz => Int.le_trans (ok.lo y hy) (hp1 z hz))
    refine ⟨h1, fun n => ?_⟩
    rw [List.foldl_cons, h2, ok.h, hasS_cons, Bool.or_assoc]
theorem hasS_perm {l m : List Sp} (h : l.Perm m) (n : Int) : hasS l n = hasS m n := by
  rw [Bool.eq_iff_iff, hasS_iff, hasS_iff]
  exact ⟨fun ⟨x, hx, k⟩ => ⟨x, h.mem_iff.1 hx, k⟩, fun ⟨x, hx, k⟩ => ⟨x, h.mem_iff.2 hx, k⟩⟩
theorem ofFold_of {l m : List Sp} (hm : m.Perm l) (hs : m.Pairwise (fun x y => x.1 ≤ y.1)) (hb : ∀ x ∈ l, SpB x) (hl : ∀ x ∈ l, x.1 ≤ x.2) : ofFold m = ofL l := by
  obtain ⟨h1, h2⟩ := ofFold_ok m [] rfl (fun x hx => ⟨(hb x (hm.mem_iff.1 hx)).f0, hl x (hm.mem_iff.1 hx)⟩) hs (fun x h => by cases h)
  refine rF_ext h1 (rF_of hl) (fun n => ?_)
  unfold ofFold
  rw [h2, hasS_of l n hb, hasS_perm hm, hasS_nil, Bool.false_or]
/-- A right set is the set of its own spans. -/
theorem of_right {s : List Sp} (h : rightS s = true) (hb : ∀ x ∈ s, SpB x) : ofL s = s := rF_ext (rF_of (rF_le h)) h (fun n => hasS_of s n hb)

/-! Counting. -/
def countL (s : List Sp) : Int := (s.map fun x => x.2 - x.1 + 1).sum
/-- How many numbers below N a test takes. -/
def cntN (p : Int → Bool) : Nat → Int
  | 0 => 0
  | n + 1 => cntN p n + if p n then 1 else 0
theorem cntN_ext {p q : Int → Bool} : ∀ (N : Nat), (∀ n : Int, 0 ≤ n → n < N → p n = q n) → cntN p N = cntN q N
  | 0, _ => rfl
  | N + 1, h => by rw [cntN, cntN, cntN_ext N (fun n h0 h1 => h n h0 (by omega)), h N (by omega) (by omega)]
theorem cntN_or (p q : Int → Bool) : ∀ N : Nat, cntN (fun n => p n || q n) N + cntN (fun n => p n && q n) N = cntN p N + cntN q N
  | 0 => rfl
  | N + 1 => by
    have := cntN_or p q N
    simp only [cntN]
    by_cases h1 : p N = true <;> by_cases h2 : q N = true <;> simp [h1, h2] <;> omega
theorem cntN_not (p : Int → Bool) : ∀ N : Nat, cntN p N + cntN (fun n => !p n) N = N
  | 0 => rfl
  | N + 1 => by
    have := cntN_not p N
    simp only [cntN]
    by_cases h1 : p N = true <;> simp [h1] <;> omega
theorem cntN_minus (p q : Int → Bool) : ∀ N : Nat, cntN (fun n => p n && !q n) N = cntN p N - cntN (fun n => p n && q n) N
  | 0 => rfl
  | N + 1 => by
    have := cntN_minus p q N
    simp only [cntN]
    by_cases h1 : p N = true <;> by_cases h2 : q N = true <;> simp [h1, h2] <;> omega
theorem cntN_no (p : Int → Bool) : ∀ N : Nat, (∀ n : Int, 0 ≤ n → n < N → p n = false) → cntN p N = 0
  | 0, _ => rfl
  | N + 1, h => by rw [cntN, cntN_no p N (fun n h0 h1 => h n h0 (by omega)), h N (by omega) (by omega)]; rfl
theorem cntN_span (x : Sp) (h0 : 0 ≤ x.1) (hx : x.1 ≤ x.2) : ∀ N : Nat, cntN (spIn x) N = if x.2 < N then x.2 - x.1 + 1 else if x.1 < N then N - x.1 else 0
  | 0 => by rw [cntN, if_neg (by omega), if_neg (by omega)]
  | N + 1 => by
    rw [cntN, cntN_span x h0 hx N]
    cases h : spIn x N
    · have : ¬ (x.1 ≤ N ∧ (N : Int) ≤ x.2) := fun k => by rw [(spIn_iff _ _).2 k] at h; cases h
      simp only [Bool.false_eq_true, if_false]
      split <;> split <;> (try split) <;> (try split) <;> omega
    · have := (spIn_iff _ _).1 h
      simp only [if_true]
      split <;> split <;> (try split) <;> (try split) <;> omega
theorem count_cnt (N : Nat) : ∀ {s : List Sp} {lo : Int}, 0 ≤ lo → rF lo s = true → (∀ x ∈ s, x.2 < N) → countL s = cntN (hasS s) N
  | [], _, _, _, _ => by
    have : cntN (hasS []) N = 0 := cntN_no _ _ (fun _ _ _ => rfl)
    rw [this]; rfl
  | x :: s, lo, h0, hr, hN => by
    obtain ⟨h1, h2, h3⟩ := rF_cons.1 hr
    have ih := count_cnt N (by omega) h3 (fun y hy => hN y (by simp [hy]))
    have hx := cntN_span x (by omega) h2 N
    rw [if_pos (hN x (by simp))] at hx
    have ho := cntN_or (spIn x) (hasS s) N
    have hz : cntN (fun n => spIn x n && hasS s n) N = 0 := cntN_no _ _ (fun n _ _ => by
      rw [Bool.eq_false_iff]
      intro k
      rw [Bool.and_eq_true] at k
      have k1 := (spIn_iff _ _).1 k.1
      have k2 := rF_ge h3 k.2
      omega)
    have e : cntN (hasS (x :: s)) N = cntN (fun n => spIn x n || hasS s n) N := cntN_ext N (fun n _ _ => rfl)
    have : countL (x :: s) = (x.2 - x.1 + 1) + countL s := by simp [countL]
    omega
def cntU (p : Int → Bool) : Int := cntN p 4294967296
theorem count_U {s : List Sp} (h : rightS s = true) (hb : ∀ x ∈ s, SpB x) : countL s = cntU (hasS s) := count_cnt 4294967296 (Int.le_refl 0) h (fun x hx => (hb x hx).t1)
theorem bd_of_chosen {t : Bool → Bool → Bool} {a b o : List Sp} (h : Chosen t a b o) : ∀ x ∈ o, SpB x := rF_bd h.r (fun n k => by rw [h.h, Bool.and_eq_true] at k; exact (inU_iff n).1 k.1)
theorem count_laws {a b : List Sp} (ha : rightS a = true) (hb : rightS b = true) (ba : ∀ x ∈ a, SpB x) (bb : ∀ x ∈ b, SpB x) :
    countL a + countL b = countL (unionL a b) + countL (commonL a b) ∧ countL a + countL (othersL a) = 4294967296 ∧ countL (withoutL a b) = countL a - countL (commonL a b) := by
  have cu := chosen_union ha hb ba bb
  have cc := chosen_common ha hb ba
  have cw := chosen_without ha hb ba
  have co := chosen_others (b := []) ha
  rw [count_U ha ba, count_U hb bb, count_U cu.r (bd_of_chosen cu), count_U cc.r (bd_of_chosen cc), count_U cw.r (bd_of_chosen cw), count_U co.r (bd_of_chosen co)]
  have e1 : cntU (hasS (unionL a b)) = cntU (fun n => hasS a n || hasS b n) := cntN_ext _ (fun n _ _ => hasS_union a b n ba bb)
  have e2 : cntU (hasS (commonL a b)) = cntU (fun n => hasS a n && hasS b n) := cntN_ext _ (fun n _ _ => hasS_common a b n ba)
  have e3 : cntU (hasS (withoutL a b)) = cntU (fun n => hasS a n && !hasS b n) := cntN_ext _ (fun n _ _ => hasS_without n b a)
  have e4 : cntU (hasS (othersL a)) = cntU (fun n => !hasS a n) := cntN_ext _ (fun n h0 h1 => by rw [hasS_others, (inU_iff n).2 ⟨h0, by simpa using h1⟩]; rfl)
  have l1 := cntN_or (hasS a) (hasS b) 4294967296
  have l2 := cntN_not (hasS a) 4294967296
  have l3 := cntN_minus (hasS a) (hasS b) 4294967296
  rw [e1, e2, e3, e4]
  unfold cntU
  exact ⟨l1.symm, l2, l3⟩
/-! The algebra. -/
theorem others_union {a b : List Sp} (ha : rightS a = true) (hb : rightS b = true) (ba : ∀ x ∈ a, SpB x) (bb : ∀ x ∈ b, SpB x) : othersL (unionL a b) = commonL (othersL a) (othersL b) := by
  have ca := chosen_others (b := []) ha
  have cb := chosen_others (b := []) hb
  refine rF_ext (rF_others (rF_le (rF_union ha hb))) (rF_common ca.r cb.r) (fun n => ?_)
  rw [hasS_others, hasS_union a b n ba bb, hasS_common _ _ n (bd_of_chosen ca), hasS_others, hasS_others]
  cases inU n <;> cases hasS a n <;> cases hasS b n <;> rfl
theorem common_others {a b : List Sp} (ha : rightS a = true) (hb : rightS b = true) (ba : ∀ x ∈ a, SpB x) : commonL a (othersL b) = withoutL a b := by
  refine rF_ext (rF_common ha (chosen_others (b := []) hb).r) (rF_without _ _ ha (rF_le hb)) (fun n => ?_)
  rw [hasS_common a _ n ba, hasS_others, hasS_without, ← inU_has ba]
  cases inU n <;> cases hasS a n <;> cases hasS b n <;> rfl
theorem others_others {a : List Sp} (ha : rightS a = true) (ba : ∀ x ∈ a, SpB x) : othersL (othersL a) = a := of_right ha ba
theorem nil_of_no {s : List Sp} {lo : Int} (hr : rF lo s = true) (h : ∀ n, hasS s n = false) : s = [] := rF_ext (lo' := lo) hr rfl (fun n => (h n).trans (hasS_nil n).symm)
theorem without_nil {a b : List Sp} (ha : rightS a = true) (hb : rightS b = true) (ba : ∀ x ∈ a, SpB x) (bb : ∀ x ∈ b, SpB x) : withoutL a b = [] ↔ unionL a b = b := by
  constructor
  · intro h
    refine rF_ext (rF_union ha hb) hb (fun n => ?_)
    have := hasS_without n b a
    rw [h, hasS_nil] at this
    rw [hasS_union a b n ba bb]
    revert this
    cases hasS a n <;> cases hasS b n <;> simp
  · intro h
    refine nil_of_no (rF_without _ _ ha (rF_le hb)) (fun n => ?_)
    have := hasS_union a b n ba bb
    rw [h] at this
    rw [hasS_without]
    revert this
    cases hasS a n <;> cases hasS b n <;> simp
theorem common_gap {s : List Sp} {n e : Int} (hs : rightS s = true) (bs : ∀ x ∈ s, SpB x) (h0 : 0 ≤ n) (he : n ≤ e) (hn : ∀ m, n ≤ m → m ≤ e → hasS s m = false) : commonL s [(n, e)] = [] := by
  have hr : rightS [(n, e)] = true := rF_cons.2 ⟨h0, he, rfl⟩
  refine nil_of_no (rF_common hs hr) (fun m => ?_)
  rw [hasS_common _ _ _ bs, hasS_one]
  cases hm : spIn (n, e) m
  · rw [Bool.and_false]
  · have := (spIn_iff _ _).1 hm
    rw [hn m this.1 this.2]; rfl
end Go.Ab
