/- The reference's Read of a line, on lists: it reads just what the program reads. -/
import Derived.Test.YtgenojfbhpimgaaGreatDoorRefA
import Derived.Test.YtgenojfbhpimgaaGreatDoorDLine
namespace Go.Ab
open Go.Proofs.YtgenojfbhpimgaaGreatDoor
/-- The rest behind a word, if the list begins with it. -/
def beginsP (w l : List UInt8) : List UInt8 × Bool := if l.take w.length = w then (l.drop w.length, true) else (l, false)
theorem beginsP_app (w r : List UInt8) : beginsP w (w ++ r) = (r, true) := by unfold beginsP; rw [List.take_left' rfl, if_pos rfl, List.drop_left' rfl]
theorem beginsP_yes {w l : List UInt8} (h : (beginsP w l).2 = true) : l = w ++ (beginsP w l).1 := by
  unfold beginsP at h ⊢
  split
  · rename_i h1
    show l = w ++ l.drop w.length
    conv => lhs; rw [← List.take_append_drop w.length l]
    rw [h1]
  · rename_i h1; rw [if_neg h1] at h; cases h
theorem beginsP_no {w l : List UInt8} (h : (beginsP w l).2 = false) : (beginsP w l).1 = l := by
  unfold beginsP at h ⊢
  split
  · rename_i h1; rw [if_pos h1] at h; cases h
  · rfl
def numR (l : List UInt8) : Int × List UInt8 × Bool := match numP 9223372036854775807 (some l) with | (n, some r) => (n, r, true) | (_, none) => (0, l, false)
theorem numR_dec (n : Int) (r : List UInt8) (h0 : 0 ≤ n) (h1 : n ≤ 9223372036854775807) (h : noDig r) : numR (dec n ++ r) = (n, r, true) := by
  unfold numR; rw [(numP_iff _ _ n r).2 ⟨rfl, h0, h1, h⟩]
theorem numR_yes {l : List UInt8} (h : (numR l).2.2 = true) : l = dec (numR l).1 ++ (numR l).2.1 ∧ 0 ≤ (numR l).1 ∧ (numR l).1 ≤ 9223372036854775807 := by
  unfold numR at h ⊢
  cases hn : numP 9223372036854775807 (some l) with
  | mk n o =>
    rw [hn] at h
    cases o with
    | none => cases h
    | some r =>
      have := (numP_iff _ _ n r).1 hn
      exact ⟨this.1, this.2.1, this.2.2.1⟩
theorem numR_bd (l : List UInt8) : 0 ≤ (numR l).1 ∧ (numR l).1 ≤ 9223372036854775807 := by
  cases h : (numR l).2.2 with
  | true => exact (numR_yes h).2
  | false =>
    unfold numR at h ⊢
    cases hn : numP 9223372036854775807 (some l) with
    | mk n o =>
      rw [hn] at h
      cases o with
      | none => exact ⟨Int.le_refl _, by show (0 : Int) ≤ 9223372036854775807; decide⟩
      | some r => cases h
/-- The place of the third space. -/
def spAt : Nat → List UInt8 → Nat
  | _, [] => 0
  | k, c :: t => if c = 32 then (if k = 2 then 0 else spAt (k + 1) t + 1) else spAt k t + 1
theorem spAt_word (k : Nat) : ∀ (w r : List UInt8), (32 : UInt8) ∉ w → spAt k (w ++ 32 :: r) = w.length + (if k = 2 then 0 else spAt (k + 1) r + 1)
  | [], r, _ => by rw [List.nil_append, spAt, if_pos rfl]; simp
  | c :: t, r, h => by
    rw [List.cons_append, spAt, if_neg (fun e => h (by simp [e])), spAt_word k t r (fun hm => h (by simp [hm])), List.length_cons]; omega
theorem spAt_le : ∀ (l : List UInt8) (k : Nat), spAt k l ≤ l.length
  | [], _ => Nat.le_refl _
  | c :: t, k => by
    have h1 := spAt_le t k
    have h2 := spAt_le t (k + 1)
    rw [spAt, List.length_cons]
    split
    · split <;> omega
    · omega
def inR : List UInt8 := [32, 105, 110, 115, 105, 100, 101, 32]
def outR : List UInt8 := [32, 111, 117, 116, 115, 105, 100, 101, 32]
def repR : List UInt8 := [32, 114, 101, 112, 108, 105, 101, 100]
def assR : List UInt8 := [32, 97, 115, 115, 117, 114, 101, 100]
def deadR : List UInt8 := [32, 100, 101, 97, 100, 108, 105, 110, 101, 32]
def seenR : List UInt8 := [32, 115, 101, 101, 110, 32]
theorem inR_eq : inR = 32 :: insideW ++ [32] := rfl
theorem outR_eq : outR = 32 :: outsideW ++ [32] := rfl
theorem repR_eq : repR = 32 :: repliedW := rfl
theorem assR_eq : assR = 32 :: assuredW := rfl
theorem deadR_eq : deadR = 32 :: deadW ++ [32] := rfl
theorem seenR_eq : seenR = 32 :: seenW ++ [32] := rfl
/-- The class found after k of the names. -/
def bestK (rest : List UInt8) : Nat → List UInt8 × Int
  | 0 => ([], 0)
  | k + 1 => if (beginsP (clsOf (k : Int) ++ [32]) rest).2 && decide ((bestK rest k).1.length < (clsOf (k : Int)).length) then (clsOf (k : Int), (k : Int)) else bestK rest k
theorem bestK_yes (rest : List UInt8) : ∀ k, (bestK rest k).1 ≠ [] → ∃ i, i < k ∧ bestK rest k = (clsOf (i : Int), (i : Int)) ∧ (beginsP (clsOf (i : Int) ++ [32]) rest).2 = true
  | 0, h => absurd rfl h
  | k + 1, h => by
    rw [bestK] at h ⊢
    split
    · rename_i hk
      rw [Bool.and_eq_true] at hk
      exact ⟨k, by omega, rfl, hk.1⟩
    · rename_i hk
      rw [if_neg hk] at h
      obtain ⟨i, h1, h2, h3⟩ := bestK_yes rest k h
      exact ⟨i, by omega, h2, h3⟩
theorem bestK_bd (rest : List UInt8) : ∀ k, 0 ≤ (bestK rest k).2 ∧ (bestK rest k).2 ≤ k
  | 0 => ⟨Int.le_refl _, Int.le_refl _⟩
  | k + 1 => by
    have := bestK_bd rest k
    rw [bestK]
    split
    · show (0 : Int) ≤ (k : Int) ∧ (k : Int) ≤ ((k + 1 : Nat) : Int); omega
    · omega
theorem bestK_cls (c : Nat) (hc : c < 9) (r : List UInt8) : bestK (clsOf (c : Int) ++ 32 :: r) 9 = (clsOf (c : Int), (c : Int)) := by
  rcases (by omega : c = 0 ∨ c = 1 ∨ c = 2 ∨ c = 3 ∨ c = 4 ∨ c = 5 ∨ c = 6 ∨ c = 7 ∨ c = 8) with rfl | rfl | rfl | rfl | rfl | rfl | rfl | rfl | rfl <;>
    simp [bestK, beginsP, clsOf, clsL]
def endR (pr s d sp dp sd cl : Int) (rp ss : Bool) (r3 : List UInt8) : Option Ln :=
  let b4 := beginsP deadR r3
  let n5 := numR b4.1
  let b6 := beginsP seenR n5.2.1
  let n7 := numR b6.1
  if b4.2 && n5.2.2 && b6.2 && n7.2.2 && (n7.2.1 == []) then some ⟨pr, s, d, sp, dp, sd, cl, rp, ss, n5.1, n7.1⟩ else none
def midR (k : List UInt8) (sd : Int) (rest : List UInt8) : Option Ln :=
  let best := bestK rest 9
  if best.1 == [] then none else
  let b1 := beginsP repR (rest.drop best.1.length)
  let b2 := beginsP assR b1.1
  if b2.2 && !b1.2 then none else
  endR (kPr k) (kS k) (kD k) (kSp k) (kDp k) sd best.2 b1.2 b2.2 b2.1
def refReadL (s : List UInt8) : Option Ln :=
  let k := s.take (spAt 0 s)
  let s2 := s.drop (spAt 0 s)
  if kvB k then
    (if (beginsP inR s2).2 then midR k 0 (beginsP inR s2).1 else if (beginsP outR s2).2 then midR k 1 (beginsP outR s2).1 else none)
  else none
/-- The text of a right line, part by part. -/
theorem text_flat (l : Ln) (b : LnB l) (h : l.right = true) : l.text = keyTextL l.pr l.s l.d l.sp l.dp ++ (32 :: sideW l.sd ++ 32 :: (clsOf l.cl ++ ((if l.rp then repR else []) ++ ((if l.ss then assR else []) ++ (deadR ++ (dec l.dl ++ (seenR ++ (dec l.sn ++ [])))))))) := by
  rw [ln_text l b h]
  unfold Ln.parts
  rw [key_join]
  cases l.rp <;> cases l.ss <;> simp [Lib.join, repR_eq, assR_eq, deadR_eq, seenR_eq]
theorem endR_some {pr s d sp dp sd cl : Int} {rp ss : Bool} {r3 : List UInt8} {l : Ln} (h : endR pr s d sp dp sd cl rp ss r3 = some l) :
    ∃ n m : Int, l = ⟨pr, s, d, sp, dp, sd, cl, rp, ss, n, m⟩ ∧ r3 = deadR ++ (dec n ++ (seenR ++ (dec m ++ []))) ∧ (0 ≤ n ∧ n ≤ 9223372036854775807) ∧ (0 ≤ m ∧ m ≤ 9223372036854775807) := by
  unfold endR at h
  simp only at h
  split at h
  · rename_i hc
    simp only [Bool.and_eq_true, beq_iff_eq] at hc
    obtain ⟨⟨⟨⟨h4, h5⟩, h6⟩, h7⟩, h8⟩ := hc
    have e4 := beginsP_yes h4
    obtain ⟨e5, a5, c5⟩ := numR_yes h5
    have e6 := beginsP_yes h6
    obtain ⟨e7, a7, c7⟩ := numR_yes h7
    rw [h8] at e7
    cases h
    refine ⟨_, _, rfl, ?_, ⟨a5, c5⟩, ⟨a7, c7⟩⟩
    conv => lhs; rw [e4, e5, e6, e7]
  · cases h
theorem endR_app (pr s d sp dp sd cl n m : Int) (rp ss : Bool) (n0 : 0 ≤ n) (n1 : n ≤ 9223372036854775807) (m0 : 0 ≤ m) (m1 : m ≤ 9223372036854775807) :
    endR pr s d sp dp sd cl rp ss (deadR ++ (dec n ++ (seenR ++ (dec m ++ [])))) = some ⟨pr, s, d, sp, dp, sd, cl, rp, ss, n, m⟩ := by
  have h1 : noDig (seenR ++ (dec m ++ [])) := by simp [noDig, seenR, isDig]
  unfold endR
  simp only [beginsP_app, numR_dec n _ n0 n1 h1, numR_dec m [] m0 m1 trivial]
  rfl
theorem midR_some {k rest : List UInt8} {sd : Int} {l : Ln} (h : midR k sd rest = some l) :
    ∃ (c : Nat) (rp ss : Bool) (n m : Int), c < 9 ∧ l = ⟨kPr k, kS k, kD k, kSp k, kDp k, sd, (c : Int), rp, ss, n, m⟩ ∧ (ss = true → rp = true) ∧ rest = clsOf (c : Int) ++ ((if rp then repR else []) ++ ((if ss then assR else []) ++ (deadR ++ (dec n ++ (seenR ++ (dec m ++ [])))))) ∧ (0 ≤ n ∧ n ≤ 9223372036854775807) ∧ (0 ≤ m ∧ m ≤ 9223372036854775807) := by
  unfold midR at h
  simp only at h
  split at h
  · cases h
  · rename_i hb
    obtain ⟨c, hc, e1, e2⟩ := bestK_yes rest 9 (fun e => hb (by rw [e]; rfl))
    rw [e1] at h
    simp only at h
    split at h
    · cases h
    · rename_i hs
      obtain ⟨n, m, rfl, e3, hn, hm⟩ := endR_some h
      have e4 := beginsP_yes e2
      have e5 : rest.drop (clsOf (c : Int)).length = 32 :: (beginsP (clsOf (c : Int) ++ [32]) rest).1 := by
        conv => lhs; rw [e4, List.append_assoc]
        rw [List.drop_left' rfl]; rfl
      have e6 : rest = clsOf (c : Int) ++ rest.drop (clsOf (c : Int)).length := by
        rw [e5]; conv => lhs; rw [e4]
        simp
      refine ⟨c, _, _, n, m, hc, rfl, ?_, ?_, hn, hm⟩
      · intro h1
        rw [h1] at hs
        simpa using hs
      · conv => lhs; rw [e6]
        congr 1
        generalize rest.drop (clsOf (c : Int)).length = r at *
        cases hp : (beginsP repR r).2 with
        | true =>
          have p1 := beginsP_yes hp
          rw [if_pos rfl]
          conv => lhs; rw [p1]
          congr 1
          generalize (beginsP repR r).1 = r' at *
          cases hq : (beginsP assR r').2 with
          | true => rw [if_pos rfl]; conv => lhs; rw [beginsP_yes hq, e3]
          | false => rw [if_neg (by simp), List.nil_append, ← e3, beginsP_no hq]
        | false =>
          have p1 := beginsP_no hp
          rw [if_neg (by simp), List.nil_append]
          rw [p1] at e3 ⊢
          cases hq : (beginsP assR r).2 with
          | true => rw [if_pos rfl]; conv => lhs; rw [beginsP_yes hq, e3]
          | false => rw [if_neg (by simp), List.nil_append, ← e3, beginsP_no hq]
theorem rep_dead (r : List UInt8) : beginsP repR (deadR ++ r) = (deadR ++ r, false) := by simp [beginsP, repR, deadR]
theorem ass_dead (r : List UInt8) : beginsP assR (deadR ++ r) = (deadR ++ r, false) := by simp [beginsP, assR, deadR]
theorem midR_app (k : List UInt8) (sd n m : Int) (c : Nat) (rp ss : Bool) (hc : c < 9) (hs : ss = true → rp = true) (n0 : 0 ≤ n) (n1 : n ≤ 9223372036854775807) (m0 : 0 ≤ m) (m1 : m ≤ 9223372036854775807) :
    midR k sd (clsOf (c : Int) ++ ((if rp then repR else []) ++ ((if ss then assR else []) ++ (deadR ++ (dec n ++ (seenR ++ (dec m ++ []))))))) = some ⟨kPr k, kS k, kD k, kSp k, kDp k, sd, (c : Int), rp, ss, n, m⟩ := by
  have h32 : ∃ t, ((if rp then repR else []) ++ ((if ss then assR else []) ++ (deadR ++ (dec n ++ (seenR ++ (dec m ++ [])))))) = 32 :: t := by
    cases rp <;> cases ss <;> exact ⟨_, rfl⟩
  obtain ⟨t, ht⟩ := h32
  have hne : (clsOf (c : Int) == []) = false := by
    have := (cls_at (c : Int) (by omega) (by omega)).1
    exact beq_eq_false_iff_ne.2 this
  unfold midR
  simp only
  rw [ht, bestK_cls c hc t]
  simp only [hne, List.drop_left' rfl]
  rw [← ht]
  rw [if_neg (by simp)]
  cases rp <;> cases ss
  · simp only [Bool.false_eq_true, if_false, List.nil_append]
    rw [rep_dead]
    simp only
    rw [ass_dead]
    exact endR_app _ _ _ _ _ _ _ n m _ _ n0 n1 m0 m1
  · exact absurd (hs rfl) (by simp)
  · simp only [Bool.false_eq_true, if_false, if_true, List.nil_append]
    rw [beginsP_app]
    simp only
    rw [ass_dead]
    exact endR_app _ _ _ _ _ _ _ n m _ _ n0 n1 m0 m1
  · simp only [if_true]
    rw [beginsP_app]
    simp only
    rw [beginsP_app]
    exact endR_app _ _ _ _ _ _ _ n m _ _ n0 n1 m0 m1
theorem kText_of {k : List UInt8} (h : kvB k = true) : keyTextL (kPr k) (kS k) (kD k) (kSp k) (kDp k) = k := by
  unfold kvB kText at h; exact beq_iff_eq.1 h
/-- What the reference reads is a right line, and its text. -/
theorem refReadL_some {s : List UInt8} {l : Ln} (h : refReadL s = some l) : LnB l ∧ l.right = true ∧ l.text = s := by
  unfold refReadL at h
  simp only at h
  split at h
  · rename_i hk
    have hkt := kText_of hk
    have hkb := kv_bounds (s.take (spAt 0 s))
    rw [hk] at hkb
    simp only [kv, if_true] at hkb
    have key : ∀ (sd : Int) (R : List UInt8), (sd = 0 ∨ sd = 1) → R = 32 :: sideW sd ++ [32] → (beginsP R (s.drop (spAt 0 s))).2 = true → midR (s.take (spAt 0 s)) sd (beginsP R (s.drop (spAt 0 s))).1 = some l → LnB l ∧ l.right = true ∧ l.text = s := by
      intro sd R hsd hR hb hm
      subst hR
      obtain ⟨c, rp, ss, n, m, hc, rfl, hs, e, hn, hm2⟩ := midR_some hm
      have hbn : LnB ⟨kPr (s.take (spAt 0 s)), kS (s.take (spAt 0 s)), kD (s.take (spAt 0 s)), kSp (s.take (spAt 0 s)), kDp (s.take (spAt 0 s)), sd, (c : Int), rp, ss, n, m⟩ := by
        constructor <;> dsimp only
        · exact hkb
        all_goals (rcases hsd with rfl | rfl <;> omega)
      have hr : (Ln.mk (kPr (s.take (spAt 0 s))) (kS (s.take (spAt 0 s))) (kD (s.take (spAt 0 s))) (kSp (s.take (spAt 0 s))) (kDp (s.take (spAt 0 s))) sd (c : Int) rp ss n m).right = true := by
        unfold Ln.right
        simp only [Bool.and_eq_true, decide_eq_true_eq, Bool.or_eq_true, Bool.not_eq_true']
        refine ⟨⟨⟨⟨by rcases hsd with rfl | rfl <;> omega, by omega⟩, ?_⟩, hn.1⟩, hm2.1⟩
        cases ss with
        | true => exact .inl (hs rfl)
        | false => exact .inr rfl
      refine ⟨hbn, hr, ?_⟩
      rw [text_flat _ hbn hr]
      dsimp only
      rw [hkt, ← e]
      have e2 := beginsP_yes hb
      conv => rhs; rw [← List.take_append_drop (spAt 0 s) s, e2]
      simp
    split at h
    · rename_i hb; exact key 0 inR (.inl rfl) rfl hb h
    · split at h
      · rename_i hb; exact key 1 outR (.inr rfl) rfl hb h
      · cases h
  · cases h
theorem spAt_key (pr s d sp dp : Int) (r0 : 0 ≤ pr) (sp0 : 0 ≤ sp) (dp0 : 0 ≤ dp) (r : List UInt8) : spAt 0 (keyTextL pr s d sp dp ++ 32 :: r) = (keyTextL pr s d sp dp).length := by
  rw [key_join]
  have h1 := dec_digit pr r0 32 (by decide)
  have h2 := port_chars s sp sp0
  have h3 := port_chars d dp dp0
  generalize dec pr = a at *
  generalize textL s ++ [58] ++ dec sp = b at *
  generalize textL d ++ [58] ++ dec dp = c at *
  have e : Lib.join [a, b, c] [32] ++ 32 :: r = a ++ 32 :: (b ++ 32 :: (c ++ 32 :: r)) := by simp [Lib.join]
  rw [e, spAt_word 0 a _ h1, if_neg (by decide), spAt_word 1 b _ h2, if_neg (by decide), spAt_word 2 c _ h3, if_pos rfl]
  simp [Lib.join]
/-- The reference reads the text of a right line. -/
theorem refReadL_text (l : Ln) (b : LnB l) (h : l.right = true) : refReadL l.text = some l := by
  obtain ⟨h1, h2, h3, h4, h5⟩ := lnRight_parts h
  obtain ⟨k1, k2, k3, k4, k5⟩ := readKey_text l.pr l.s l.d l.sp l.dp b.key.r0 b.key.r1 b.key.s0 b.key.s1 b.key.d0 b.key.d1 b.key.sp0 b.key.sp1 b.key.dp0 b.key.dp1
  have hb : kvB (keyTextL l.pr l.s l.d l.sp l.dp) = true := by unfold kvB kText; rw [k1, k2, k3, k4, k5]; simp
  obtain ⟨c, hc⟩ : ∃ c : Nat, l.cl = (c : Int) := ⟨l.cl.toNat, by have := b.cl0; omega⟩
  have hm := fun (sd : Int) => midR_app (keyTextL l.pr l.s l.d l.sp l.dp) sd l.dl l.sn c l.rp l.ss (by omega) h3 h4 b.dl1 h5 b.sn1
  rw [text_flat l b h, hc]
  generalize (clsOf (c : Int) ++ ((if l.rp then repR else []) ++ ((if l.ss then assR else []) ++ (deadR ++ (dec l.dl ++ (seenR ++ (dec l.sn ++ []))))))) = T at *
  have hsp : spAt 0 (keyTextL l.pr l.s l.d l.sp l.dp ++ (32 :: sideW l.sd ++ 32 :: T)) = (keyTextL l.pr l.s l.d l.sp l.dp).length := spAt_key _ _ _ _ _ b.key.r0 b.key.sp0 b.key.dp0 _
  unfold refReadL
  simp only
  rw [hsp, List.take_left' rfl, List.drop_left' rfl, hb, if_pos rfl]
  have hl : l = ⟨kPr (keyTextL l.pr l.s l.d l.sp l.dp), kS (keyTextL l.pr l.s l.d l.sp l.dp), kD (keyTextL l.pr l.s l.d l.sp l.dp), kSp (keyTextL l.pr l.s l.d l.sp l.dp), kDp (keyTextL l.pr l.s l.d l.sp l.dp), l.sd, (c : Int), l.rp, l.ss, l.dl, l.sn⟩ := by
    rw [k1, k2, k3, k4, k5, ← hc]
  have hsd : l.sd = 0 ∨ l.sd = 1 := by have := b.sd0; omega
  rcases hsd with hsd | hsd
  · have e : (32 :: sideW l.sd ++ 32 :: T) = inR ++ T := by rw [hsd]; rfl
    rw [e, beginsP_app, if_pos rfl, hm 0]
    conv => rhs; rw [hl, hsd]
  · have e : (32 :: sideW l.sd ++ 32 :: T) = outR ++ T := by rw [hsd]; rfl
    have e0 : (beginsP inR (outR ++ T)).2 = false := by simp [beginsP, inR, outR]
    rw [e, e0, if_neg (by simp), beginsP_app, if_pos rfl, hm 1]
    conv => rhs; rw [hl, hsd]
/-- The reference and the program read alike. -/
theorem refRead_eq (s : List UInt8) : refReadL s = readLn s := by
  cases h : refReadL s with
  | some l =>
    obtain ⟨h1, h2, h3⟩ := refReadL_some h
    rw [← h3, readLn_text l h1 h2]
  | none =>
    cases h2 : readLn s with
    | none => rfl
    | some l =>
      exfalso
      obtain ⟨h3, h4, _⟩ := readLn_some h2
      rw [← h4, refReadL_text l (readLn_b h2) h3] at h
      cases h
end Go.Ab
