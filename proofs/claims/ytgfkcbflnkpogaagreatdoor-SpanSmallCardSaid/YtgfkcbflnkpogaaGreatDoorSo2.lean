/- The reference's cover: it halves where no prefix has just the addresses; the same prefixes as the program's. (For layer 4.) The reference's Prefixes of a set; prefixes compared. -/
import Derived.Test.YtgfkcbflnkpogaaGreatDoorSrd
import Derived.Laws.AppendOwnNone
import Derived.OwnWalk
import Derived.Test.YtgfkcbflnkpogaaGreatDoorStructEq
import Derived.Deep.CutBlock
import Derived.Deep.DeepCutAuto
set_option linter.unusedSimpArgs false
set_option linter.unusedVariables false
namespace Go.Ab
open Go.RowKit
/-- The prefixes of a range within the block of 2^f numbers at a place. -/
def coverR (a b : Int) : Nat → Int → List (Int × Int)
  | 0, x => if x + 2 ^ 0 - 1 < a ∨ b < x then [] else if a ≤ x ∧ x + 2 ^ 0 - 1 ≤ b then [(x, 32 - ((0 : Nat) : Int))] else []
  | f + 1, x => if x + 2 ^ (f + 1) - 1 < a ∨ b < x then [] else if a ≤ x ∧ x + 2 ^ (f + 1) - 1 ≤ b then [(x, 32 - ((f + 1 : Nat) : Int))] else coverR a b f x ++ coverR a b f (x + 2 ^ f)
theorem coverR_no {a b x : Int} {f : Nat} (h : x + 2 ^ f - 1 < a ∨ b < x) : coverR a b f x = [] := by cases f <;> (unfold coverR; rw [if_pos h])
theorem coverR_one {a b x : Int} {f : Nat} (h : ¬ (x + 2 ^ f - 1 < a ∨ b < x)) (h2 : a ≤ x ∧ x + 2 ^ f - 1 ≤ b) : coverR a b f x = [(x, 32 - (f : Int))] := by cases f <;> (unfold coverR; rw [if_neg h, if_pos h2])
theorem coverR_two {a b x : Int} {f : Nat} (h : ¬ (x + 2 ^ (f + 1) - 1 < a ∨ b < x)) (h2 : ¬ (a ≤ x ∧ x + 2 ^ (f + 1) - 1 ≤ b)) : coverR a b (f + 1) x = coverR a b f x ++ coverR a b f (x + 2 ^ f) := by
  rw [coverR]; rw [if_neg h, if_neg h2]
theorem cnFrom_congr {a b b' : Int} : ∀ (f : Nat) (n : Int), (∀ m, n ≤ m → m < n + f → fitsB a b m = fitsB a b' m) → cnFrom a b f n = cnFrom a b' f n
  | 0, _, _ => rfl
  | f + 1, n, h => by
    rw [cnFrom, cnFrom, h n (by omega) (by omega), cnFrom_congr f (n + 1) (fun m h1 h2 => h m (by omega) (by omega))]
theorem coverL_single {a b : Int} (h : a ≤ b) (e : lastOf a b = b) : coverL a b = [(a, cn a b)] := by rw [coverL_step a b h, if_pos e]
/-- A range that is not the whole block is parted at the block's middle. -/
theorem cover_split (x : Int) (f : Nat) (hf : f < 32) (hx : x % 2 ^ (f + 1) = 0) (hi : Int) (h1 : x + 2 ^ f ≤ hi) (h2 : hi ≤ x + 2 ^ (f + 1) - 1) :
    ∀ (k : Nat) (lo : Int), (x + 2 ^ f - lo).toNat ≤ k → x ≤ lo → lo < x + 2 ^ f → ¬ (lo = x ∧ hi = x + 2 ^ (f + 1) - 1) → coverL lo hi = coverL lo (x + 2 ^ f - 1) ++ coverL (x + 2 ^ f) hi
  | 0, lo, hk, h0, hl, _ => by omega
  | k + 1, lo, hk, h0, hl, hw => by
    have hp := pow_pos f
    have hp2 : (2 : Int) ^ (f + 1) = 2 * 2 ^ f := by rw [Int.pow_succ, Int.mul_comm]
    have hm : (x + 2 ^ f) % 2 ^ f = 0 := by
      rw [Int.add_emod_right]; exact emod_zero_dvd hx (pow_dvd (by omega))
    have hfit : ∀ m : Int, 0 ≤ m → m < 32 → fitsB lo hi m = fitsB lo (x + 2 ^ f - 1) m := by
      intro m m0 m1
      obtain ⟨j, hj, hs⟩ := sz_pow m0 (by omega)
      unfold fitsB
      rw [hs]
      by_cases hd : lo % 2 ^ j = 0
      · simp only [hd, beq_self_eq_true, Bool.true_and, decide_eq_decide]
        constructor
        · intro h
          rcases Nat.lt_or_ge f j with hfj | hfj
          · exfalso
            have hd2 : lo % 2 ^ (f + 1) = 0 := emod_zero_dvd hd (pow_dvd (by omega))
            have e : lo = x := by
              rcases Int.lt_or_le x lo with h3 | h3
              · have := dvd_le_mult (pow_pos (f + 1)) hx hd2 h3; omega
              · omega
            have h4 : (2 : Int) ^ (f + 1) ≤ 2 ^ j := Int.le_of_dvd (pow_pos j) (pow_dvd (by omega))
            omega
          · have := dvd_le_mult (b := x + 2 ^ f) (pow_pos j) hd (by exact emod_zero_dvd hm (pow_dvd hfj)) hl
            omega
        · intro h; omega
      · have : (lo % 2 ^ j == 0) = false := by simpa using hd
        rw [this]; simp
    have hcn : cn lo hi = cn lo (x + 2 ^ f - 1) := cnFrom_congr 32 0 (fun m m0 m1 => hfit m m0 (by simpa using m1))
    have hla : lastOf lo hi = lastOf lo (x + 2 ^ f - 1) := by unfold lastOf; rw [hcn]
    have hb := last_bd lo (x + 2 ^ f - 1) (by omega)
    rw [coverL_step lo hi (by omega), coverL_step lo (x + 2 ^ f - 1) (by omega), hcn, hla, if_neg (by omega)]
    split
    · rename_i e
      rw [e, show x + 2 ^ f - 1 + 1 = x + (2 : Int) ^ f by omega]; rfl
    · rename_i e
      rw [List.cons_append, cover_split x f hf hx hi h1 h2 k _ (by omega) (by omega) (by omega) (by omega)]
theorem coverR_eq (a b : Int) : ∀ (f : Nat) (x : Int), f ≤ 32 → x % 2 ^ f = 0 → coverR a b f x = if max a x ≤ min b (x + 2 ^ f - 1) then coverL (max a x) (min b (x + 2 ^ f - 1)) else [] := by
  intro f
  induction f with
  | zero =>
    intro x hf hx
    have hp : (2 : Int) ^ 0 = 1 := by decide
    by_cases h : x + 2 ^ 0 - 1 < a ∨ b < x
    · rw [coverR_no h, if_neg (by omega)]
    · rw [coverR_one h (by omega), if_pos (by omega)]
      have e1 : max a x = x := by omega
      have e2 : min b (x + 2 ^ 0 - 1) = x := by omega
      rw [e1, e2]
      obtain ⟨hft, c0, c1⟩ := cn_spec x x (Int.le_refl x)
      obtain ⟨f1, f2⟩ := fits_parts hft
      have hcn : cn x x = 32 := by
        rcases Int.lt_or_le (cn x x) 32 with h1 | h1
        · have := sz_lt c0 h1 (by omega)
          rw [sz_big 32 (by omega)] at this; omega
        · omega
      have hs := sz_big 32 (by omega)
      rw [coverL_single (Int.le_refl x) (by unfold lastOf; rw [hcn, hs]; omega), hcn]; rfl
  | succ f ih =>
    intro x hf hx
    have hp := pow_pos f
    have hp2 : (2 : Int) ^ (f + 1) = 2 * 2 ^ f := by rw [Int.pow_succ, Int.mul_comm]
    have hx1 : x % 2 ^ f = 0 := emod_zero_dvd hx (pow_dvd (by omega))
    have hx2 : (x + 2 ^ f) % 2 ^ f = 0 := by rw [Int.add_emod_right]; exact hx1
    by_cases h : x + 2 ^ (f + 1) - 1 < a ∨ b < x
    · rw [coverR_no h, if_neg (by omega)]
    · by_cases h2 : a ≤ x ∧ x + 2 ^ (f + 1) - 1 ≤ b
      · rw [coverR_one h h2, if_pos (by omega)]
        have e1 : max a x = x := by omega
        have e2 : min b (x + 2 ^ (f + 1) - 1) = x + 2 ^ (f + 1) - 1 := by omega
        rw [e1, e2]
        have hle : x ≤ x + 2 ^ (f + 1) - 1 := by omega
        have hs : sz (32 - ((f + 1 : Nat) : Int)) = 2 ^ (f + 1) := by unfold sz; congr 1; omega
        have hft : fitsB x (x + 2 ^ (f + 1) - 1) (32 - ((f + 1 : Nat) : Int)) = true := fits_mk (by rw [hs]; exact hx) (by rw [hs]; omega)
        obtain ⟨hft2, c0, c1⟩ := cn_spec x _ hle
        obtain ⟨f1, f2⟩ := fits_parts hft2
        have hcn : cn x (x + 2 ^ (f + 1) - 1) = 32 - ((f + 1 : Nat) : Int) := by
          rcases Int.lt_or_le (cn x (x + 2 ^ (f + 1) - 1)) (32 - ((f + 1 : Nat) : Int)) with h1 | h1
          · have := sz_lt c0 h1 (by omega); rw [hs] at this; omega
          · rcases Int.lt_or_le (32 - ((f + 1 : Nat) : Int)) (cn x (x + 2 ^ (f + 1) - 1)) with h3 | h3
            · have := cn_min x _ _ (by omega) h3; rw [hft] at this; cases this
            · omega
        rw [coverL_single hle (by unfold lastOf; rw [hcn, hs]; omega), hcn]
      · rw [coverR_two h h2, ih x (by omega) hx1, ih (x + 2 ^ f) (by omega) hx2]
        by_cases hA : max a x ≤ min b (x + 2 ^ f - 1)
        · by_cases hB : max a (x + 2 ^ f) ≤ min b (x + 2 ^ f + 2 ^ f - 1)
          · rw [if_pos hA, if_pos hB, if_pos (by omega)]
            have e1 : min b (x + 2 ^ f - 1) = x + 2 ^ f - 1 := by omega
            have e2 : max a (x + 2 ^ f) = x + 2 ^ f := by omega
            have e3 : min b (x + 2 ^ f + 2 ^ f - 1) = min b (x + 2 ^ (f + 1) - 1) := by rw [hp2]; congr 1; omega
            rw [e1, e2, e3]
            exact (cover_split x f (by omega) hx _ (by omega) (by omega) _ _ (Nat.le_refl _) (by omega) (by omega) (by omega)).symm
          · rw [if_pos hA, if_neg hB, if_pos (by omega), List.append_nil]
            congr 1; omega
        · by_cases hB : max a (x + 2 ^ f) ≤ min b (x + 2 ^ f + 2 ^ f - 1)
          · rw [if_neg hA, if_pos hB, if_pos (by omega), List.nil_append]
            congr 1 <;> omega
          · rw [if_neg hA, if_neg hB, if_neg (by omega)]; rfl
theorem coverR_all (a b : Int) (a0 : 0 ≤ a) (h : a ≤ b) (b1 : b < 4294967296) : coverR a b 32 0 = coverL a b := by
  have hp : (2 : Int) ^ 32 = 4294967296 := by decide
  rw [coverR_eq a b 32 0 (by omega) (by simp), if_pos (by rw [hp]; omega)]
  congr 1
  · omega
  · rw [hp]; omega
theorem coverR_length (a b : Int) : ∀ (f : Nat) (x : Int), (coverR a b f x).length ≤ 2 ^ f
  | 0, x => by rw [coverR]; split; · simp
               · split <;> simp
  | f + 1, x => by
    rw [coverR]
    split
    · simp
    · split
      · have := Nat.two_pow_pos (f + 1); simp; omega
      · have h1 := coverR_length a b f x
        have h2 := coverR_length a b f (x + 2 ^ f)
        simp only [List.length_append]; rw [Nat.pow_succ]; omega
end Go.Ab
namespace Go.Proofs.YtgfkcbflnkpogaaGreatDoor
open Go.RowKit Go.Ab
attribute [local go_sem high] eq_prefix
/-- A call that returns a slice of its own, of these prefixes. -/
def GivesRow (w : World) (l : List (Int × Int)) (e : Ending) (w' : World) : Prop :=
  ∃ v, e = .returned v ∧ w'.ownsRow w.heap.size 62 2 v l.length (prefixCells l) ∧ ∃ y : Ext w, w' = y.w
theorem owns_one (w : World) (base : Nat) (p : Int × Int) (hb : base ≤ w.heap.size) :
    (w.alloc (.cells #[.int .u32 p.1, .int .u8 p.2] 62)).ownsRow base 62 2 (.slice (some ⟨w.heap.size, 0, none⟩) 1 1) 1 (prefixCells [p]) :=
  ⟨by simp [prefixCells], .inr ⟨w.heap.size, 1, _, rfl, hb, World.alloc_heap_new _ _, by omega, by unfold maxLen; omega, by simp, by simp [prefixCells]⟩⟩
set_option maxHeartbeats 4000000 in
set_option maxRecDepth 100000 in
theorem refCover_rec (a b : Int) (a0 : 0 ≤ a) (a1 : a < 4294967296) (b0 : 0 ≤ b) (b1 : b < 4294967296) : ∀ (f : Nat) (x n : Int) (w : World), f ≤ 32 → 0 ≤ x → x + 2 ^ f ≤ 4294967296 → n + f = 32 →
    Calls Tryz.prog 129 #[.int .i64 a, .int .i64 b, .int .i64 x, .int .u8 n] w (GivesRow w (coverR a b f x)) := by
  obtain ⟨i0, hi, hy0, hy1, hy2⟩ := info_parts infoPrefix
  have Hi := Lib.hid hi; have Hy0 := Lib.hid hy0; have Hy1 := Lib.hid hy1; have Hy2 := Lib.hid hy2
  clear hi hy0 hy1 hy2
  intro f
  induction f with
  | zero =>
    intro x n w hf x0 hx hn
    have hp : (2 : Int) ^ 0 = 1 := by decide
    obtain rfl : n = 32 := by omega
    have hs : sz 32 = 1 := sz_big 32 (by omega)
    have hsz : ∀ w, Gives Tryz.prog 119 #[.int .u8 32] w (.int .i64 1) := fun w => (refSize_any 32 w (by omega) (by omega)).cast (by rw [hs])
    clear hs
    by_cases h : x + 2 ^ 0 - 1 < a ∨ b < x
    · rw [coverR_no h]
      rw [hp] at h
      rcases h with h | h
      · go_enter Tryz.func129, Tryz.ntmps129
        go_wp2_with (go_at_call 119; refine (hsz _).mono ?_; rintro e w' ⟨rfl, y, rfl⟩)
        all_goals first | (exfalso; omega) | (go_ret; exact ⟨_, rfl, World.ownsRow_nil _ _ _ _, mkI⟩)
      · go_enter Tryz.func129, Tryz.ntmps129
        go_wp2_with (go_at_call 119; refine (hsz _).mono ?_; rintro e w' ⟨rfl, y, rfl⟩)
        all_goals first | (exfalso; omega) | (go_ret; exact ⟨_, rfl, World.ownsRow_nil _ _ _ _, mkI⟩)
    · rw [coverR_one h (by omega)]
      rw [hp] at h
      have h1 : a ≤ x := by omega
      have h2 : x ≤ b := by omega
      clear h
      go_enter Tryz.func129, Tryz.ntmps129
      go_wp2_with (go_at_call 119; refine (hsz _).mono ?_; rintro e w' ⟨rfl, y, rfl⟩)
      all_goals first | (exfalso; omega) | skip
      go_ret
      exact ⟨_, rfl, owns_one _ _ (x, 32) (upI : Up w y.w).size, mkI⟩
  | succ f ih =>
    intro x n w hf x0 hx hn
    obtain ⟨H, HH⟩ : ∃ H, Hid (H = (2 : Int) ^ f) := ⟨_, Lib.hid rfl⟩
    have hp := pow_pos f
    have hp2 : (2 : Int) ^ (f + 1) = 2 * 2 ^ f := by rw [Int.pow_succ, Int.mul_comm]
    have hsN : sz n = 2 * H := by rw [HH.out, ← hp2]; unfold sz; congr 1; omega
    have hsz : ∀ w, Gives Tryz.prog 119 #[.int .u8 n] w (.int .i64 (2 * H)) := fun w => (refSize_any n w (by omega) (by omega)).cast (by rw [hsN])
    rw [hp2, ← HH.out] at hx
    rw [← HH.out] at hp
    have n0 : 0 ≤ n := by omega
    have n1 : n < 32 := by omega
    clear hsN
    by_cases h : x + 2 ^ (f + 1) - 1 < a ∨ b < x
    · rw [coverR_no h]
      rw [hp2, ← HH.out] at h
      clear ih hp2 HH hn
      rcases h with h | h
      · go_enter Tryz.func129, Tryz.ntmps129
        go_wp2_with (go_at_call 119; refine (hsz _).mono ?_; rintro e w' ⟨rfl, y, rfl⟩)
        all_goals first | (exfalso; omega) | (go_ret; exact ⟨_, rfl, World.ownsRow_nil _ _ _ _, mkI⟩)
      · go_enter Tryz.func129, Tryz.ntmps129
        go_wp2_with (go_at_call 119; refine (hsz _).mono ?_; rintro e w' ⟨rfl, y, rfl⟩)
        all_goals first | (exfalso; omega) | (go_ret; exact ⟨_, rfl, World.ownsRow_nil _ _ _ _, mkI⟩)
    · by_cases h2 : a ≤ x ∧ x + 2 ^ (f + 1) - 1 ≤ b
      · rw [coverR_one h h2]
        rw [hp2, ← HH.out] at h h2
        have e : 32 - ((f + 1 : Nat) : Int) = n := by omega
        rw [e]
        obtain ⟨h3, h4⟩ := h2
        clear ih hp2 HH hn h e
        go_enter Tryz.func129, Tryz.ntmps129
        go_wp2_with (go_at_call 119; refine (hsz _).mono ?_; rintro e w' ⟨rfl, y, rfl⟩)
        all_goals first | (exfalso; omega) | skip
        go_ret
        exact ⟨_, rfl, owns_one _ _ (x, n) (upI : Up w y.w).size, mkI⟩
      · rw [coverR_two h h2]
        have ih1 := fun w => ih x (n + 1) w (by omega) x0 (by rw [← HH.out]; omega) (by omega)
        have ih2 := fun w => ih (x + H) (n + 1) w (by omega) (by omega) (by rw [← HH.out]; omega) (by omega)
        have g1 := coverR_length a b f x
        have g2 := coverR_length a b f (x + H)
        have g3 : (2 : Nat) ^ f ≤ 2 ^ 31 := Nat.pow_le_pow_right (by decide) (by omega)
        rw [← HH.out]
        generalize coverR a b f x = L1 at *
        generalize coverR a b f (x + H) = L2 at *
        rw [hp2, ← HH.out] at h h2
        have g4 : L1.length ≤ 2147483648 := by simpa using Nat.le_trans g1 g3
        have g5 : L2.length ≤ 2147483648 := by simpa using Nat.le_trans g2 g3
        have hq : (2 * H) / 2 = H := by omega
        clear ih hp2 HH hn g1 g2 g3
        have k1 : a ≤ x + 2 * H - 1 := by omega
        have k2 : x ≤ b := by omega
        clear h
        go_enter Tryz.func129, Tryz.ntmps129
        go_wp2_with (go_at_call 119; refine (hsz _).mono ?_; rintro e w' ⟨rfl, y, rfl⟩)
        all_goals first | (exfalso; omega) | skip
        all_goals
          refine (ih1 _).mono ?_
          rintro e w' ⟨v1, rfl, o1, y1, rfl⟩
          have O1 := Lib.hid o1
          clear o1
          go_wp2_with fail
          refine (ih2 _).mono ?_
          rintro e w' ⟨v2, rfl, o2, y2, rfl⟩
          have o1 := owns_up O1.out y2.up
          have hb1 : w.heap.size ≤ y.w.heap.size := y.up.size
          have O1' := Lib.hid (owns_base o1 hb1)
          have hb2 : w.heap.size ≤ y2.w.heap.size := (upI : Up w y2.w).size
          have O2 := Lib.hid o2
          obtain ⟨hl2, hd2⟩ := o2
          clear O1 o1
          rcases hd2 with ⟨rfl, hz⟩ | ⟨g, cap, cur, rfl, hg, hh, hc1, hc2, hc3, hc4⟩
          · have e2 : L2 = [] := List.eq_nil_of_length_eq_zero hz
            subst e2
            clear hl2 hz
            go_wp2_with (at_builtin; refine wpList_append_own_none rfl _ _ 42 rfl w.heap.size 62 i0 2 Tryz.underlying42 Hi.out _ _ _ rfl O1'.out rfl ?_)
            go_ret
            exact ⟨_, rfl, by rw [List.append_nil]; exact O1'.out, mkI⟩
          · have Hh := Lib.hid hh; have Hl2 := Lib.hid hl2; have Hc4 := Lib.hid hc4
            clear hh hl2 hc4 hc3 Hh Hc4
            go_wp2_with (at_builtin; refine wpList_append_own _ rfl _ _ 42 rfl w.heap.size 62 i0 (.agg #[.int .u32 0, .int .u8 0]) 2 8 Tryz.underlying42 Hi.out Hy0.out Hy1.out Hy2.out rfl (by decide) _ _ _ rfl O1'.out ⟨g, 0, none⟩ L2.length cap (prefixCells L2) rfl Hl2.out ?c1 ?c2 ?c3 ?c4 ?c5 ?_)
            case c1 =>
              intro j u hj
              exact World.ownsRow.cells O2.out rfl j u hj
            case c2 =>
              intro u hu
              simp only [prefixCells, List.mem_flatMap, List.mem_cons, List.not_mem_nil, or_false] at hu
              obtain ⟨p, _, rfl | rfl⟩ := hu <;> rfl
            case c3 => unfold maxLen; omega
            case c4 => omega
            case c5 => exact hb2
            intro v' w1 hown' hgrow _
            have hu1 : Up w w1 := (upI : Up w y2.w).grown hgrow (fun r hr => owns_row O1'.out r hr)
            have Hown' := Lib.hid hown'
            clear hown' hgrow
            go_wp2_with fail
            go_ret
            exact ⟨_, rfl, by rw [List.length_append, show prefixCells (L1 ++ L2) = prefixCells L1 ++ prefixCells L2 by simp [prefixCells]]; exact Hown'.out, hu1.mk⟩
set_option maxHeartbeats 4000000 in
set_option maxRecDepth 100000 in
theorem refCover_no (a b : Int) (w : World) (h : b < a) : Gives Tryz.prog 98 #[.int .u32 a, .int .u32 b] w (.tuple #[.slice none 0 0, .int .i64 2]) := by
  unfold Gives
  go_enter Tryz.func98, Tryz.ntmps98
  go_wp2
  go_ret2
  exact ⟨rfl, mkI⟩
set_option maxHeartbeats 4000000 in
set_option maxRecDepth 100000 in
theorem refCover_yes (a b : Int) (w : World) (a0 : 0 ≤ a) (hab : a ≤ b) (hb : b < 4294967296) :
    Calls Tryz.prog 98 #[.int .u32 a, .int .u32 b] w fun e w' =>
      ∃ v, e = .returned (.tuple #[v, .int .i64 0]) ∧ w'.ownsRow w.heap.size 62 2 v (coverL a b).length (prefixCells (coverL a b)) ∧ ∃ x : Ext w, w' = x.w := by
  have hc := fun w => refCover_rec a b a0 (by omega) (by omega) hb 32 0 0 w (by omega) (by omega) (by decide) (by omega)
  rw [coverR_all a b a0 hab hb] at hc
  generalize coverL a b = L at *
  go_enter Tryz.func98, Tryz.ntmps98
  go_wp2_with fail
  refine (hc _).mono ?_
  rintro e w' ⟨v, rfl, o, y, rfl⟩
  have O := Lib.hid o
  clear o
  go_wp2_with fail
  go_ret2
  exact ⟨v, rfl, O.out, mkI⟩
theorem prefix_at (l : List (Int × Int)) (k : Nat) (p : Int × Int) (h : l[k]? = some p) : (prefixCells l)[k * 2]? = some (.int .u32 p.1) ∧ (prefixCells l)[k * 2 + 1]? = some (.int .u8 p.2) := by
  induction l generalizing k with
  | nil => simp at h
  | cons a t ih =>
    rcases k with _ | k
    · simp at h; subst h; exact ⟨rfl, rfl⟩
    · simp only [List.getElem?_cons_succ] at h
      have := ih k h
      rw [show (k + 1) * 2 = k * 2 + 2 by omega]
      exact this
set_option maxHeartbeats 4000000 in
set_option maxRecDepth 100000 in
theorem same_nil (w : World) : Gives Tryz.prog 74 #[.slice none 0 0, .slice none 0 0] w (.bool true) := by
  unfold Gives
  go_enter Tryz.func74, Tryz.ntmps74
  go_wp2_with fail
  go_loopw [5] (fun i wr => i = .int .i64 0 ∧ wr = w) (fun _ _ => 0)
  case atStart => exact ⟨rfl, rfl⟩
  case round =>
    obtain ⟨rfl, rfl⟩ := hrel
    go_wp2_with fail
    go_ret
    exact ⟨rfl, mkI⟩
set_option maxHeartbeats 4000000 in
set_option maxRecDepth 100000 in
theorem same_rows (l : List (Int × Int)) (n g1 g2 c1 c2 : Nat) (w : World) (hn : l.length = n) (n1 : n ≤ 4294967296) (l1 : g1 < w.heap.size) (l2 : g2 < w.heap.size)
    (h1 : ∀ (j : Nat) u, (prefixCells l)[j]? = some u → w.cell? ⟨g1, j, none⟩ = some u) (h2 : ∀ (j : Nat) u, (prefixCells l)[j]? = some u → w.cell? ⟨g2, j, none⟩ = some u) :
    Gives Tryz.prog 74 #[.slice (some ⟨g1, 0, none⟩) n c1, .slice (some ⟨g2, 0, none⟩) n c2] w (.bool true) := by
  haveI : LtSize g1 w := ⟨l1⟩
  haveI : LtSize g2 w := ⟨l2⟩
  have H1 := Lib.hid h1; have H2 := Lib.hid h2; have Hn := Lib.hid hn
  clear h1 h2 hn l1 l2
  unfold Gives
  go_enter Tryz.func74, Tryz.ntmps74
  go_wp2_with fail
  go_loopw [5] (fun i wr => ∃ k : Nat, k ≤ n ∧ i = .int .i64 (k : Int) ∧ ∃ x : Ext w, wr = x.w) (fun i _ => n - (intOf i).toNat)
  case atStart => exact ⟨0, by omega, rfl, (Up.refl w).mk⟩
  case round =>
    obtain ⟨k, hk, rfl, x, rfl⟩ := hrel
    by_cases hlt : k < n
    · obtain ⟨⟨p, m⟩, hp⟩ : ∃ p, l[k]? = some p := ⟨_, List.getElem?_eq_getElem (by rw [Hn.out]; exact hlt)⟩
      have e1 := H1.out _ _ (prefix_at l k _ hp).1
      have e2 := H1.out _ _ (prefix_at l k _ hp).2
      have e3 := H2.out _ _ (prefix_at l k _ hp).1
      have e4 := H2.out _ _ (prefix_at l k _ hp).2
      clear hp
      go_wp2_with fail
      (refine wp_region_ext (by kernel_rfl) (by kernel_rfl) ?_; (repeat (go_big_quiet_step (fail))); refine wpQuiet_nil ?_; rintro _ ⟨y, rfl⟩)
      go_wp2_with fail
      go_roundw
      case rel => exact ⟨k + 1, by omega, by go_num, mkI⟩
      case measure => simp [intOf]; omega
    · go_wp2_with fail
      go_ret
      exact ⟨rfl, mkI⟩
end Go.Proofs.YtgfkcbflnkpogaaGreatDoor
set_option linter.unusedSimpArgs false
set_option linter.unusedVariables false
namespace Go.Proofs.YtgfkcbflnkpogaaGreatDoor
open Go.RowKit Go.Ab
attribute [local go_sem high] wrapI64 wrapK64 wrapU32
theorem infoPfx2 : (Tryz.prog.info? 62).map (fun i => (i.zero, i.size, i.bytes)) = some (some (.agg #[.int .u32 0, .int .u8 0]), 2, 8) := by kernel_rfl
set_option maxHeartbeats 16000000 in
set_option maxRecDepth 100000 in
theorem rprefixes_any (s : List Sp) (v : Value) (w : World) (hv : RsRow w v s) (hb : ∀ x ∈ s, SpB x) (hle : ∀ x ∈ s, x.1 ≤ x.2) (hl : s.length ≤ 4096) :
    Calls Tryz.prog 75 #[v] w fun e w' => ∃ u, e = .returned u ∧ Hid (w'.ownsRow w.heap.size 62 2 u (prefixesL s).length ((prefixesL s).flatMap pfCells)) ∧ ∃ x : Ext w, w' = x.w := by
  have Hc := Lib.hid (fun k x (h : s[k]? = some x) (p : Option Addr) (n cap : Nat) (e : v = .slice p n cap) => rs_at hv e h)
  obtain ⟨p, cap, rfl⟩ := rs_len hv
  obtain ⟨N, hN⟩ : ∃ N, s.length = N := ⟨_, rfl⟩
  rw [hN] at hl Hc ⊢
  have HN := Lib.hid hN
  have Hb := Lib.hid hb
  have Hle := Lib.hid hle
  have Hlen := Lib.hid (fun (k : Nat) => prefixesL_len (s := s.take k) (fun x hx => hb x (List.mem_of_mem_take hx)) (fun x hx => hle x (List.mem_of_mem_take hx)))
  obtain ⟨i0, hi, hy0, hy1, hy2⟩ := info_parts infoPfx2
  have Hi := Lib.hid hi; have Hy0 := Lib.hid hy0; have Hy1 := Lib.hid hy1; have Hy2 := Lib.hid hy2
  clear hi hy0 hy1 hy2 hN hb hv hle
  go_enter Tryz.func75, Tryz.ntmps75
  go_wp2_with fail
  go_loopw [3, 4] (fun u i wr => ∃ (k : Nat) (M : List (Int × Int)), k ≤ N ∧ i = .int .i64 (k : Int) ∧ Hid (M = prefixesL (s.take k)) ∧ M.length ≤ k * 62 ∧ Hid (wr.ownsRow w.heap.size 62 2 u M.length (M.flatMap pfCells)) ∧ Up w wr) (fun _ i _ => N - (intOf i).toNat)
  case atStart => exact ⟨0, [], Nat.zero_le _, rfl, Lib.hid rfl, Nat.zero_le _, Lib.hid (World.ownsRow_nil _ _ _ _), Up.refl _⟩
  case round =>
    obtain ⟨k, M, hk, rfl, HM, hMl, Hown, hup⟩ := hrel
    haveI : UpI w wr := ⟨hup⟩
    by_cases hlt : k < N
    · have hlt' : (k : Int) < (N : Int) := by omega
      have k0 : (0 : Int) ≤ (k : Int) := by omega
      obtain ⟨x, hx⟩ : ∃ x, s[k]? = some x := ⟨_, List.getElem?_eq_getElem (by rw [HN.out]; exact hlt)⟩
      obtain ⟨b, o, rfl, hbw, c0, c1⟩ := Hc.out k x hx _ _ _ rfl
      have d0 := hup.cell_some c0
      have d1 := hup.cell_some c1
      haveI : LtSize b wr := ⟨cell_lt' d0⟩
      obtain ⟨xf0, xf1, xt0, xt1⟩ := Hb.out x (List.mem_of_getElem? hx)
      have hxl := Hle.out x (List.mem_of_getElem? hx)
      haveI : InU32 x.1 := ⟨by omega⟩
      haveI : InU32 x.2 := ⟨by omega⟩
      have hcv := fun (W : World) => refCover_yes x.1 x.2 W xf0 hxl xt1
      have HS := Lib.hid (show prefixesL (s.take (k + 1)) = M ++ coverL x.1 x.2 by rw [prefixesL_take hx, HM.out])
      have hln := Hlen.out (k + 1)
      rw [HS.out, List.length_append, List.length_take] at hln
      clear hx Hc Hb Hle Hlen c0 c1
      generalize coverL x.1 x.2 = L at *
      go_upto_region 5 with fail
      go_cut [5] (fun v wx => UpI wr wx ∧ Hid (wx.ownsRow wr.heap.size 62 2 v L.length (L.flatMap pfCells)))
      case first =>
        go_region_with (go_at_call 98; refine Calls.mono (hcv _) ?_; rintro e w' ⟨v9, rfl, o9, x9, rfl⟩)
        all_goals
          go_wp2_with fail
          go_meet
          exact ⟨inferInstance, Lib.hid (by rw [← prefixCells_eq]; exact owns_base o9 (upI : Up wr _).size)⟩
      case rest =>
        obtain ⟨uW, HL⟩ := hcut
        haveI := uW
        haveI : UpI w wc := ⟨hup.trans uW.up⟩
        have hrow : PfRow wc u5 L := RowOf.of_owns (cells := pfCells) (k := 2) pfCells_length HL.out
        go_wp2_with (at_builtin; refine wpList_append_list (cells := pfCells) (k := 2) pfCells_length (fun e u h => pf_one e u h) (by decide) rfl _ _ 42 rfl w.heap.size 62 i0 (.agg #[.int .u32 0, .int .u8 0]) 8 Tryz.underlying42 Hi.out Hy0.out Hy1.out Hy2.out rfl M _ rfl (owns_up Hown.out (upI : Up wr wc)) L _ rfl hrow (by unfold maxLen; omega) (by omega) (upI : Up w wc).size ?_; intro v2 w2 hown2 hgrow2)
        have hup3 : Up w w2 := (upI : Up w wc).grown hgrow2 (owns_row Hown.out)
        have HO2 := Lib.hid hown2
        clear hown2 hgrow2
        go_wp2_with fail
        go_roundw
        case rel => exact ⟨k + 1, M ++ L, by omega, by go_num, Lib.hid HS.out.symm, by rw [List.length_append]; omega, HO2, hup3⟩
        case measure => simp [intOf]; omega
    · obtain rfl : k = N := by omega
      have E := HM.out
      rw [List.take_of_length_le (by rw [HN.out]; exact Nat.le_refl _)] at E
      subst E
      go_wp2_with fail
      go_ret
      exact ⟨_, rfl, Hown, hup.mk⟩
set_option maxHeartbeats 4000000 in
set_option maxRecDepth 100000 in
theorem samep_any (l : List (Int × Int)) (va vb : Value) (b1 b2 : Nat) (w : World) (ra : w.ownsRow b1 62 2 va l.length (l.flatMap pfCells)) (rb : w.ownsRow b2 62 2 vb l.length (l.flatMap pfCells)) (hl : l.length ≤ 1000000) :
    Gives Tryz.prog 74 #[va, vb] w (.bool true) := by
  rcases Nat.eq_zero_or_pos l.length with h0 | h0
  · obtain ⟨pa, ca, rfl⟩ := owns_sliceN ra
    obtain ⟨pb, cb, rfl⟩ := owns_sliceN rb
    rw [h0]
    clear ra rb
    unfold Gives
    go_enter Tryz.func74, Tryz.ntmps74
    go_wp2_with fail
    go_loopw [5] (fun i wr => i = .int .i64 0 ∧ wr = w) (fun _ _ => 0)
    case atStart => exact ⟨rfl, rfl⟩
    case round =>
      obtain ⟨rfl, rfl⟩ := hrel
      go_wp2_with fail
      go_ret
      exact ⟨rfl, mkI⟩
  · obtain ⟨g1, c1, rfl, _, l1, _, h1⟩ := owns_cells ra h0
    obtain ⟨g2, c2, rfl, _, l2, _, h2⟩ := owns_cells rb h0
    rw [← prefixCells_eq] at h1 h2
    exact same_rows l l.length g1 g2 c1 c2 w rfl (by omega) l1 l2 h1 h2
end Go.Proofs.YtgfkcbflnkpogaaGreatDoor
