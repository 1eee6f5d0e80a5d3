/- The reference's Cover, walked; two slices of the same prefixes are the same. -/
import Derived.Test.YtdiiicnjbgimmaaGreatDoorRefCover
import Derived.Test.YtdiiicnjbgimmaaGreatDoorStructEq
namespace Go.Proofs.YtdiiicnjbgimmaaGreatDoor
open Go.RowKit Go.Ab
attribute [local go_sem high] eq_prefix eq_key eq_range
/-- A call that returns a slice of its own, of these prefixes. -/
def GivesRow (w : World) (l : List (Int × Int)) (e : Ending) (w' : World) : Prop :=
  ∃ v, e = .returned v ∧ w'.ownsRow w.heap.size 25 2 v l.length (prefixCells l) ∧ ∃ y : Ext w, w' = y.w
theorem owns_one (w : World) (base : Nat) (p : Int × Int) (hb : base ≤ w.heap.size) :
    (w.alloc (.cells #[.int .u32 p.1, .int .u8 p.2] 25)).ownsRow base 25 2 (.slice (some ⟨w.heap.size, 0, none⟩) 1 1) 1 (prefixCells [p]) :=
  ⟨by simp [prefixCells], .inr ⟨w.heap.size, 1, _, rfl, hb, World.alloc_heap_new _ _, by omega, by unfold maxLen; omega, by simp, by simp [prefixCells]⟩⟩
set_option maxHeartbeats 4000000 in
set_option maxRecDepth 100000 in
theorem refCover_rec (a b : Int) (a0 : 0 ≤ a) (a1 : a < 4294967296) (b0 : 0 ≤ b) (b1 : b < 4294967296) : ∀ (f : Nat) (x n : Int) (w : World), f ≤ 32 → 0 ≤ x → x + 2 ^ f ≤ 4294967296 → n + f = 32 →
    Calls Tryz.prog 48 #[.int .i64 a, .int .i64 b, .int .i64 x, .int .u8 n] w (GivesRow w (coverR a b f x)) := by
  obtain ⟨i0, hi, hy0, hy1, hy2⟩ := info_parts infoPrefix
  have Hi := Lib.hid hi; have Hy0 := Lib.hid hy0; have Hy1 := Lib.hid hy1; have Hy2 := Lib.hid hy2
  clear hi hy0 hy1 hy2
  intro f
  induction f with
  | zero =>
    intro x n w hf x0 hx hn
    have hp : (2 : Int) ^ 0 = 1 := by decide
    obtain rfl : n = 32 := by omega
    have hs : sz 32 = 1 := sz_big 32 (by omega)
    have hsz : ∀ w, Gives Tryz.prog 26 #[.int .u8 32] w (.int .i64 1) := fun w => (refSize_any 32 w (by omega) (by omega)).cast (by rw [hs])
    clear hs
    by_cases h : x + 2 ^ 0 - 1 < a ∨ b < x
    · rw [coverR_no h]
      rw [hp] at h
      rcases h with h | h
      · go_enter Tryz.func48, Tryz.ntmps48
        go_wp2_with (go_at_call 26; refine (hsz _).mono ?_; rintro e w' ⟨rfl, y, rfl⟩)
        all_goals first | (exfalso; omega) | (go_ret; exact ⟨_, rfl, World.ownsRow_nil _ _ _ _, mkI⟩)
      · go_enter Tryz.func48, Tryz.ntmps48
        go_wp2_with (go_at_call 26; refine (hsz _).mono ?_; rintro e w' ⟨rfl, y, rfl⟩)
        all_goals first | (exfalso; omega) | (go_ret; exact ⟨_, rfl, World.ownsRow_nil _ _ _ _, mkI⟩)
    · rw [coverR_one h (by omega)]
      rw [hp] at h
      have h1 : a ≤ x := by omega
      have h2 : x ≤ b := by omega
      clear h
      go_enter Tryz.func48, Tryz.ntmps48
      go_wp2_with (go_at_call 26; refine (hsz _).mono ?_; rintro e w' ⟨rfl, y, rfl⟩)
      all_goals first | (exfalso; omega) | skip
      go_ret
      exact ⟨_, rfl, owns_one _ _ (x, 32) (upI : Up w y.w).size, mkI⟩
  | succ f ih =>
    intro x n w hf x0 hx hn
    obtain ⟨H, HH⟩ : ∃ H, Hid (H = (2 : Int) ^ f) := ⟨_, Lib.hid rfl⟩
    have hp := pow_pos f
    have hp2 : (2 : Int) ^ (f + 1) = 2 * 2 ^ f := by rw [Int.pow_succ, Int.mul_comm]
    have hsN : sz n = 2 * H := by rw [HH.out, ← hp2]; unfold sz; congr 1; omega
    have hsz : ∀ w, Gives Tryz.prog 26 #[.int .u8 n] w (.int .i64 (2 * H)) := fun w => (refSize_any n w (by omega) (by omega)).cast (by rw [hsN])
    rw [hp2, ← HH.out] at hx
    rw [← HH.out] at hp
    have n0 : 0 ≤ n := by omega
    have n1 : n < 32 := by omega
    clear hsN
    by_cases h : x + 2 ^ (f + 1) - 1 < a ∨ b < x
    · rw [coverR_no h]
      rw [hp2, ← HH.out] at h
      clear ih hp2 HH hn
      rcases h with h | h
      · go_enter Tryz.func48, Tryz.ntmps48
        go_wp2_with (go_at_call 26; refine (hsz _).mono ?_; rintro e w' ⟨rfl, y, rfl⟩)
        all_goals first | (exfalso; omega) | (go_ret; exact ⟨_, rfl, World.ownsRow_nil _ _ _ _, mkI⟩)
      · go_enter Tryz.func48, Tryz.ntmps48
        go_wp2_with (go_at_call 26; refine (hsz _).mono ?_; rintro e w' ⟨rfl, y, rfl⟩)
        all_goals first | (exfalso; omega) | (go_ret; exact ⟨_, rfl, World.ownsRow_nil _ _ _ _, mkI⟩)
    · by_cases h2 : a ≤ x ∧ x + 2 ^ (f + 1) - 1 ≤ b
      · rw [coverR_one h h2]
        rw [hp2, ← HH.out] at h h2
        have e : 32 - ((f + 1 : Nat) : Int) = n := by omega
        rw [e]
        obtain ⟨h3, h4⟩ := h2
        clear ih hp2 HH hn h e
        go_enter Tryz.func48, Tryz.ntmps48
        go_wp2_with (go_at_call 26; refine (hsz _).mono ?_; rintro e w' ⟨rfl, y, rfl⟩)
        all_goals first | (exfalso; omega) | skip
        go_ret
        exact ⟨_, rfl, owns_one _ _ (x, n) (upI : Up w y.w).size, mkI⟩
      · rw [coverR_two h h2]
        have ih1 := fun w => ih x (n + 1) w (by omega) x0 (by rw [← HH.out]; omega) (by omega)
        have ih2 := fun w => ih (x + H) (n + 1) w (by omega) (by omega) (by rw [← HH.out]; omega) (by omega)
        have g1 := coverR_length a b f x
        have g2 := coverR_length a b f (x + H)
        have g3 : (2 : Nat) ^ f ≤ 2 ^ 31 := Nat.pow_le_pow_right (by decide) (by omega)
        rw [← HH.out]
        generalize coverR a b f x = L1 at *
        generalize coverR a b f (x + H) = L2 at *
        rw [hp2, ← HH.out] at h h2
        have g4 : L1.length ≤ 2147483648 := by simpa using Nat.le_trans g1 g3
        have g5 : L2.length ≤ 2147483648 := by simpa using Nat.le_trans g2 g3
        have hq : (2 * H) / 2 = H := by omega
        clear ih hp2 HH hn g1 g2 g3
        have k1 : a ≤ x + 2 * H - 1 := by omega
        have k2 : x ≤ b := by omega
        clear h
        go_enter Tryz.func48, Tryz.ntmps48
        go_wp2_with (go_at_call 26; refine (hsz _).mono ?_; rintro e w' ⟨rfl, y, rfl⟩)
        all_goals first | (exfalso; omega) | skip
        all_goals
          refine (ih1 _).mono ?_
          rintro e w' ⟨v1, rfl, o1, y1, rfl⟩
          have O1 := Lib.hid o1
          clear o1
          go_wp2_with fail
          refine (ih2 _).mono ?_
          rintro e w' ⟨v2, rfl, o2, y2, rfl⟩
          have o1 := owns_up O1.out y2.up
          have hb1 : w.heap.size ≤ y.w.heap.size := y.up.size
          have O1' := Lib.hid (owns_base o1 hb1)
          have hb2 : w.heap.size ≤ y2.w.heap.size := (upI : Up w y2.w).size
          have O2 := Lib.hid o2
          obtain ⟨hl2, hd2⟩ := o2
          clear O1 o1
          rcases hd2 with ⟨rfl, hz⟩ | ⟨g, cap, cur, rfl, hg, hh, hc1, hc2, hc3, hc4⟩
          · have e2 : L2 = [] := List.eq_nil_of_length_eq_zero hz
            subst e2
            clear hl2 hz
            go_wp2_with (at_builtin; refine wpList_append_own_none rfl _ _ 43 rfl w.heap.size 25 i0 2 Tryz.underlying43 Hi.out _ _ _ rfl O1'.out rfl ?_)
            go_ret
            exact ⟨_, rfl, by rw [List.append_nil]; exact O1'.out, mkI⟩
          · have Hh := Lib.hid hh; have Hl2 := Lib.hid hl2; have Hc4 := Lib.hid hc4
            clear hh hl2 hc4 hc3 Hh Hc4
            go_wp2_with (at_builtin; refine wpList_append_own _ rfl _ _ 43 rfl w.heap.size 25 i0 (.agg #[.int .u32 0, .int .u8 0]) 2 8 Tryz.underlying43 Hi.out Hy0.out Hy1.out Hy2.out rfl (by decide) _ _ _ rfl O1'.out ⟨g, 0, none⟩ L2.length cap (prefixCells L2) rfl Hl2.out ?c1 ?c2 ?c3 ?c4 ?c5 ?_)
            case c1 =>
              intro j u hj
              exact World.ownsRow.cells O2.out rfl j u hj
            case c2 =>
              intro u hu
              simp only [prefixCells, List.mem_flatMap, List.mem_cons, List.not_mem_nil, or_false] at hu
              obtain ⟨p, _, rfl | rfl⟩ := hu <;> rfl
            case c3 => unfold maxLen; omega
            case c4 => omega
            case c5 => exact hb2
            intro v' w1 hown' hgrow _
            have hu1 : Up w w1 := (upI : Up w y2.w).grown hgrow (fun r hr => owns_row O1'.out r hr)
            have Hown' := Lib.hid hown'
            clear hown' hgrow
            go_wp2_with fail
            go_ret
            exact ⟨_, rfl, by rw [List.length_append, show prefixCells (L1 ++ L2) = prefixCells L1 ++ prefixCells L2 by simp [prefixCells]]; exact Hown'.out, hu1.mk⟩
set_option maxHeartbeats 4000000 in
set_option maxRecDepth 100000 in
theorem refCover_no (a b : Int) (w : World) (h : b < a) : Gives Tryz.prog 13 #[.int .u32 a, .int .u32 b] w (.tuple #[.slice none 0 0, .int .i64 2]) := by
  unfold Gives
  go_enter Tryz.func13, Tryz.ntmps13
  go_wp2
  go_ret2
  exact ⟨rfl, mkI⟩
set_option maxHeartbeats 4000000 in
set_option maxRecDepth 100000 in
theorem refCover_yes (a b : Int) (w : World) (a0 : 0 ≤ a) (hab : a ≤ b) (hb : b < 4294967296) :
    Calls Tryz.prog 13 #[.int .u32 a, .int .u32 b] w fun e w' =>
      ∃ v, e = .returned (.tuple #[v, .int .i64 0]) ∧ w'.ownsRow w.heap.size 25 2 v (coverL a b).length (prefixCells (coverL a b)) ∧ ∃ x : Ext w, w' = x.w := by
  have hc := fun w => refCover_rec a b a0 (by omega) (by omega) hb 32 0 0 w (by omega) (by omega) (by decide) (by omega)
  rw [coverR_all a b a0 hab hb] at hc
  generalize coverL a b = L at *
  go_enter Tryz.func13, Tryz.ntmps13
  go_wp2_with fail
  refine (hc _).mono ?_
  rintro e w' ⟨v, rfl, o, y, rfl⟩
  have O := Lib.hid o
  clear o
  go_wp2_with fail
  go_ret2
  exact ⟨v, rfl, O.out, mkI⟩
theorem prefix_at (l : List (Int × Int)) (k : Nat) (p : Int × Int) (h : l[k]? = some p) : (prefixCells l)[k * 2]? = some (.int .u32 p.1) ∧ (prefixCells l)[k * 2 + 1]? = some (.int .u8 p.2) := by
  induction l generalizing k with
  | nil => simp at h
  | cons a t ih =>
    rcases k with _ | k
    · simp at h; subst h; exact ⟨rfl, rfl⟩
    · simp only [List.getElem?_cons_succ] at h
      have := ih k h
      rw [show (k + 1) * 2 = k * 2 + 2 by omega]
      exact this
set_option maxHeartbeats 4000000 in
set_option maxRecDepth 100000 in
theorem same_nil (w : World) : Gives Tryz.prog 18 #[.slice none 0 0, .slice none 0 0] w (.bool true) := by
  unfold Gives
  go_enter Tryz.func18, Tryz.ntmps18
  go_wp2_with fail
  go_loopw [5] (fun i wr => i = .int .i64 0 ∧ wr = w) (fun _ _ => 0)
  case atStart => exact ⟨rfl, rfl⟩
  case round =>
    obtain ⟨rfl, rfl⟩ := hrel
    go_wp2_with fail
    go_ret
    exact ⟨rfl, mkI⟩
set_option maxHeartbeats 4000000 in
set_option maxRecDepth 100000 in
theorem same_rows (l : List (Int × Int)) (n g1 g2 c1 c2 : Nat) (w : World) (hn : l.length = n) (n1 : n ≤ 4294967296) (l1 : g1 < w.heap.size) (l2 : g2 < w.heap.size)
    (h1 : ∀ (j : Nat) u, (prefixCells l)[j]? = some u → w.cell? ⟨g1, j, none⟩ = some u) (h2 : ∀ (j : Nat) u, (prefixCells l)[j]? = some u → w.cell? ⟨g2, j, none⟩ = some u) :
    Gives Tryz.prog 18 #[.slice (some ⟨g1, 0, none⟩) n c1, .slice (some ⟨g2, 0, none⟩) n c2] w (.bool true) := by
  haveI : LtSize g1 w := ⟨l1⟩
  haveI : LtSize g2 w := ⟨l2⟩
  have H1 := Lib.hid h1; have H2 := Lib.hid h2; have Hn := Lib.hid hn
  clear h1 h2 hn l1 l2
  unfold Gives
  go_enter Tryz.func18, Tryz.ntmps18
  go_wp2_with fail
  go_loopw [5] (fun i wr => ∃ k : Nat, k ≤ n ∧ i = .int .i64 (k : Int) ∧ ∃ x : Ext w, wr = x.w) (fun i _ => n - (intOf i).toNat)
  case atStart => exact ⟨0, by omega, rfl, (Up.refl w).mk⟩
  case round =>
    obtain ⟨k, hk, rfl, x, rfl⟩ := hrel
    by_cases hlt : k < n
    · obtain ⟨⟨p, m⟩, hp⟩ : ∃ p, l[k]? = some p := ⟨_, List.getElem?_eq_getElem (by rw [Hn.out]; exact hlt)⟩
      have e1 := H1.out _ _ (prefix_at l k _ hp).1
      have e2 := H1.out _ _ (prefix_at l k _ hp).2
      have e3 := H2.out _ _ (prefix_at l k _ hp).1
      have e4 := H2.out _ _ (prefix_at l k _ hp).2
      clear hp
      go_wp2_with fail
      (refine wp_region_ext (by kernel_rfl) (by kernel_rfl) ?_; (repeat (go_big_quiet_step (fail))); refine wpQuiet_nil ?_; rintro _ ⟨y, rfl⟩)
      go_wp2_with fail
      go_roundw
      case rel => exact ⟨k + 1, by omega, by go_num, mkI⟩
      case measure => simp [intOf]; omega
    · go_wp2_with fail
      go_ret
      exact ⟨rfl, mkI⟩
end Go.Proofs.YtdiiicnjbgimmaaGreatDoor
