/- Package span: what Right, wrong and Count return. Package span: what wrong, Count and Next return. -/
import Derived.Test.YtgfkcbflnkpogaaGreatDoorSpPlain2
import Derived.Test.YtgfkcbflnkpogaaGreatDoorRow
import Derived.Test.YtgfkcbflnkpogaaGreatDoorInst
import Derived.Deep.RegionHeld3
import Derived.WalkSpells
set_option linter.unusedSimpArgs false
set_option linter.unusedVariables false
namespace Go.Ab
open Go.RowKit
def spCells (x : Sp) : List Value := [.int .u32 x.1, .int .u32 x.2]
theorem spCells_length (x : Sp) : (spCells x).length = 2 := rfl
abbrev SpRow (w : World) (v : Value) (s : List Sp) : Prop := RowOf spCells 2 w v s
def loAt (s : List Sp) : Nat → Int
  | 0 => 0
  | k + 1 => match s[k]? with | some y => y.2 + 2 | none => 0
theorem loAt_succ {s : List Sp} {k : Nat} {y : Sp} (h : s[k]? = some y) : loAt s (k + 1) = y.2 + 2 := by rw [loAt, h]
theorem right_step {s : List Sp} {k : Nat} {x : Sp} (h : s[k]? = some x) : rF (loAt s k) (s.drop k) = (decide (loAt s k ≤ x.1) && decide (x.1 ≤ x.2) && rF (loAt s (k + 1)) (s.drop (k + 1))) := by
  obtain ⟨hk, he⟩ := List.getElem?_eq_some_iff.1 h
  rw [List.drop_eq_getElem_cons hk, he, rF, loAt_succ h]
theorem right_end {s : List Sp} {k : Nat} (h : s.length ≤ k) : rF (loAt s k) (s.drop k) = true := by rw [List.drop_eq_nil_of_le h]; rfl
/-- The cells of an element of a row. -/
theorem sp_at {w : World} {v : Value} {s : List Sp} (h : SpRow w v s) {p : Option Addr} {n cap : Nat} (hv : v = .slice p n cap) {k : Nat} {x : Sp} (hx : s[k]? = some x) :
    ∃ b o, p = some ⟨b, o, none⟩ ∧ b < w.heap.size ∧ w.cell? ⟨b, o + k * 2, none⟩ = some (.int .u32 x.1) ∧ w.cell? ⟨b, o + k * 2 + 1, none⟩ = some (.int .u32 x.2) := by
  obtain ⟨p', cap', hv', _, hc⟩ := h
  rw [hv] at hv'
  simp only [Value.slice.injEq] at hv'
  obtain ⟨rfl, rfl, rfl⟩ := hv'
  obtain ⟨b, o, hp, hb, hcc⟩ := hc k x hx
  exact ⟨b, o, hp, hb, hcc 0 _ rfl, hcc 1 _ rfl⟩
theorem sp_len {w : World} {v : Value} {s : List Sp} (h : SpRow w v s) : ∃ p cap, v = .slice p s.length cap := by
  obtain ⟨p, cap, hv, _⟩ := h
  exact ⟨p, cap, hv⟩
/-- A number that 64 bits hold, by instance: an equation on a wrapped number in the context costs much. -/
class In64 (n : Int) : Prop where
  h : -9223372036854775808 ≤ n ∧ n ≤ 9223372036854775807
theorem wrapI64 (n : Int) [h : In64 n] : wrap64 n = n := IntWalk.wrap64_in _ h.h
theorem wrapK64 (n : Int) [h : In64 n] : IntKind.i64.wrap n = n := IntWalk.i64_in _ h.h
end Go.Ab
namespace Go.Proofs.YtgfkcbflnkpogaaGreatDoor
open Go.RowKit Go.Ab
attribute [local go_sem high] wrapI64 wrapK64
set_option maxHeartbeats 8000000 in
set_option maxRecDepth 100000 in
theorem spright_any (s : List Sp) (v : Value) (w : World) (hv : SpRow w v s) (hb : ∀ x ∈ s, SpB x) (hl : s.length ≤ 1000000000) : Gives Tryz.prog 23 #[v] w (.bool (rightS s)) := by
  obtain ⟨p, cap, rfl⟩ := sp_len hv
  have hle : s.length ≤ cap := by
    obtain ⟨_, _, he, h, _⟩ := hv
    simp only [Value.slice.injEq, true_and] at he
    rw [he.2]; exact h
  have Hc := Lib.hid (fun k x (h : s[k]? = some x) => sp_at hv rfl h)
  obtain ⟨N, hN⟩ : ∃ N, s.length = N := ⟨_, rfl⟩
  rw [hN] at hle hl ⊢
  have HN := Lib.hid hN
  have Hb := Lib.hid hb
  clear hN hb hv
  unfold Gives
  go_enter Tryz.func23, Tryz.ntmps23
  go_wp2_with fail
  go_loopw [7] (fun i wr => ∃ k : Nat, k ≤ N ∧ i = .int .i64 (k : Int) ∧ Hid (rightS s = rF (loAt s k) (s.drop k)) ∧ ∃ x : Ext w, wr = x.w) (fun i _ => N - (intOf i).toNat)
  case atStart => exact ⟨0, Nat.zero_le _, rfl, rfl, (Up.refl w).mk⟩
  case round =>
    obtain ⟨k, hk, rfl, Hk, x0, rfl⟩ := hrel
    by_cases hlt : k < N
    · have hlt' : (k : Int) < (N : Int) := by omega
      have k0 : (0 : Int) ≤ (k : Int) := by omega
      obtain ⟨x, hx⟩ : ∃ x, s[k]? = some x := ⟨_, List.getElem?_eq_getElem (by rw [HN.out]; exact hlt)⟩
      obtain ⟨b, o, rfl, hbw, c0, c1⟩ := Hc.out k x hx
      haveI : LtSize b w := ⟨hbw⟩
      have xb := Hb.out x (List.mem_of_getElem? hx)
      obtain ⟨xf0, xf1, xt0, xt1⟩ := xb
      have Hs := Lib.hid (right_step hx)
      have Hx := Lib.hid hx
      clear hx
      by_cases hgt : x.2 < x.1
      · have E := Lib.hid (show rightS s = false by rw [Hk.out, Hs.out, decide_eq_false (show ¬ x.1 ≤ x.2 by omega)]; simp)
        have hd : decide (x.2 < x.1) = true := decide_eq_true hgt
        go_wp2_with fail
        (refine wp_region_ext (by kernel_rfl) (by kernel_rfl) ?_; (repeat (go_big_quiet_step (fail))); refine wpQuiet_nil ?_; rintro _ ⟨y, rfl⟩)
        go_wp2_with fail
        go_ret
        exact ⟨ret_bool E.out.symm, mkI⟩
      · have hd : decide (x.2 < x.1) = false := decide_eq_false hgt
        rcases Nat.eq_zero_or_pos k with hk0 | hk0
        · have E := Lib.hid (show rightS s = rF (loAt s (k + 1)) (s.drop (k + 1)) by rw [Hk.out, Hs.out, decide_eq_true (show x.1 ≤ x.2 by omega), decide_eq_true (show loAt s k ≤ x.1 by subst hk0; exact xf0)]; simp)
          have hkz : decide (0 < k) = false := decide_eq_false (by omega)
          clear hk0
          go_wp2_with fail
          (refine wp_region_ext (by kernel_rfl) (by kernel_rfl) ?_; (repeat (go_big_quiet_step (fail))); refine wpQuiet_nil ?_; rintro _ ⟨y, rfl⟩)
          go_wp2_with fail
          go_roundw
          case rel => exact ⟨k + 1, by omega, by go_num, E, mkI⟩
          case measure => simp [intOf]; omega
        · obtain ⟨m, hm⟩ : ∃ m : Nat, k = m + 1 := ⟨k - 1, by omega⟩
          have hkp : (0 : Int) < (k : Int) := by omega
          have hkp' : decide (0 < k) = true := decide_eq_true (by omega)
          have hkm : (k : Int) - 1 = (m : Int) := by omega
          have hm0 : (0 : Int) ≤ (m : Int) := by omega
          have hmN : (m : Int) < (N : Int) := by omega
          obtain ⟨y, hy⟩ : ∃ y, s[m]? = some y := ⟨_, List.getElem?_eq_getElem (by rw [HN.out]; omega)⟩
          obtain ⟨b', o', hp', _, d0, d1⟩ := Hc.out m y hy
          simp only [Option.some.injEq, Addr.mk.injEq, and_true] at hp'
          obtain ⟨rfl, rfl⟩ := hp'
          have yb := Hb.out y (List.mem_of_getElem? hy)
          obtain ⟨yf0, yf1, yt0, yt1⟩ := yb
          haveI : In64 (m : Int) := ⟨by omega⟩
          have EL : Hid (loAt s k = y.2 + 2) := by subst hm; exact loAt_succ hy
          haveI : In64 (y.2 + 2) := ⟨by omega⟩
          clear hy hm
          by_cases hc : x.1 < y.2 + 2
          · have E := Lib.hid (show rightS s = false by rw [Hk.out, Hs.out, EL.out, decide_eq_false (show ¬ y.2 + 2 ≤ x.1 by omega)]; simp)
            have hd2 : decide (x.1 < y.2 + 2) = true := decide_eq_true hc
            go_wp2_with fail
            (refine wp_region_ext (by kernel_rfl) (by kernel_rfl) ?_; (repeat (go_big_quiet_step (fail))); refine wpQuiet_nil ?_; rintro _ ⟨y, rfl⟩)
            go_wp2_with fail
            go_ret
            exact ⟨ret_bool E.out.symm, mkI⟩
          · have E := Lib.hid (show rightS s = rF (loAt s (k + 1)) (s.drop (k + 1)) by rw [Hk.out, Hs.out, EL.out, decide_eq_true (show x.1 ≤ x.2 by omega), decide_eq_true (show y.2 + 2 ≤ x.1 by omega)]; simp)
            have hd2 : decide (x.1 < y.2 + 2) = false := decide_eq_false hc
            go_wp2_with fail
            (refine wp_region_ext (by kernel_rfl) (by kernel_rfl) ?_; (repeat (go_big_quiet_step (fail))); refine wpQuiet_nil ?_; rintro _ ⟨y, rfl⟩)
            go_wp2_with fail
            go_roundw
            case rel => exact ⟨k + 1, by omega, by go_num, E, mkI⟩
            case measure => simp [intOf]; omega
    · obtain rfl : k = N := by omega
      have E := Lib.hid (show rightS s = true by rw [Hk.out]; exact right_end (by rw [HN.out]; exact Nat.le_refl _))
      go_wp2_with fail
      go_ret
      exact ⟨ret_bool E.out.symm, mkI⟩
end Go.Proofs.YtgfkcbflnkpogaaGreatDoor
set_option linter.unusedSimpArgs false
set_option linter.unusedVariables false
namespace Go.Ab
open Go.RowKit
/-- The error of some sets. -/
def wrongLs (ls : List (List Sp)) : Int := if ls.any (fun s => decide (4096 < s.length)) = true then 5 else if ls.all rightS = true then 0 else 2
theorem wrongLs_one (s : List Sp) : wrongLs [s] = wrongL s := by unfold wrongLs wrongL; simp
abbrev VS := Value × List Sp
def vsCells (x : VS) : List Value := [x.1]
theorem vsCells_length (x : VS) : (vsCells x).length = 1 := rfl
theorem take_all_any {α : Type} (p : α → Bool) (l : List α) (h : ∀ (j : Nat) x, j < l.length → l[j]? = some x → p x = false) : l.any p = false := by
  rw [List.any_eq_false]
  intro x hx
  obtain ⟨j, hj⟩ := List.getElem?_of_mem hx
  rw [h j x (List.getElem?_eq_some_iff.1 hj).1 hj]; simp
theorem take_all_all {α : Type} (p : α → Bool) (l : List α) (h : ∀ (j : Nat) x, j < l.length → l[j]? = some x → p x = true) : l.all p = true := by
  rw [List.all_eq_true]
  intro x hx
  obtain ⟨j, hj⟩ := List.getElem?_of_mem hx
  exact h j x (List.getElem?_eq_some_iff.1 hj).1 hj
end Go.Ab
namespace Go.Proofs.YtgfkcbflnkpogaaGreatDoor
open Go.RowKit Go.Ab
attribute [local go_sem high] wrapI64 wrapK64
set_option maxHeartbeats 8000000 in
set_option maxRecDepth 100000 in
theorem spwrong_any (l : List VS) (v : Value) (w : World) (hv : RowOf vsCells 1 w v l) (hr : ∀ x ∈ l, SpRow w x.1 x.2 ∧ (∀ y ∈ x.2, SpB y) ∧ x.2.length ≤ 1000000000) (hl : l.length ≤ 1000000) : Gives Tryz.prog 40 #[v] w (.int .i64 (wrongLs (l.map Prod.snd))) := by
  obtain ⟨p, cap, rfl, hle, hc⟩ := hv
  obtain ⟨N, hN⟩ : ∃ N, l.length = N := ⟨_, rfl⟩
  rw [hN] at hle hl ⊢
  have HN := Lib.hid hN
  have Hc := Lib.hid hc
  have Hr := Lib.hid hr
  clear hN hc hr
  unfold Gives
  go_enter Tryz.func40, Tryz.ntmps40
  go_wp2_with fail
  go_loopw [9] (fun i wr => ∃ k : Nat, k ≤ N ∧ i = .int .i64 (k : Int) ∧ Hid (∀ (j : Nat) x, j < k → l[j]? = some x → ¬ 4096 < x.2.length) ∧ ∃ x : Ext w, wr = x.w) (fun i _ => N - (intOf i).toNat)
  case atStart => exact ⟨0, Nat.zero_le _, rfl, Lib.hid (fun j x hj => absurd hj (Nat.not_lt_zero j)), (Up.refl w).mk⟩
  case round =>
    obtain ⟨k, hk, rfl, Hk, x0, rfl⟩ := hrel
    by_cases hlt : k < N
    · have hlt' : (k : Int) < (N : Int) := by omega
      have k0 : (0 : Int) ≤ (k : Int) := by omega
      obtain ⟨x, hx⟩ : ∃ x, l[k]? = some x := ⟨_, List.getElem?_eq_getElem (by rw [HN.out]; exact hlt)⟩
      obtain ⟨b, o, rfl, hbw, hcc⟩ := Hc.out k x hx
      have c0 := hcc 0 _ rfl
      rw [Nat.add_zero, Nat.mul_one] at c0
      haveI : LtSize b w := ⟨hbw⟩
      obtain ⟨⟨p1, cap1, hp1, _, _⟩, _, hl1⟩ := Hr.out x (List.mem_of_getElem? hx)
      rw [hp1] at c0
      have Hx := Lib.hid hx
      obtain ⟨m, hm⟩ : ∃ m, x.2.length = m := ⟨_, rfl⟩
      rw [hm] at c0 hl1
      have Hm := Lib.hid hm
      clear hcc hx hp1 hm
      by_cases hm : 4096 < m
      · have hd : decide ((4096 : Int) < (m : Int)) = true := decide_eq_true (by omega)
        have hd' : (4096 : Int) < (m : Int) := by omega
        have E := Lib.hid (show wrongLs (l.map Prod.snd) = 5 by unfold wrongLs; rw [if_pos]; rw [List.any_map, List.any_eq_true]; exact ⟨x, List.mem_of_getElem? Hx.out, decide_eq_true (by rw [Hm.out]; exact hm)⟩)
        go_wp2_with fail
        go_ret
        exact ⟨ret_int E.out.symm, mkI⟩
      · have hd : decide ((4096 : Int) < (m : Int)) = false := decide_eq_false (by omega)
        have hd' : (m : Int) ≤ 4096 := by omega
        have E : Hid (∀ (j : Nat) x, j < k + 1 → l[j]? = some x → ¬ 4096 < x.2.length) := Lib.hid (fun j y hj hy => by
          rcases Nat.lt_or_eq_of_le (Nat.le_of_lt_succ hj) with h | h
          · exact Hk.out j y h hy
          · subst h; rw [Hx.out] at hy; cases hy; rw [Hm.out]; exact hm)
        go_wp2_with fail
        go_roundw
        case rel => exact ⟨k + 1, by omega, by go_num, E, mkI⟩
        case measure => simp [intOf]; omega
    · obtain rfl : k = N := by omega
      have E1 := Lib.hid (show (l.map Prod.snd).any (fun s => decide (4096 < s.length)) = false by rw [List.any_map]; exact take_all_any _ _ (fun j x hj hx => decide_eq_false (Hk.out j x (by rw [← HN.out]; exact hj) hx)))
      clear Hk
      go_wp2_with fail
      go_loopw [19] (fun i wr => ∃ m : Nat, m ≤ k ∧ i = .int .i64 (m : Int) ∧ Hid (∀ (j : Nat) x, j < m → l[j]? = some x → rightS x.2 = true) ∧ ∃ x : Ext w, wr = x.w) (fun i _ => k - (intOf i).toNat)
      case atStart => exact ⟨0, Nat.zero_le _, rfl, Lib.hid (fun j x hj => absurd hj (Nat.not_lt_zero j)), mkI⟩
      case round =>
        obtain ⟨m, hm, rfl, Hk, x1, rfl⟩ := hrel
        by_cases hlt : m < k
        · have hlt' : (m : Int) < (k : Int) := by omega
          have m0 : (0 : Int) ≤ (m : Int) := by omega
          obtain ⟨x, hx⟩ : ∃ x, l[m]? = some x := ⟨_, List.getElem?_eq_getElem (by rw [HN.out]; exact hlt)⟩
          obtain ⟨b, o, rfl, hbw, hcc⟩ := Hc.out m x hx
          have c0 := hcc 0 _ rfl
          rw [Nat.add_zero, Nat.mul_one] at c0
          haveI : LtSize b w := ⟨hbw⟩
          obtain ⟨hrow, hb1, hl1⟩ := Hr.out x (List.mem_of_getElem? hx)
          have hR := fun (W : World) (u : UpI w W) => spright_any x.2 x.1 W (hrow.up u.up) hb1 hl1
          have Hx := Lib.hid hx
          clear hcc hx hrow hb1 hl1
          cases hr : rightS x.2
          · rw [hr] at hR
            have E := Lib.hid (show wrongLs (l.map Prod.snd) = 2 by
              unfold wrongLs
              rw [E1.out, if_neg (by simp), if_neg]
              rw [List.all_map, Bool.not_eq_true, List.all_eq_false]
              exact ⟨x, List.mem_of_getElem? Hx.out, by simp [hr]⟩)
            clear hr
            go_wp2_with (go_at_call 23; refine (hR _ inferInstance).mono ?_; clear hR; rintro e w' ⟨rfl, z, rfl⟩)
            go_ret
            exact ⟨ret_int E.out.symm, mkI⟩
          · rw [hr] at hR
            have E : Hid (∀ (j : Nat) x, j < m + 1 → l[j]? = some x → rightS x.2 = true) := Lib.hid (fun j y hj hy => by
              rcases Nat.lt_or_eq_of_le (Nat.le_of_lt_succ hj) with h | h
              · exact Hk.out j y h hy
              · subst h; rw [Hx.out] at hy; cases hy; exact hr)
            clear hr
            go_wp2_with (go_at_call 23; refine (hR _ inferInstance).mono ?_; clear hR; rintro e w' ⟨rfl, z, rfl⟩)
            go_roundw
            case rel => exact ⟨m + 1, by omega, by go_num, E, mkI⟩
            case measure => simp [intOf]; omega
        · obtain rfl : m = k := by omega
          have E := Lib.hid (show wrongLs (l.map Prod.snd) = 0 by
            unfold wrongLs
            rw [E1.out, if_neg (by simp), if_pos]
            rw [List.all_map]
            exact take_all_all _ _ (fun j x hj hx => Hk.out j x (by rw [← HN.out]; exact hj) hx))
          go_wp2_with fail
          go_ret
          exact ⟨ret_int E.out.symm, mkI⟩
end Go.Proofs.YtgfkcbflnkpogaaGreatDoor
