/- The reference's Count, Has, Next and Write of a set. -/
import Derived.Test.YtgfkcbflnkpogaaGreatDoorSrd
set_option linter.unusedSimpArgs false
set_option linter.unusedVariables false
namespace Go.Ab
open Go.RowKit
/-- The reference's search: one candidate more. -/
def refStep (s : List Sp) (n : Int) (a : Int × Bool) (x : Int) : Int × Bool := if n ≤ x ∧ hasS s x = true ∧ (a.2 = false ∨ x < a.1) then (x, true) else a
/-- The first k candidates: n itself, and the beginnings of the spans. -/
def refN (s : List Sp) (n : Int) : Nat → Int × Bool
  | 0 => (0, false)
  | k + 1 => match k with
    | 0 => refStep s n (0, false) n
    | j + 1 => match s[j]? with
      | some y => refStep s n (refN s n (j + 1)) y.1
      | none => refN s n (j + 1)
structure RefOk (s : List Sp) (n : Int) (P : Int → Prop) (a : Int × Bool) : Prop where
  no : a.2 = false → a.1 = 0 ∧ ∀ x, P x → n ≤ x → hasS s x = false
  yes : a.2 = true → n ≤ a.1 ∧ hasS s a.1 = true ∧ ∀ x, P x → n ≤ x → hasS s x = true → a.1 ≤ x
theorem RefOk.step {s : List Sp} {n : Int} {P : Int → Prop} {a : Int × Bool} (h : RefOk s n P a) (x : Int) : RefOk s n (fun y => P y ∨ y = x) (refStep s n a x) := by
  unfold refStep
  split
  · rename_i hc
    refine ⟨fun e => (by cases e), fun _ => ⟨hc.1, hc.2.1, fun y hy h0 h1 => ?_⟩⟩
    rcases hy with hy | rfl
    · rcases hc.2.2 with e | e
      · have := (h.no e).2 y hy h0; rw [h1] at this; cases this
      · cases ha : a.2
        · have := (h.no ha).2 y hy h0; rw [h1] at this; cases this
        · have := (h.yes ha).2.2 y hy h0 h1; simp only; omega
    · exact Int.le_refl _
  · rename_i hc
    refine ⟨fun e => ⟨(h.no e).1, fun y hy h0 => ?_⟩, fun e => ⟨(h.yes e).1, (h.yes e).2.1, fun y hy h0 h1 => ?_⟩⟩
    · rcases hy with hy | rfl
      · exact (h.no e).2 y hy h0
      · cases hh : hasS s y
        · rfl
        · exact absurd ⟨h0, hh, .inl e⟩ hc
    · rcases hy with hy | rfl
      · exact (h.yes e).2.2 y hy h0 h1
      · by_cases hlt : y < a.1
        · exact absurd ⟨h0, h1, .inr hlt⟩ hc
        · omega
theorem RefOk.mono {s : List Sp} {n : Int} {P Q : Int → Prop} {a : Int × Bool} (h : RefOk s n P a) (k : ∀ x, Q x → P x) : RefOk s n Q a :=
  ⟨fun e => ⟨(h.no e).1, fun x hx => (h.no e).2 x (k x hx)⟩, fun e => ⟨(h.yes e).1, (h.yes e).2.1, fun x hx => (h.yes e).2.2 x (k x hx)⟩⟩
theorem refN_ok (s : List Sp) (n : Int) : ∀ k, k ≤ s.length → RefOk s n (fun x => x = n ∨ ∃ (j : Nat) (y : Sp), j < k ∧ s[j]? = some y ∧ y.1 = x) (refN s n (k + 1))
  | 0, _ => by
    have h0 : RefOk s n (fun _ => False) (0, false) := ⟨fun _ => ⟨rfl, fun _ h => h.elim⟩, fun e => by cases e⟩
    exact (h0.step n).mono (fun x hx => by
      rcases hx with rfl | ⟨j, y, hj, _⟩
      · exact .inr rfl
      · omega)
  | k + 1, hk => by
    obtain ⟨y, hy⟩ : ∃ y, s[k]? = some y := ⟨_, List.getElem?_eq_getElem (by omega)⟩
    have ih := refN_ok s n k (by omega)
    have e : refN s n (k + 1 + 1) = refStep s n (refN s n (k + 1)) y.1 := by rw [refN, hy]
    rw [e]
    exact (ih.step y.1).mono (fun x hx => by
      rcases hx with rfl | ⟨j, z, hj, hz, hx⟩
      · exact .inl (.inl rfl)
      · rcases Nat.lt_or_eq_of_le (Nat.le_of_lt_succ hj) with h | h
        · exact .inl (.inr ⟨j, z, h, hz, hx⟩)
        · subst h; rw [hy] at hz; cases hz; exact .inr hx.symm)
theorem refN_next (s : List Sp) (n : Int) : refN s n (s.length + 1) = nextL s n := by
  have h := refN_ok s n s.length (Nat.le_refl _)
  have cand : ∀ m, n ≤ m → hasS s m = true → ∃ x, (x = n ∨ ∃ (j : Nat) (y : Sp), j < s.length ∧ s[j]? = some y ∧ y.1 = x) ∧ n ≤ x ∧ x ≤ m ∧ hasS s x = true := fun m h0 hm => by
    obtain ⟨y, hy, y1, y2⟩ := hasS_iff.1 hm
    by_cases hlt : y.1 < n
    · exact ⟨n, .inl rfl, Int.le_refl _, h0, hasS_mem hy (by omega) (by omega)⟩
    · obtain ⟨j, hj⟩ := List.getElem?_of_mem hy
      exact ⟨y.1, .inr ⟨j, y, (List.getElem?_eq_some_iff.1 hj).1, hj, rfl⟩, by omega, y1, hasS_mem hy (Int.le_refl _) (by omega)⟩
  refine NextOk.eq ⟨fun e => ⟨(h.no e).1, fun m h0 => ?_⟩, fun e => ⟨(h.yes e).1, (h.yes e).2.1, fun m h0 h1 => ?_⟩⟩ (nextL_ok s n)
  · cases hm : hasS s m
    · rfl
    · obtain ⟨x, hx, x0, _, x1⟩ := cand m h0 hm
      have := (h.no e).2 x hx x0; rw [x1] at this; cases this
  · cases hm : hasS s m
    · rfl
    · obtain ⟨x, hx, x0, xm, x1⟩ := cand m h0 hm
      have := (h.yes e).2.2 x hx x0 x1; omega
theorem hasS_take {s : List Sp} {k : Nat} {x : Sp} (n : Int) (h : s[k]? = some x) : hasS (s.take (k + 1)) n = (hasS (s.take k) n || spIn x n) := by
  rw [List.take_add_one, h, hasS_app]; simp [hasS_one]
theorem textS_take {s : List Sp} {k : Nat} {x : Sp} (h : s[k]? = some x) : textS (s.take (k + 1)) = textS (s.take k) ++ (if 0 < k then [44] else []) ++ spanT x := by
  have hk : k < s.length := (List.getElem?_eq_some_iff.1 h).1
  rw [List.take_add_one, h]
  by_cases h0 : k = 0
  · subst h0; simp [textS, Lib.join]
  · rw [if_pos (by omega)]
    have hne : s.take k ≠ [] := fun e => by have := congrArg List.length e; rw [List.length_take, List.length_nil] at this; omega
    rw [show (some x).toList = [x] from rfl, textS_app _ _ hne]
    simp [Lib.joinTail]
end Go.Ab
namespace Go.Proofs.YtgfkcbflnkpogaaGreatDoor
open Go.RowKit Go.Ab
attribute [local go_sem high] wrapI64 wrapK64
set_option maxHeartbeats 16000000 in
set_option maxRecDepth 100000 in
theorem rcount_any (s : List Sp) (v : Value) (w : World) (hv : RsRow w v s) (hb : ∀ x ∈ s, SpB x) (hr : rightS s = true) (hl : s.length ≤ 1000000) : Gives Tryz.prog 71 #[v] w (.int .i64 (countL s)) := by
  have Hc := Lib.hid (fun k x (h : s[k]? = some x) (p : Option Addr) (n cap : Nat) (e : v = .slice p n cap) => rs_at hv e h)
  obtain ⟨p, cap, rfl⟩ := rs_len hv
  obtain ⟨N, hN⟩ : ∃ N, s.length = N := ⟨_, rfl⟩
  rw [hN] at hl Hc ⊢
  have HN := Lib.hid hN
  have Hb := Lib.hid hb
  have Hbd := Lib.hid (countL_bd s hb (rF_le hr))
  clear hN hb hr hv
  unfold Gives
  go_enter Tryz.func71, Tryz.ntmps71
  go_wp2_with fail
  go_loopw [3, 4] (fun c i wr => ∃ (k : Nat) (C : Int), k ≤ N ∧ i = .int .i64 (k : Int) ∧ c = .int .i64 C ∧ Hid (C = countL (s.take k)) ∧ ∃ x : Ext w, wr = x.w) (fun _ i _ => N - (intOf i).toNat)
  case atStart => exact ⟨0, 0, Nat.zero_le _, rfl, rfl, Lib.hid rfl, mkI⟩
  case round =>
    obtain ⟨k, C, hk, rfl, rfl, HC, x0, rfl⟩ := hrel
    by_cases hlt : k < N
    · have hlt' : (k : Int) < (N : Int) := by omega
      have k0 : (0 : Int) ≤ (k : Int) := by omega
      obtain ⟨x, hx⟩ : ∃ x, s[k]? = some x := ⟨_, List.getElem?_eq_getElem (by rw [HN.out]; exact hlt)⟩
      obtain ⟨b, o, rfl, hbw, c0, c1⟩ := Hc.out k x hx _ _ _ rfl
      haveI : LtSize b w := ⟨hbw⟩
      obtain ⟨xf0, xf1, xt0, xt1⟩ := Hb.out x (List.mem_of_getElem? hx)
      have hbd := Hbd.out k
      rw [← HC.out] at hbd
      have HS := Lib.hid (show countL (s.take (k + 1)) = C + x.2 - x.1 + 1 by rw [countL_take hx, ← HC.out]; omega)
      haveI : In64 (C + x.2) := ⟨by omega⟩
      haveI : In64 (C + x.2 - x.1) := ⟨by omega⟩
      haveI : In64 (C + x.2 - x.1 + 1) := ⟨by omega⟩
      clear hx Hc Hb Hbd
      go_wp2_with fail
      (refine wp_region_ext (by kernel_rfl) (by kernel_rfl) ?_; (repeat (go_big_quiet_step (fail))); refine wpQuiet_nil ?_; rintro _ ⟨y, rfl⟩)
      go_wp2_with fail
      go_roundw
      case rel => exact ⟨k + 1, C + x.2 - x.1 + 1, by omega, by go_num, rfl, Lib.hid HS.out.symm, mkI⟩
      case measure => simp [intOf] <;> omega
    · obtain rfl : k = N := by omega
      have E := HC.out
      rw [List.take_of_length_le (by rw [HN.out]; exact Nat.le_refl _)] at E
      have EE := Lib.hid E
      clear E HC
      go_wp2_with fail
      go_ret
      exact ⟨ret_int EE.out, mkI⟩
set_option maxHeartbeats 16000000 in
set_option maxRecDepth 100000 in
theorem rhas_any (s : List Sp) (v : Value) (m : Int) (w : World) (hv : RsRow w v s) (hb : ∀ x ∈ s, SpB x) (hl : s.length ≤ 1000000) : Gives Tryz.prog 70 #[v, .int .i64 m] w (.bool (hasS s m)) := by
  have Hc := Lib.hid (fun k x (h : s[k]? = some x) (p : Option Addr) (n cap : Nat) (e : v = .slice p n cap) => rs_at hv e h)
  obtain ⟨p, cap, rfl⟩ := rs_len hv
  obtain ⟨N, hN⟩ : ∃ N, s.length = N := ⟨_, rfl⟩
  rw [hN] at hl Hc ⊢
  have HN := Lib.hid hN
  have Hb := Lib.hid hb
  clear hN hb hv
  unfold Gives
  go_enter Tryz.func70, Tryz.ntmps70
  go_wp2_with fail
  go_loopw [5] (fun i wr => ∃ (k : Nat), k ≤ N ∧ i = .int .i64 (k : Int) ∧ Hid (hasS (s.take k) m = false) ∧ ∃ x : Ext w, wr = x.w) (fun i _ => N - (intOf i).toNat)
  case atStart => exact ⟨0, Nat.zero_le _, rfl, Lib.hid rfl, mkI⟩
  case round =>
    obtain ⟨k, hk, rfl, HC, x0, rfl⟩ := hrel
    by_cases hlt : k < N
    · have hlt' : (k : Int) < (N : Int) := by omega
      have k0 : (0 : Int) ≤ (k : Int) := by omega
      obtain ⟨x, hx⟩ : ∃ x, s[k]? = some x := ⟨_, List.getElem?_eq_getElem (by rw [HN.out]; exact hlt)⟩
      obtain ⟨b, o, rfl, hbw, c0, c1⟩ := Hc.out k x hx _ _ _ rfl
      haveI : LtSize b w := ⟨hbw⟩
      obtain ⟨xf0, xf1, xt0, xt1⟩ := Hb.out x (List.mem_of_getElem? hx)
      have HS := Lib.hid (hasS_take m hx)
      have Hx := Lib.hid hx
      clear hx Hc Hb
      by_cases h1 : x.1 ≤ m
      · have d1 : decide (x.1 ≤ m) = true := decide_eq_true h1
        by_cases h2 : m ≤ x.2
        · have d2 : decide (m ≤ x.2) = true := decide_eq_true h2
          have E := Lib.hid (hasS_mem (List.mem_of_getElem? Hx.out) h1 h2)
          go_wp2_with fail
          go_ret
          exact ⟨ret_bool E.out.symm, mkI⟩
        · have d2 : decide (m ≤ x.2) = false := decide_eq_false h2
          go_wp2_with fail
          go_roundw
          case rel => exact ⟨k + 1, by omega, by go_num, Lib.hid (by rw [HS.out, HC.out, spIn_no (by omega)]; rfl), mkI⟩
          case measure => simp [intOf] <;> omega
      · have d1 : decide (x.1 ≤ m) = false := decide_eq_false h1
        go_wp2_with fail
        go_roundw
        case rel => exact ⟨k + 1, by omega, by go_num, Lib.hid (by rw [HS.out, HC.out, spIn_no (by omega)]; rfl), mkI⟩
        case measure => simp [intOf] <;> omega
    · obtain rfl : k = N := by omega
      have E := HC.out
      rw [List.take_of_length_le (by rw [HN.out]; exact Nat.le_refl _)] at E
      have EE := Lib.hid E
      clear E HC
      go_wp2_with fail
      go_ret
      exact ⟨ret_bool EE.out.symm, mkI⟩
set_option maxHeartbeats 16000000 in
set_option maxRecDepth 100000 in
theorem rnext_any (s : List Sp) (v : Value) (m : Int) (w : World) (hv : RsRow w v s) (hb : ∀ x ∈ s, SpB x) (m0 : 0 ≤ m) (m1 : m < 4294967296) (hl : s.length ≤ 1000000) : Gives Tryz.prog 68 #[v, .int .i64 m] w (.tuple #[.int .i64 (nextL s m).1, .bool (nextL s m).2]) := by
  have Hc := Lib.hid (fun k x (h : s[k]? = some x) (p : Option Addr) (n cap : Nat) (e : v = .slice p n cap) => rs_at hv e h)
  have ch := Lib.hid (fun (z : Int) (W : World) (u : UpI w W) => rhas_any s v z W (hv.up u.up) hb hl)
  obtain ⟨p, cap, rfl⟩ := rs_len hv
  obtain ⟨N, hN⟩ : ∃ N, s.length = N := ⟨_, rfl⟩
  rw [hN] at hl Hc ch ⊢
  have HN := Lib.hid hN
  have Hb := Lib.hid hb
  have HE := Lib.hid (refN_next s m)
  rw [hN] at HE
  clear hN hb hv
  unfold Gives
  go_enter Tryz.func68, Tryz.ntmps68
  go_wp2_with fail
  go_loopw [6, 7, 8] (fun bst sm i wr => ∃ (k : Nat) (B : Int) (q : Bool) (ki : Int), k ≤ N + 1 ∧ i = .int .i64 ki ∧ ki + 1 = (k : Int) ∧ bst = .int .i64 B ∧ sm = .bool q ∧ Hid ((B, q) = refN s m k) ∧ ∃ x : Ext w, wr = x.w) (fun _ _ i _ => N + 1 - (intOf i + 1).toNat)
  case atStart => exact ⟨0, 0, false, -1, Nat.zero_le _, rfl, rfl, rfl, rfl, Lib.hid rfl, mkI⟩
  case round =>
    obtain ⟨k, B, q, ki, hk, rfl, hki, rfl, rfl, HB, x0, rfl⟩ := hrel
    haveI : In64 (ki + 1) := ⟨by omega⟩
    by_cases hlt : ki < (N : Int)
    · rcases Nat.eq_zero_or_pos k with hk0 | hk0
      · have hk1 : ki = -1 := by omega
        subst hk1
        have e0 : B = 0 ∧ q = false := by have := HB.out; rw [hk0] at this; simpa [refN] using this
        obtain ⟨rfl, rfl⟩ := e0
        obtain ⟨h, hh⟩ : ∃ h, hasS s m = h := ⟨_, rfl⟩
        have c := fun (W : World) (u : UpI w W) => (ch.out m W u).cast (v := .bool h) (by rw [hh])
        have HS := Lib.hid (show refN s m 1 = refStep s m (0, false) m from rfl)
        have dm : decide (m ≤ m) = true := decide_eq_true (Int.le_refl _)
        have Hh := Lib.hid hh
        have N0 : (-1 : Int) < (N : Int) := by omega
        clear hh HB hk0 hki hlt
        cases h
        · have E := Lib.hid (show ((0 : Int), false) = refN s m 1 by rw [HS.out]; unfold refStep; rw [if_neg (by rw [Hh.out]; simp)])
          go_wp2_with (go_at_call 70; (with_reducible refine (c _ inferInstance).mono ?_); clear c; rintro e w' ⟨rfl, x1, rfl⟩)
          go_roundw
          case rel => exact ⟨1, 0, false, 0, by omega, by go_num, rfl, rfl, rfl, E, mkI⟩
          case measure => simp [intOf] <;> omega
        · have E := Lib.hid (show (m, true) = refN s m 1 by rw [HS.out]; unfold refStep; rw [if_pos ⟨Int.le_refl _, Hh.out, .inl rfl⟩])
          go_wp2_with (go_at_call 70; (with_reducible refine (c _ inferInstance).mono ?_); clear c; rintro e w' ⟨rfl, x1, rfl⟩)
          go_roundw
          case rel => exact ⟨1, m, true, 0, by omega, by go_num, rfl, rfl, rfl, E, mkI⟩
          case measure => simp [intOf] <;> omega
      · obtain ⟨j, rfl⟩ : ∃ j, k = j + 1 := ⟨k - 1, by omega⟩
        have hk1 : ki = (j : Int) := by omega
        subst hk1
        have j0 : (0 : Int) ≤ (j : Int) := by omega
        obtain ⟨x, hx⟩ : ∃ x, s[j]? = some x := ⟨_, List.getElem?_eq_getElem (by rw [HN.out]; omega)⟩
        obtain ⟨b, o, rfl, hbw, c0, c1⟩ := Hc.out j x hx _ _ _ rfl
        haveI : LtSize b w := ⟨hbw⟩
        have HS := Lib.hid (show refN s m (j + 1 + 1) = refStep s m (B, q) x.1 by rw [refN, hx, HB.out])
        obtain ⟨h, hh⟩ : ∃ h, hasS s x.1 = h := ⟨_, rfl⟩
        have c := fun (W : World) (u : UpI w W) => (ch.out x.1 W u).cast (v := .bool h) (by rw [hh])
        have Hh := Lib.hid hh
        clear hh HB hk0 hki hx
        by_cases h1 : m ≤ x.1
        · have d1 : decide (m ≤ x.1) = true := decide_eq_true h1
          cases h
          · have E := Lib.hid (show (B, q) = refN s m (j + 1 + 1) by rw [HS.out]; unfold refStep; rw [if_neg (by rw [Hh.out]; simp)])
            go_wp2_with (go_at_call 70; (with_reducible refine (c _ inferInstance).mono ?_); clear c; rintro e w' ⟨rfl, x1, rfl⟩)
            go_roundw
            case rel => exact ⟨j + 1 + 1, B, q, (j : Int) + 1, by omega, by go_num, by omega, rfl, rfl, E, mkI⟩
            case measure => simp [intOf] <;> omega
          · cases q
            · have E := Lib.hid (show (x.1, true) = refN s m (j + 1 + 1) by rw [HS.out]; unfold refStep; rw [if_pos ⟨h1, Hh.out, .inl rfl⟩])
              go_wp2_with (go_at_call 70; (with_reducible refine (c _ inferInstance).mono ?_); clear c; rintro e w' ⟨rfl, x1, rfl⟩)
              go_roundw
              case rel => exact ⟨j + 1 + 1, x.1, true, (j : Int) + 1, by omega, by go_num, by omega, rfl, rfl, E, mkI⟩
              case measure => simp [intOf] <;> omega
            · by_cases h2 : x.1 < B
              · have d2 : decide (x.1 < B) = true := decide_eq_true h2
                have E := Lib.hid (show (x.1, true) = refN s m (j + 1 + 1) by rw [HS.out]; unfold refStep; rw [if_pos ⟨h1, Hh.out, .inr h2⟩])
                go_wp2_with (go_at_call 70; (with_reducible refine (c _ inferInstance).mono ?_); clear c; rintro e w' ⟨rfl, x1, rfl⟩)
                go_roundw
                case rel => exact ⟨j + 1 + 1, x.1, true, (j : Int) + 1, by omega, by go_num, by omega, rfl, rfl, E, mkI⟩
                case measure => simp [intOf] <;> omega
              · have d2 : decide (x.1 < B) = false := decide_eq_false h2
                have E := Lib.hid (show (B, true) = refN s m (j + 1 + 1) by rw [HS.out]; unfold refStep; rw [if_neg (fun hc => by rcases hc.2.2 with e | e; cases e; exact h2 e)])
                go_wp2_with (go_at_call 70; (with_reducible refine (c _ inferInstance).mono ?_); clear c; rintro e w' ⟨rfl, x1, rfl⟩)
                go_roundw
                case rel => exact ⟨j + 1 + 1, B, true, (j : Int) + 1, by omega, by go_num, by omega, rfl, rfl, E, mkI⟩
                case measure => simp [intOf] <;> omega
        · have d1 : decide (m ≤ x.1) = false := decide_eq_false h1
          have E := Lib.hid (show (B, q) = refN s m (j + 1 + 1) by rw [HS.out]; unfold refStep; rw [if_neg (fun hc => h1 hc.1)])
          go_wp2_with fail
          go_roundw
          case rel => exact ⟨j + 1 + 1, B, q, (j : Int) + 1, by omega, by go_num, by omega, rfl, rfl, E, mkI⟩
          case measure => simp [intOf] <;> omega
    · have hkN : k = N + 1 := by omega
      have E := Lib.hid (show nextL s m = (B, q) by rw [HB.out, hkN, HE.out])
      clear HB HE
      go_wp2_with fail
      go_ret2
      exact ⟨by rw [E.out]; rfl, mkI⟩
set_option maxHeartbeats 16000000 in
set_option maxRecDepth 100000 in
theorem rwrite_any (s : List Sp) (v : Value) (w : World) (hv : RsRow w v s) (hb : ∀ x ∈ s, SpB x) (hle : ∀ x ∈ s, x.1 ≤ x.2) (hl : s.length ≤ 1000000) : Gives Tryz.prog 72 #[v] w (.string ⟨(textS s).toArray⟩) := by
  have Hc := Lib.hid (fun k x (h : s[k]? = some x) (p : Option Addr) (n cap : Nat) (e : v = .slice p n cap) => rs_at hv e h)
  obtain ⟨p, cap, rfl⟩ := rs_len hv
  obtain ⟨N, hN⟩ : ∃ N, s.length = N := ⟨_, rfl⟩
  rw [hN] at hl Hc ⊢
  have HN := Lib.hid hN
  have Hb := Lib.hid hb
  have Hle := Lib.hid hle
  clear hN hb hv hle
  unfold Gives
  go_enter Tryz.func72, Tryz.ntmps72
  go_wp2_with fail
  go_loopw [3, 4] (fun c i wr => ∃ (k : Nat) (T : ByteArray), k ≤ N ∧ i = .int .i64 (k : Int) ∧ c = .string T ∧ Hid (T = ⟨(textS (s.take k)).toArray⟩) ∧ ∃ x : Ext w, wr = x.w) (fun _ i _ => N - (intOf i).toNat)
  case atStart => exact ⟨0, ⟨#[]⟩, Nat.zero_le _, rfl, rfl, Lib.hid rfl, mkI⟩
  case round =>
    obtain ⟨k, T, hk, rfl, rfl, HC, x0, rfl⟩ := hrel
    by_cases hlt : k < N
    · have hlt' : (k : Int) < (N : Int) := by omega
      have k0 : (0 : Int) ≤ (k : Int) := by omega
      obtain ⟨x, hx⟩ : ∃ x, s[k]? = some x := ⟨_, List.getElem?_eq_getElem (by rw [HN.out]; exact hlt)⟩
      obtain ⟨b, o, rfl, hbw, c0, c1⟩ := Hc.out k x hx _ _ _ rfl
      haveI : LtSize b w := ⟨hbw⟩
      obtain ⟨xf0, xf1, xt0, xt1⟩ := Hb.out x (List.mem_of_getElem? hx)
      have HS := Lib.hid (textS_take hx)
      have hxl := Hle.out x (List.mem_of_getElem? hx)
      have cd1 := fun (W : World) => refDecimal_any x.1 W xf0 (by omega)
      have cd2 := fun (W : World) => refDecimal_any x.2 W xt0 (by omega)
      have l1 := dec_length x.1 (by omega) (by omega)
      have l2 := dec_length x.2 (by omega) (by omega)
      have hT : T.size ≤ 44000000 := by
        rw [HC.out]
        have := textS_length (s.take k) (fun y hy => Hb.out y (List.mem_of_mem_take hy))
        rw [List.length_take] at this
        show (textS (s.take k)).toArray.size ≤ _
        rw [List.size_toArray]
        omega
      clear hx Hc Hb Hle
      by_cases hk0 : k = 0
      · have hz : ¬ (0 : Int) < (k : Int) := by omega
        have HE := Lib.hid (show textS (s.take (k + 1)) = textS (s.take k) ++ spanT x by rw [HS.out, if_neg (by omega), List.append_nil])
        clear hk0
        by_cases hxx : x.1 < x.2
        · have hd : decide (x.1 < x.2) = true := decide_eq_true hxx
          have HF := Lib.hid (show spanT x = dec x.1 ++ 45 :: dec x.2 by unfold spanT; rw [if_pos hxx])
          go_wp2_with (first
            | (go_at_call 97; (with_reducible refine (cd1 _).mono ?_); clear cd1; rintro e w' ⟨rfl, x1, rfl⟩))
          (refine wp_region_ext (by kernel_rfl) (by kernel_rfl) ?_; (repeat (go_big_quiet_step (fail))); refine wpQuiet_nil ?_; rintro _ ⟨y, rfl⟩)
          go_wp2_with (first
            | (go_at_call 97; (with_reducible refine (cd2 _).mono ?_); clear cd2; rintro e w' ⟨rfl, x2, rfl⟩))
          go_roundw
          case rel => exact ⟨k + 1, _, by omega, by go_num, rfl, Lib.hid (by rw [HE.out, HF.out, HC.out]; apply ByteArray.ext; simp), mkI⟩
          case measure => simp [intOf] <;> omega
        · have hd : decide (x.1 < x.2) = false := decide_eq_false hxx
          have HF := Lib.hid (show spanT x = dec x.1 by unfold spanT; rw [if_neg hxx]; simp)
          go_wp2_with (first
            | (go_at_call 97; (with_reducible refine (cd1 _).mono ?_); clear cd1; rintro e w' ⟨rfl, x1, rfl⟩))
          (refine wp_region_ext (by kernel_rfl) (by kernel_rfl) ?_; (repeat (go_big_quiet_step (fail))); refine wpQuiet_nil ?_; rintro _ ⟨y, rfl⟩)
          go_wp2_with fail
          go_roundw
          case rel => exact ⟨k + 1, _, by omega, by go_num, rfl, Lib.hid (by rw [HE.out, HF.out, HC.out]; apply ByteArray.ext; simp), mkI⟩
          case measure => simp [intOf] <;> omega
      · have hz : (0 : Int) < (k : Int) := by omega
        have HE := Lib.hid (show textS (s.take (k + 1)) = textS (s.take k) ++ [44] ++ spanT x by rw [HS.out, if_pos (by omega)])
        clear hk0
        by_cases hxx : x.1 < x.2
        · have hd : decide (x.1 < x.2) = true := decide_eq_true hxx
          have HF := Lib.hid (show spanT x = dec x.1 ++ 45 :: dec x.2 by unfold spanT; rw [if_pos hxx])
          go_wp2_with (first
            | (go_at_call 97; (with_reducible refine (cd1 _).mono ?_); clear cd1; rintro e w' ⟨rfl, x1, rfl⟩))
          (refine wp_region_ext (by kernel_rfl) (by kernel_rfl) ?_; (repeat (go_big_quiet_step (fail))); refine wpQuiet_nil ?_; rintro _ ⟨y, rfl⟩)
          go_wp2_with (first
            | (go_at_call 97; (with_reducible refine (cd2 _).mono ?_); clear cd2; rintro e w' ⟨rfl, x2, rfl⟩))
          go_roundw
          case rel => exact ⟨k + 1, _, by omega, by go_num, rfl, Lib.hid (by rw [HE.out, HF.out, HC.out]; apply ByteArray.ext; simp), mkI⟩
          case measure => simp [intOf] <;> omega
        · have hd : decide (x.1 < x.2) = false := decide_eq_false hxx
          have HF := Lib.hid (show spanT x = dec x.1 by unfold spanT; rw [if_neg hxx]; simp)
          go_wp2_with (first
            | (go_at_call 97; (with_reducible refine (cd1 _).mono ?_); clear cd1; rintro e w' ⟨rfl, x1, rfl⟩))
          (refine wp_region_ext (by kernel_rfl) (by kernel_rfl) ?_; (repeat (go_big_quiet_step (fail))); refine wpQuiet_nil ?_; rintro _ ⟨y, rfl⟩)
          go_wp2_with fail
          go_roundw
          case rel => exact ⟨k + 1, _, by omega, by go_num, rfl, Lib.hid (by rw [HE.out, HF.out, HC.out]; apply ByteArray.ext; simp), mkI⟩
          case measure => simp [intOf] <;> omega
    · obtain rfl : k = N := by omega
      have E := HC.out
      rw [List.take_of_length_le (by rw [HN.out]; exact Nat.le_refl _)] at E
      subst E
      go_wp2_with fail
      go_ret
      exact ⟨rfl, mkI⟩
end Go.Proofs.YtgfkcbflnkpogaaGreatDoor
