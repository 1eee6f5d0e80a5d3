/- Package span: what Text returns. -/
import Derived.Test.YtgfkcbflnkpogaaGreatDoorSp9
import Derived.Test.YtgfkcbflnkpogaaGreatDoorText
set_option linter.unusedSimpArgs false
set_option linter.unusedVariables false
namespace Go.Ab
open Go.RowKit
def strB (x : Sp) : ByteArray := ⟨(spanT x).toArray⟩
theorem spanT_length (x : Sp) (hb : SpB x) : (spanT x).length ≤ 43 := by
  have h1 := dec_length x.1 (by have := hb.f0; omega) (by have := hb.f1; omega)
  have h2 := dec_length x.2 (by have := hb.t0; omega) (by have := hb.t1; omega)
  unfold spanT
  split <;> simp <;> omega
theorem joinTail_le (c : UInt8) (m : Nat) : ∀ l : List (List UInt8), (∀ x ∈ l, x.length ≤ m) → (Lib.joinTail [c] l).length ≤ l.length * (m + 1)
  | [], _ => by simp [Lib.joinTail]
  | x :: l, h => by
    have h1 := h x (by simp)
    have h2 := joinTail_le c m l (fun y hy => h y (by simp [hy]))
    rw [joinTail_cons, List.length_append, List.length_append]
    simp only [List.length_cons, List.length_nil, Nat.succ_mul]
    omega
theorem textS_length (s : List Sp) (hb : ∀ x ∈ s, SpB x) : (textS s).length ≤ s.length * 44 := by
  unfold textS
  cases s with
  | nil => simp [Lib.join_nil]
  | cons x s =>
    rw [List.map_cons, Lib.join_cons, List.length_append]
    have h1 := spanT_length x (hb x (by simp))
    have h2 := joinTail_le 44 43 (s.map spanT) (fun y hy => by obtain ⟨z, hz, rfl⟩ := List.mem_map.1 hy; exact spanT_length z (hb z (by simp [hz])))
    rw [List.length_map] at h2
    simp only [List.length_cons]
    omega
end Go.Ab
namespace Go.Proofs.YtgfkcbflnkpogaaGreatDoor
open Go.RowKit Go.Ab
attribute [local go_sem high] wrapI64 wrapK64
set_option maxHeartbeats 8000000 in
set_option maxRecDepth 100000 in
theorem sptext_no (s : List Sp) (v : Value) (w : World) (hv : SpRow w v s) (hb : ∀ x ∈ s, SpB x) (hl : s.length ≤ 1000000000) (e : Int) (he : wrongL s = e) (hz : (e != 0) = true) : Gives Tryz.prog 21 #[v] w (.tuple #[.string ⟨#[]⟩, .int .i64 e]) := by
  have hw := fun (W : World) (u : UpI w W) => (spwrong_any [(v, s)] (.slice (some ⟨W.heap.size, 0, none⟩) 1 1) (W.alloc (.cells #[v] 25)) (spRow_new W v s _) (fun x hx => by rw [List.mem_singleton.1 hx]; exact ⟨hv.up (u.up.alloc _), hb, hl⟩) (by simp)).cast (by rw [List.map_cons, List.map_nil, wrongLs_one, he])
  obtain ⟨p, cap, rfl⟩ := sp_len hv
  clear hv hb hl he
  unfold Gives
  go_enter Tryz.func21, Tryz.ntmps21
  go_wp2_with (go_at_call 40; refine (hw w inferInstance).mono ?_; clear hw; rintro e w' ⟨rfl, z, rfl⟩)
  go_ret2
  exact ⟨rfl, mkI⟩
set_option maxHeartbeats 16000000 in
set_option maxRecDepth 100000 in
theorem sptext_yes (s : List Sp) (v : Value) (w : World) (g : Good w) (hv : SpRow w v s) (hb : ∀ x ∈ s, SpB x) (hr : rightS s = true) (hl : s.length ≤ 4096) : Gives Tryz.prog 21 #[v] w (.tuple #[.string ⟨(textS s).toArray⟩, .int .i64 0]) := by
  have he : wrongL s = 0 := by unfold wrongL; rw [if_neg (by omega), if_pos hr]
  have hw := fun (W : World) (u : UpI w W) => (spwrong_any [(v, s)] (.slice (some ⟨W.heap.size, 0, none⟩) 1 1) (W.alloc (.cells #[v] 25)) (spRow_new W v s _) (fun x hx => by rw [List.mem_singleton.1 hx]; exact ⟨hv.up (u.up.alloc _), hb, Nat.le_trans hl (by omega)⟩) (by simp)).cast (by rw [List.map_cons, List.map_nil, wrongLs_one, he])
  have Hc := Lib.hid (fun k x (h : s[k]? = some x) (p : Option Addr) (n cap : Nat) (e : v = .slice p n cap) => sp_at hv e h)
  obtain ⟨p, cap, rfl, hle, _⟩ := hv
  obtain ⟨N, hN⟩ : ∃ N, s.length = N := ⟨_, rfl⟩
  rw [hN] at hle hl hw Hc ⊢
  have HN := Lib.hid hN
  have Hb := Lib.hid hb
  obtain ⟨i0, hi, hz0, hz1, hz2⟩ := info_parts infoStr
  have Hi := Lib.hid hi; have Hz0 := Lib.hid hz0; have Hz1 := Lib.hid hz1; have Hz2 := Lib.hid hz2
  clear hi hz0 hz1 hz2 hN hb hr he
  unfold Gives
  go_enter Tryz.func21, Tryz.ntmps21
  go_wp2_with (go_at_call 40; refine (hw w inferInstance).mono ?_; clear hw; rintro e w' ⟨rfl, z, rfl⟩)
  go_loopw [5, 17] (fun l i wr => ∃ k : Nat, k ≤ N ∧ i = .int .i64 (k : Int) ∧ Hid (wr.ownsRow w.heap.size 9 1 l k (((s.take k).map strB).map Value.string)) ∧ Up w wr) (fun _ i _ => N - (intOf i).toNat)
  case atStart => exact ⟨0, Nat.zero_le _, rfl, Lib.hid (World.ownsRow_nil _ _ _ _), upI⟩
  case round =>
    obtain ⟨k, hk, rfl, Hown, hup⟩ := hrel
    haveI : UpI w wr := ⟨hup⟩
    by_cases hlt : k < N
    · have hlt' : (k : Int) < (N : Int) := by omega
      have k0 : (0 : Int) ≤ (k : Int) := by omega
      obtain ⟨x, hx⟩ : ∃ x, s[k]? = some x := ⟨_, List.getElem?_eq_getElem (by rw [HN.out]; exact hlt)⟩
      obtain ⟨b, o, rfl, hbw, c0', c1'⟩ := Hc.out k x hx _ _ _ rfl
      have c0 := hup.cell_some c0'
      have c1 := hup.cell_some c1'
      haveI : LtSize b wr := ⟨Nat.lt_of_lt_of_le hbw hup.size⟩
      have xb := Hb.out x (List.mem_of_getElem? hx)
      have hlen := spanT_length x xb
      obtain ⟨xf0, xf1, xt0, xt1⟩ := xb
      have HX := Lib.hid hx
      have i1 := fun W (u : UpI w W) => itoa_any x.1 W (g.up u.up) (by omega) (by omega)
      have i2 := fun W (u : UpI w W) => itoa_any x.2 W (g.up u.up) (by omega) (by omega)
      have d1 := dec_length x.1 (by omega) (by omega)
      have d2 := dec_length x.2 (by omega) (by omega)
      change (Lib.itoa x.1).length ≤ 21 at d1
      change (Lib.itoa x.2).length ≤ 21 at d2
      clear hx c0' c1'
      by_cases hc : x.1 < x.2
      · have hd : decide (x.1 < x.2) = true := decide_eq_true hc
        have EB : strB x = (⟨(Lib.itoa x.1).toArray⟩ ++ (⟨#[45]⟩ ++ ⟨(Lib.itoa x.2).toArray⟩)) := by unfold strB spanT dec; rw [if_pos hc, str_app, str_app]; rfl
        go_wp2_with (first
          | (go_at_call 49; (with_reducible refine (i1 _ inferInstance).mono ?_); clear i1; rintro e w' ⟨rfl, y, rfl⟩)
          | (go_at_call 49; (with_reducible refine (i2 _ inferInstance).mono ?_); clear i2; rintro e w' ⟨rfl, y2, rfl⟩)
          | (at_builtin; refine wpList_append_own _ rfl _ _ 68 rfl w.heap.size 9 i0 (.string ⟨#[]⟩) 1 16 Tryz.underlying68 Hi.out Hz0.out Hz1.out Hz2.out rfl (by decide) _ _ _ rfl (owns_up Hown.out (upI : Up wr _)) ⟨_, 0, none⟩ 1 1 [.string (⟨(Lib.itoa x.1).toArray⟩ ++ (⟨#[45]⟩ ++ ⟨(Lib.itoa x.2).toArray⟩))] rfl rfl (cell_one_new _ _ _) (by simp [Value.oneCell']) (by unfold maxLen; omega) (by omega) (by have := (upI : Up w y2.w).size; simp at this ⊢; omega) ?_; intro v' w1 hown' hgrow _))
        have hup1 : Up w w1 := ((upI : Up w _)).grown hgrow (owns_row Hown.out)
        have Hown' : Hid (w1.ownsRow w.heap.size 9 1 v' (k + 1) (((s.take (k + 1)).map strB).map Value.string)) := by
          rw [List.take_add_one, HX.out, List.map_append, List.map_append]
          simp only [Option.toList, List.map_cons, List.map_nil]
          rw [EB]
          exact hown'
        clear hown' hgrow Hown
        go_wp2_with fail
        go_roundw
        case rel => exact ⟨k + 1, by omega, by go_num, Hown', hup1⟩
        case measure => simp [intOf]; omega
      · have hd : decide (x.1 < x.2) = false := decide_eq_false hc
        have EB : strB x = ⟨(Lib.itoa x.1).toArray⟩ := by unfold strB spanT dec; rw [if_neg hc, List.append_nil]
        clear i2
        go_wp2_with (first
          | (go_at_call 49; (with_reducible refine (i1 _ inferInstance).mono ?_); clear i1; rintro e w' ⟨rfl, y, rfl⟩)
          | (at_builtin; refine wpList_append_own _ rfl _ _ 68 rfl w.heap.size 9 i0 (.string ⟨#[]⟩) 1 16 Tryz.underlying68 Hi.out Hz0.out Hz1.out Hz2.out rfl (by decide) _ _ _ rfl (owns_up Hown.out (upI : Up wr _)) ⟨_, 0, none⟩ 1 1 [.string ⟨(Lib.itoa x.1).toArray⟩] rfl rfl (cell_one_new _ _ _) (by simp [Value.oneCell']) (by unfold maxLen; omega) (by omega) (by have := (upI : Up w y.w).size; simp at this ⊢; omega) ?_; intro v' w1 hown' hgrow _))
        have hup1 : Up w w1 := ((upI : Up w _)).grown hgrow (owns_row Hown.out)
        have Hown' : Hid (w1.ownsRow w.heap.size 9 1 v' (k + 1) (((s.take (k + 1)).map strB).map Value.string)) := by
          rw [List.take_add_one, HX.out, List.map_append, List.map_append]
          simp only [Option.toList, List.map_cons, List.map_nil]
          rw [EB]
          exact hown'
        clear hown' hgrow Hown
        go_wp2_with fail
        go_roundw
        case rel => exact ⟨k + 1, by omega, by go_num, Hown', hup1⟩
        case measure => simp [intOf]; omega
    · obtain rfl : k = N := by omega
      have e1 : s.take k = s := List.take_of_length_le (by rw [HN.out]; exact Nat.le_refl _)
      rw [e1] at Hown
      have e2 : (s.map strB).map (·.data.toList) = s.map spanT := by rw [List.map_map]; exact List.map_congr_left (fun x _ => rfl)
      have hj := join_own u5 k w.heap.size (s.map strB) ⟨#[44]⟩ wr Hown.out (by omega) (by rw [e2]; have := textS_length s Hb.out; rw [HN.out] at this; unfold textS at this; exact Nat.le_trans this (by omega))
      rw [e2] at hj
      have Hj := Lib.hid hj
      clear hj Hown e1 e2
      go_wp2_with (go_at_call 50; refine Hj.out.mono ?_; rintro e w' ⟨rfl, x, rfl⟩)
      go_ret2
      exact ⟨rfl, mkI⟩
end Go.Proofs.YtgfkcbflnkpogaaGreatDoor
