/- Two events compared by '==': one Bool. -/
import Derived.Test.YtdebpdjkkblcfaaGreatDoorRing1
import Derived.Test.YtdebpdjkkblcfaaGreatDoorRing5
namespace Go.Ab
/-- Are two events the same? -/
def evB (n1 sd1 r1 p1 s1 d1 sp1 dp1 n2 sd2 r2 p2 s2 d2 sp2 dp2 : Int) : Bool := n1 == n2 && (sd1 == sd2 && (r1 == r2 && (p1 == p2 && (s1 == s2 && (d1 == d2 && (sp1 == sp2 && dp1 == dp2))))))
theorem evB_eq (a b : Ev) : evB a.n a.sd a.r a.pr a.s a.d a.sp a.dp b.n b.sd b.r b.pr b.s b.d b.sp b.dp = decide (a = b) := by
  obtain ⟨_, _, _, _, _, _, _, _⟩ := a
  obtain ⟨_, _, _, _, _, _, _, _⟩ := b
  simp only [evB, Ev.mk.injEq, Bool.decide_and]
  rfl
end Go.Ab
namespace Go.Proofs.YtdebpdjkkblcfaaGreatDoor
open Go.RowKit Go.Ab
set_option maxHeartbeats 4000000 in
theorem eq_event (w : World) (n1 sd1 r1 p1 s1 d1 sp1 dp1 n2 sd2 r2 p2 s2 d2 sp2 dp2 : Int) :
    (Op.equalIn 10000 27 (.agg #[.int .i64 n1, .int .u8 sd1, .int .u8 r1, .int .u8 p1, .int .u32 s1, .int .u32 d1, .int .u16 sp1, .int .u16 dp1]) (.agg #[.int .i64 n2, .int .u8 sd2, .int .u8 r2, .int .u8 p2, .int .u32 s2, .int .u32 d2, .int .u16 sp2, .int .u16 dp2])).run Tryz.prog w = .ok (evB n1 sd1 r1 p1 s1 d1 sp1 dp1 n2 sd2 r2 p2 s2 d2 sp2 dp2) w := by
  unfold evB
  cases h1 : (n1 == n2) with
  | false => simp [go_sem, h1]
  | true =>
    cases h2 : (sd1 == sd2) with
    | false => simp [go_sem, h1, h2]
    | true =>
      cases h3 : (r1 == r2) with
      | false => simp [go_sem, h1, h2, h3]
      | true =>
        cases h4 : (p1 == p2) with
        | false => simp [go_sem, h1, h2, h3, h4]
        | true =>
          cases h5 : (s1 == s2) with
          | false => simp [go_sem, h1, h2, h3, h4, h5]
          | true =>
            cases h6 : (d1 == d2) with
            | false => simp [go_sem, h1, h2, h3, h4, h5, h6]
            | true =>
              cases h7 : (sp1 == sp2) with
              | false => simp [go_sem, h1, h2, h3, h4, h5, h6, h7]
              | true => cases h8 : (dp1 == dp2) <;> simp [go_sem, h1, h2, h3, h4, h5, h6, h7, h8]
end Go.Proofs.YtdebpdjkkblcfaaGreatDoor
namespace Go.Ab
open Go.RowKit
/-- A slice of elements that have k cells each. -/
def RowAt (w : World) (v : Value) (n k : Nat) (cs : Nat → Nat → Option Value) : Prop :=
  ∃ p cap, v = .slice p n cap ∧ ∀ i, i < n → ∃ b o, p = some ⟨b, o, none⟩ ∧ b < w.heap.size ∧ ∀ j u, cs i j = some u → w.cell? ⟨b, o + i * k + j, none⟩ = some u
def EvRow (w : World) (v : Value) (l : List Ev) : Prop := RowAt w v l.length 8 fun i j => (l[i]?).bind fun e => e.cells[j]?
def IntRow (w : World) (v : Value) (l : List Int) : Prop := RowAt w v l.length 1 fun i j => if j = 0 then (l[i]?).map fun n => .int .i64 n else none
theorem RowAt.up {w W : World} {v : Value} {n k : Nat} {cs : Nat → Nat → Option Value} (h : RowAt w v n k cs) (hu : Up w W) : RowAt W v n k cs := by
  obtain ⟨p, cap, hv, hc⟩ := h
  refine ⟨p, cap, hv, fun i hi => ?_⟩
  obtain ⟨b, o, hp, hb, h⟩ := hc i hi
  exact ⟨b, o, hp, Nat.lt_of_lt_of_le hb hu.size, fun j u hj => hu.cell_some' (h j u hj)⟩
theorem evCells_at (l : List Ev) : ∀ (i j : Nat) (e : Ev) (u : Value), l[i]? = some e → e.cells[j]? = some u → (evCells l)[i * 8 + j]? = some u := by
  induction l with
  | nil => intro i j e u h; simp at h
  | cons x t ih =>
    intro i j e u h hu
    have hj : j < 8 := (List.getElem?_eq_some_iff.1 hu).1
    have hx : x.cells.length = 8 := rfl
    rw [evCells, List.flatMap_cons]
    rcases i with _ | i
    · simp at h; subst h
      rw [List.getElem?_append_left (by omega)]; simpa using hu
    · rw [List.getElem?_append_right (by omega), hx, show (i + 1) * 8 + j - 8 = i * 8 + j by omega]
      exact ih i j e u (by simpa using h) hu
theorem EvRow.of_owns {w : World} {base : Nat} {t : TypeId} {v : Value} {l : List Ev} (h : w.ownsRow base t 8 v l.length (evCells l)) : EvRow w v l := by
  rcases Nat.eq_zero_or_pos l.length with h0 | h0
  · obtain ⟨_, ⟨rfl, _⟩ | ⟨g, cap, cur, rfl, _⟩⟩ := h
    · exact ⟨none, 0, by rw [h0], fun i hi => by omega⟩
    · exact ⟨_, cap, rfl, fun i hi => by omega⟩
  · obtain ⟨g, cap, rfl, _, _, _, hc⟩ := owns_cells h h0
    refine ⟨_, cap, rfl, fun i hi => ⟨g, 0, rfl, ?_, fun j u hu => ?_⟩⟩
    · obtain ⟨e, he⟩ : ∃ e, l[0]? = some e := ⟨_, List.getElem?_eq_getElem h0⟩
      exact cell_lt' (hc (0 * 8 + 0) _ (evCells_at l 0 0 e _ he rfl))
    · obtain ⟨e, he, hu'⟩ := Option.bind_eq_some_iff.1 hu
      rw [Nat.zero_add]
      exact hc _ _ (evCells_at l i j e u he hu')
theorem IntRow.of_owns {w : World} {base : Nat} {t : TypeId} {v : Value} {l : List Nat} (h : w.ownsRow base t 1 v l.length (intCells l)) : IntRow w v (l.map fun n : Nat => (n : Int)) := by
  unfold IntRow
  rw [List.length_map]
  rcases Nat.eq_zero_or_pos l.length with h0 | h0
  · obtain ⟨_, ⟨rfl, _⟩ | ⟨g, cap, cur, rfl, _⟩⟩ := h
    · exact ⟨none, 0, by rw [h0], fun i hi => by omega⟩
    · exact ⟨_, cap, rfl, fun i hi => by omega⟩
  · obtain ⟨g, cap, rfl, _, _, _, hc⟩ := owns_cells h h0
    refine ⟨_, cap, rfl, fun i hi => ⟨g, 0, rfl, ?_, fun j u hu => ?_⟩⟩
    · exact cell_lt' (hc 0 _ (by rw [intCells, List.getElem?_map, List.getElem?_eq_getElem h0]; rfl))
    · simp only at hu
      split at hu
      · rename_i hj
        subst hj
        refine hc _ _ ?_
        rw [intCells, List.getElem?_map]
        rw [List.getElem?_map] at hu
        simpa using hu
      · cases hu
theorem list_eq_take {α : Type} [DecidableEq α] (a b : List α) (h : a.length = b.length) (hn : a.take a.length = b.take a.length) : a = b := by
  rw [List.take_length, h, List.take_length] at hn; exact hn
theorem take_snoc {α : Type} (a : List α) (k : Nat) (x : α) (h : a[k]? = some x) : a.take (k + 1) = a.take k ++ [x] := by
  obtain ⟨hk, rfl⟩ := List.getElem?_eq_some_iff.1 h
  exact List.take_succ_eq_append_getElem hk
end Go.Ab
namespace Go.Proofs.YtdebpdjkkblcfaaGreatDoor
open Go.RowKit Go.Ab
attribute [local go_sem high] eq_event
set_option maxHeartbeats 8000000 in
set_option maxRecDepth 100000 in
theorem equal_ev (w : World) (va vb : Value) (la lb : List Ev) (ha : EvRow w va la) (hb : EvRow w vb lb) (hl : la.length ≤ 1000000) :
    Gives Tryz.prog 28 #[va, vb] w (.bool (decide (la = lb))) := by
  obtain ⟨pa, ca, rfl, ha⟩ := ha
  obtain ⟨pb, cb, rfl, hb⟩ := hb
  unfold Gives
  by_cases hlen : la.length = lb.length
  · rw [← hlen]
    obtain ⟨N, hN⟩ : ∃ N, la.length = N := ⟨_, rfl⟩
    have HL := Lib.hid hlen
    rw [← hlen] at hb
    rw [hN] at ha hb hl ⊢
    have HN := Lib.hid hN
    clear hN hlen
    go_enter Tryz.func28, Tryz.ntmps28
    go_wp2_with fail
    go_loopw [13] (fun i wr => ∃ k : Nat, k ≤ N ∧ i = .int .i64 (k : Int) ∧ Hid (la.take k = lb.take k) ∧ ∃ x : Ext w, wr = x.w) (fun i _ => N - (intOf i).toNat)
    case atStart => exact ⟨0, by omega, rfl, Lib.hid rfl, (Up.refl w).mk⟩
    case round =>
      obtain ⟨k, hk, rfl, Hk, x, rfl⟩ := hrel
      by_cases hlt : k < N
      · have hlt' : (k : Int) < (N : Int) := by omega
        obtain ⟨b, o, rfl, hb1, hc1⟩ := ha k hlt
        obtain ⟨b2, o2, rfl, hb2, hc2⟩ := hb k hlt
        obtain ⟨e, he⟩ : ∃ e, la[k]? = some e := ⟨_, List.getElem?_eq_getElem (by rw [HN.out]; exact hlt)⟩
        obtain ⟨e2, he2⟩ : ∃ e, lb[k]? = some e := ⟨_, List.getElem?_eq_getElem (by rw [← HL.out, HN.out]; exact hlt)⟩
        rw [he] at hc1
        rw [he2] at hc2
        have a0 := hc1 0 _ rfl; have a1 := hc1 1 _ rfl; have a2 := hc1 2 _ rfl; have a3 := hc1 3 _ rfl; have a4 := hc1 4 _ rfl; have a5 := hc1 5 _ rfl; have a6 := hc1 6 _ rfl; have a7 := hc1 7 _ rfl
        have q0 := hc2 0 _ rfl; have q1 := hc2 1 _ rfl; have q2 := hc2 2 _ rfl; have q3 := hc2 3 _ rfl; have q4 := hc2 4 _ rfl; have q5 := hc2 5 _ rfl; have q6 := hc2 6 _ rfl; have q7 := hc2 7 _ rfl
        rw [Nat.add_zero] at a0 q0
        have T1 := Lib.hid (take_snoc la k e he)
        have T2 := Lib.hid (take_snoc lb k e2 he2)
        have HE := Lib.hid (evB_eq e e2)
        clear hc1 hc2 ha hb
        haveI : LtSize b w := ⟨hb1⟩
        haveI : LtSize b2 w := ⟨hb2⟩
        by_cases hee : e = e2
        · have hB : evB e.n e.sd e.r e.pr e.s e.d e.sp e.dp e2.n e2.sd e2.r e2.pr e2.s e2.d e2.sp e2.dp = true := by rw [HE.out, decide_eq_true hee]
          have HQ := Lib.hid hee
          clear hee he he2
          go_wp2_with fail
          (refine wp_region_ext (by kernel_rfl) (by kernel_rfl) ?_; (repeat (go_big_quiet_step (fail))); refine wpQuiet_nil ?_; rintro _ ⟨y, rfl⟩)
          go_wp2_with fail
          go_roundw
          case rel => exact ⟨k + 1, by omega, by go_num, Lib.hid (by rw [T1.out, T2.out, Hk.out, HQ.out]), mkI⟩
          case measure => simp [intOf]; omega
        · have hB : evB e.n e.sd e.r e.pr e.s e.d e.sp e.dp e2.n e2.sd e2.r e2.pr e2.s e2.d e2.sp e2.dp = false := by rw [HE.out, decide_eq_false hee]
          have HQ := Lib.hid (show ¬ la = lb from fun h => hee (by rw [h, he2] at he; exact (Option.some.inj he).symm))
          clear hee he he2
          go_wp2_with fail
          (refine wp_region_ext (by kernel_rfl) (by kernel_rfl) ?_; (repeat (go_big_quiet_step (fail))); refine wpQuiet_nil ?_; rintro _ ⟨y, rfl⟩)
          go_wp2_with fail
          go_ret
          exact ⟨ret_bool (decide_eq_false HQ.out).symm, mkI⟩
      · obtain rfl : k = N := by omega
        have HQ := Lib.hid (show la = lb from list_eq_take la lb HL.out (by rw [HN.out]; exact Hk.out))
        go_wp2_with fail
        go_ret
        exact ⟨ret_bool (decide_eq_true HQ.out).symm, mkI⟩
  · have HQ := Lib.hid (show ¬ la = lb from fun h => hlen (by rw [h]))
    have hne : ((la.length : Int) != (lb.length : Int)) = true := by simp; omega
    clear ha hb
    go_enter Tryz.func28, Tryz.ntmps28
    go_wp2_with fail
    go_ret
    exact ⟨ret_bool (decide_eq_false HQ.out).symm, mkI⟩
end Go.Proofs.YtdebpdjkkblcfaaGreatDoor
namespace Go.Proofs.YtdebpdjkkblcfaaGreatDoor
open Go.RowKit Go.Ab
set_option maxHeartbeats 8000000 in
set_option maxRecDepth 100000 in
theorem equal_int (w : World) (va vb : Value) (la lb : List Int) (ha : IntRow w va la) (hb : IntRow w vb lb) (hl : la.length ≤ 1000000) :
    Gives Tryz.prog 54 #[va, vb] w (.bool (decide (la = lb))) := by
  obtain ⟨pa, ca, rfl, ha⟩ := ha
  obtain ⟨pb, cb, rfl, hb⟩ := hb
  unfold Gives
  by_cases hlen : la.length = lb.length
  · rw [← hlen]
    obtain ⟨N, hN⟩ : ∃ N, la.length = N := ⟨_, rfl⟩
    have HL := Lib.hid hlen
    rw [← hlen] at hb
    rw [hN] at ha hb hl ⊢
    have HN := Lib.hid hN
    clear hN hlen
    go_enter Tryz.func54, Tryz.ntmps54
    go_wp2_with fail
    go_loopw [13] (fun i wr => ∃ k : Nat, k ≤ N ∧ i = .int .i64 (k : Int) ∧ Hid (la.take k = lb.take k) ∧ ∃ x : Ext w, wr = x.w) (fun i _ => N - (intOf i).toNat)
    case atStart => exact ⟨0, by omega, rfl, Lib.hid rfl, (Up.refl w).mk⟩
    case round =>
      obtain ⟨k, hk, rfl, Hk, x, rfl⟩ := hrel
      by_cases hlt : k < N
      · have hlt' : (k : Int) < (N : Int) := by omega
        obtain ⟨b, o, rfl, hb1, hc1⟩ := ha k hlt
        obtain ⟨b2, o2, rfl, hb2, hc2⟩ := hb k hlt
        obtain ⟨e, he⟩ : ∃ e, la[k]? = some e := ⟨_, List.getElem?_eq_getElem (by rw [HN.out]; exact hlt)⟩
        obtain ⟨e2, he2⟩ : ∃ e, lb[k]? = some e := ⟨_, List.getElem?_eq_getElem (by rw [← HL.out, HN.out]; exact hlt)⟩
        rw [he] at hc1
        rw [he2] at hc2
        have a0 := hc1 0 _ rfl
        have q0 := hc2 0 _ rfl
        rw [Nat.add_zero, Nat.mul_one] at a0 q0
        have T1 := Lib.hid (take_snoc la k e he)
        have T2 := Lib.hid (take_snoc lb k e2 he2)
        clear hc1 hc2 ha hb
        haveI : LtSize b w := ⟨hb1⟩
        haveI : LtSize b2 w := ⟨hb2⟩
        by_cases hee : e = e2
        · have hB : (e != e2) = false := by simp [hee]
          have HQ := Lib.hid hee
          clear hee he he2
          go_wp2_with fail
          (refine wp_region_ext (by kernel_rfl) (by kernel_rfl) ?_; (repeat (go_big_quiet_step (fail))); refine wpQuiet_nil ?_; rintro _ ⟨y, rfl⟩)
          go_wp2_with fail
          go_roundw
          case rel => exact ⟨k + 1, by omega, by go_num, Lib.hid (by rw [T1.out, T2.out, Hk.out, HQ.out]), mkI⟩
          case measure => simp [intOf]; omega
        · have hB : (e != e2) = true := by simp [hee]
          have HQ := Lib.hid (show ¬ la = lb from fun h => hee (by rw [h, he2] at he; exact (Option.some.inj he).symm))
          clear hee he he2
          go_wp2_with fail
          (refine wp_region_ext (by kernel_rfl) (by kernel_rfl) ?_; (repeat (go_big_quiet_step (fail))); refine wpQuiet_nil ?_; rintro _ ⟨y, rfl⟩)
          go_wp2_with fail
          go_ret
          exact ⟨ret_bool (decide_eq_false HQ.out).symm, mkI⟩
      · obtain rfl : k = N := by omega
        have HQ := Lib.hid (show la = lb from list_eq_take la lb HL.out (by rw [HN.out]; exact Hk.out))
        go_wp2_with fail
        go_ret
        exact ⟨ret_bool (decide_eq_true HQ.out).symm, mkI⟩
  · have HQ := Lib.hid (show ¬ la = lb from fun h => hlen (by rw [h]))
    have hne : ((la.length : Int) != (lb.length : Int)) = true := by simp; omega
    clear ha hb
    go_enter Tryz.func54, Tryz.ntmps54
    go_wp2_with fail
    go_ret
    exact ⟨ret_bool (decide_eq_false HQ.out).symm, mkI⟩
end Go.Proofs.YtdebpdjkkblcfaaGreatDoor
