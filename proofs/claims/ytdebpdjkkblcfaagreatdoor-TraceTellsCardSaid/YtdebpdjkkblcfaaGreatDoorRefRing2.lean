/- The reference's ring of layer 41: events compared by a function; an event put. -/
import Derived.Test.YtdebpdjkkblcfaaGreatDoorRefRing
import Derived.Test.YtdebpdjkkblcfaaGreatDoorRefTr1
import Derived.Test.YtdebpdjkkblcfaaGreatDoorPExt
import Derived.Deep.RegionLaw
import Derived.Deep.RegionLawGrows
namespace Go.Proofs.YtdebpdjkkblcfaaGreatDoor
open Go.RowKit Go.Ab
set_option maxHeartbeats 4000000 in
theorem revent_eq (w : World) (n1 sd1 r1 p1 s1 d1 sp1 dp1 n2 sd2 r2 p2 s2 d2 sp2 dp2 : Int) :
    (Op.equalIn 10000 37 (.agg #[.int .i64 n1, .int .u8 sd1, .int .u8 r1, .int .u8 p1, .int .u32 s1, .int .u32 d1, .int .u16 sp1, .int .u16 dp1]) (.agg #[.int .i64 n2, .int .u8 sd2, .int .u8 r2, .int .u8 p2, .int .u32 s2, .int .u32 d2, .int .u16 sp2, .int .u16 dp2])).run Tryz.prog w = .ok (evB n1 sd1 r1 p1 s1 d1 sp1 dp1 n2 sd2 r2 p2 s2 d2 sp2 dp2) w := by
  unfold evB
  cases h1 : (n1 == n2) with
  | false => simp [go_sem, h1]
  | true =>
    cases h2 : (sd1 == sd2) with
    | false => simp [go_sem, h1, h2]
    | true =>
      cases h3 : (r1 == r2) with
      | false => simp [go_sem, h1, h2, h3]
      | true =>
        cases h4 : (p1 == p2) with
        | false => simp [go_sem, h1, h2, h3, h4]
        | true =>
          cases h5 : (s1 == s2) with
          | false => simp [go_sem, h1, h2, h3, h4, h5]
          | true =>
            cases h6 : (d1 == d2) with
            | false => simp [go_sem, h1, h2, h3, h4, h5, h6]
            | true =>
              cases h7 : (sp1 == sp2) with
              | false => simp [go_sem, h1, h2, h3, h4, h5, h6, h7]
              | true => cases h8 : (dp1 == dp2) <;> simp [go_sem, h1, h2, h3, h4, h5, h6, h7, h8]
attribute [local go_sem high] revent_eq
set_option maxHeartbeats 4000000 in
set_option maxRecDepth 100000 in
theorem same_one (a b : Ev) (w : World) : Gives Tryz.prog 79 #[a.val, b.val] w (.bool (decide (a = b))) := by
  rw [← evB_eq]
  unfold Gives Ev.val
  go_enter Tryz.func79, Tryz.ntmps79
  go_wp2_with fail
  go_ret
  exact ⟨rfl, mkI⟩
set_option maxHeartbeats 16000000 in
set_option maxRecDepth 100000 in
theorem equal_fn (w : World) (va vb : Value) (la lb : List Ev) (ha : EvRow w va la) (hb : EvRow w vb lb) (hl : la.length ≤ 1000000) :
    Gives Tryz.prog 78 #[va, vb, .func (.func 79) #[] #[]] w (.bool (decide (la = lb))) := by
  obtain ⟨pa, ca, rfl, ha⟩ := ha
  obtain ⟨pb, cb, rfl, hb⟩ := hb
  unfold Gives
  by_cases hlen : la.length = lb.length
  · rw [← hlen]
    obtain ⟨N, hN⟩ : ∃ N, la.length = N := ⟨_, rfl⟩
    have HL := Lib.hid hlen
    rw [← hlen] at hb
    rw [hN] at ha hb hl ⊢
    have HN := Lib.hid hN
    clear hN hlen
    go_enter Tryz.func78, Tryz.ntmps78
    go_wp2_with fail
    go_loopw [17] (fun i wr => ∃ k : Nat, k ≤ N ∧ i = .int .i64 (k : Int) ∧ Hid (la.take k = lb.take k) ∧ ∃ x : Ext w, wr = x.w) (fun i _ => N - (intOf i).toNat)
    case atStart => exact ⟨0, by omega, rfl, Lib.hid rfl, (Up.refl w).mk⟩
    case round =>
      obtain ⟨k, hk, rfl, Hk, x, rfl⟩ := hrel
      by_cases hlt : k < N
      · have hlt' : (k : Int) < (N : Int) := by omega
        obtain ⟨b, o, rfl, hb1, hc1⟩ := ha k hlt
        obtain ⟨b2, o2, rfl, hb2, hc2⟩ := hb k hlt
        obtain ⟨e, he⟩ : ∃ e, la[k]? = some e := ⟨_, List.getElem?_eq_getElem (by rw [HN.out]; exact hlt)⟩
        obtain ⟨e2, he2⟩ : ∃ e, lb[k]? = some e := ⟨_, List.getElem?_eq_getElem (by rw [← HL.out, HN.out]; exact hlt)⟩
        rw [he] at hc1
        rw [he2] at hc2
        have a0 := hc1 0 _ rfl; have a1 := hc1 1 _ rfl; have a2 := hc1 2 _ rfl; have a3 := hc1 3 _ rfl; have a4 := hc1 4 _ rfl; have a5 := hc1 5 _ rfl; have a6 := hc1 6 _ rfl; have a7 := hc1 7 _ rfl
        have q0 := hc2 0 _ rfl; have q1 := hc2 1 _ rfl; have q2 := hc2 2 _ rfl; have q3 := hc2 3 _ rfl; have q4 := hc2 4 _ rfl; have q5 := hc2 5 _ rfl; have q6 := hc2 6 _ rfl; have q7 := hc2 7 _ rfl
        rw [Nat.add_zero] at a0 q0
        have T1 := Lib.hid (take_snoc la k e he)
        have T2 := Lib.hid (take_snoc lb k e2 he2)
        have hso := fun w => same_one e e2 w
        unfold Ev.val at hso
        clear hc1 hc2 ha hb
        haveI : LtSize b w := ⟨hb1⟩
        haveI : LtSize b2 w := ⟨hb2⟩
        by_cases hee : e = e2
        · have HQ := Lib.hid hee
          have hso' : ∀ w, Gives Tryz.prog 79 #[e.val, e2.val] w (.bool true) := fun w => (same_one e e2 w).cast (by rw [decide_eq_true hee])
          unfold Ev.val at hso'
          clear hee he he2 hso
          go_wp2_with (first
            | (go_at_call 79; refine (hso' _).mono ?_; rintro e w' ⟨rfl, z, rfl⟩))
          go_roundw
          case rel => exact ⟨k + 1, by omega, by go_num, Lib.hid (by rw [T1.out, T2.out, Hk.out, HQ.out]), mkI⟩
          case measure => simp [intOf]; omega
        · have HQ := Lib.hid (show ¬ la = lb from fun h => hee (by rw [h, he2] at he; exact (Option.some.inj he).symm))
          have hso' : ∀ w, Gives Tryz.prog 79 #[e.val, e2.val] w (.bool false) := fun w => (same_one e e2 w).cast (by rw [decide_eq_false hee])
          unfold Ev.val at hso'
          clear hee he he2 hso
          go_wp2_with (first
            | (go_at_call 79; refine (hso' _).mono ?_; rintro e w' ⟨rfl, z, rfl⟩))
          go_ret
          exact ⟨ret_bool (decide_eq_false HQ.out).symm, mkI⟩
      · obtain rfl : k = N := by omega
        have HQ := Lib.hid (show la = lb from list_eq_take la lb HL.out (by rw [HN.out]; exact Hk.out))
        go_wp2_with fail
        go_ret
        exact ⟨ret_bool (decide_eq_true HQ.out).symm, mkI⟩
  · have HQ := Lib.hid (show ¬ la = lb from fun h => hlen (by rw [h]))
    have hne : ((la.length : Int) != (lb.length : Int)) = true := by simp; omega
    clear ha hb
    go_enter Tryz.func78, Tryz.ntmps78
    go_wp2_with fail
    go_ret
    exact ⟨ret_bool (decide_eq_false HQ.out).symm, mkI⟩
set_option maxHeartbeats 4000000 in
theorem same_any (w : World) (va vb : Value) (la lb : List Ev) (ha : EvRow w va la) (hb : EvRow w vb lb) (hl : la.length ≤ 1000000) :
    Gives Tryz.prog 53 #[va, vb] w (.bool (decide (la = lb))) := by
  have h := fun W (hu : UpI w W) => equal_fn W va vb la lb (ha.up hu.up) (hb.up hu.up) hl
  unfold Gives
  go_enter Tryz.func53, Tryz.ntmps53
  go_wp2_with (go_at_call 78; refine (h _ inferInstance).mono ?_; rintro e w' ⟨rfl, z, rfl⟩)
  go_ret
  exact ⟨rfl, mkI⟩
end Go.Proofs.YtdebpdjkkblcfaaGreatDoor
namespace Go.Ab
open Go.RowKit
/-- The new row of a slice that was put to. -/
structure NewRow (base : Nat) (w : World) (u : Value) (l : List Ev) : Prop where
  row : EvRow w u l
  base : ∀ b o s n c, u = .slice (some ⟨b, o, s⟩) n c → base ≤ b
theorem NewRow.of_owns {w : World} {base : Nat} {t : TypeId} {v : Value} {l : List Ev} (h : w.ownsRow base t 8 v l.length (evCells l)) : NewRow base w v l :=
  ⟨EvRow.of_owns h, fun b o s n c e => by subst e; exact owns_row h b rfl⟩
theorem evRow_at {w : World} {v : Value} {l : List Ev} (h : EvRow w v l) (hl : 0 < l.length) : ∃ b o cap, v = .slice (some ⟨b, o, none⟩) l.length cap ∧ b < w.heap.size ∧ ∀ j u, (evCells l)[j]? = some u → w.cell? ⟨b, o + j, none⟩ = some u := by
  obtain ⟨p, cap, rfl, hc⟩ := h
  obtain ⟨b, o, rfl, hb, _⟩ := hc 0 hl
  refine ⟨b, o, cap, rfl, hb, fun j u hu => ?_⟩
  have hjl : j < (evCells l).length := (List.getElem?_eq_some_iff.1 hu).1
  have hlen : ∀ l : List Ev, (evCells l).length = l.length * 8 := by
    intro l
    induction l with
    | nil => rfl
    | cons x t ih => rw [evCells, List.flatMap_cons, List.length_append, ← evCells, ih, List.length_cons]; simp [Ev.cells]; omega
  rw [hlen] at hjl
  have hi : j / 8 < l.length := by omega
  obtain ⟨b', o', hp, _, hcc⟩ := hc (j / 8) hi
  simp only [Option.some.injEq, Addr.mk.injEq, and_true] at hp
  obtain ⟨rfl, rfl⟩ := hp
  have hx : l[j / 8]? = some l[j / 8] := List.getElem?_eq_getElem hi
  have hj8 : j % 8 < 8 := by omega
  obtain ⟨v, hv⟩ : ∃ v, (l[j / 8]).cells[j % 8]? = some v := ⟨_, List.getElem?_eq_getElem (show j % 8 < ((l[j / 8]).cells).length from hj8)⟩
  have h1 := evCells_at l (j / 8) (j % 8) _ v hx hv
  rw [show j / 8 * 8 + j % 8 = j by omega, hu] at h1
  have h2 := hcc (j % 8) v (by show (l[j / 8]?).bind _ = some v; rw [hx]; exact hv)
  rw [show o + j / 8 * 8 + j % 8 = o + j by omega] at h2
  rw [h2, h1]
end Go.Ab
namespace Go.Ab
open Go.RowKit Go.Proofs.YtdebpdjkkblcfaaGreatDoor
/-- Is an event taken behind others? -/
def takesB (l : List Ev) (e : Ev) : Bool := match l.getLast? with
  | none => true
  | some p => decide (p.n ≤ e.n)
theorem takesB_iff (l : List Ev) (e : Ev) : takesB l e = true ↔ takes l e := by
  unfold takesB takes
  cases l.getLast? with
  | none => simp
  | some p => simp
/-- What a ring has behind an event, and the answer. -/
def putE (l : List Ev) (e : Ev) : List Ev := if e.right = true ∧ takesB l e = true then l ++ [e] else l
def putA (l : List Ev) (e : Ev) : Int := if e.right = true ∧ takesB l e = true then (l.length : Int) else 0
def putF (l : List Ev) (e : Ev) : Int := if e.right = true then (if takesB l e = true then 0 else 411) else 2
end Go.Ab
namespace Go.Proofs.YtdebpdjkkblcfaaGreatDoor
open Go.RowKit Go.Ab
set_option maxHeartbeats 16000000 in
set_option maxRecDepth 100000 in
theorem rput_bad (w : World) (v : Value) (size : Int) (E : List Ev) (hv : EvRow w v E) (e : Ev) (eb : EvB e) (hri : e.right = false) :
    Gives Tryz.prog 30 #[.agg #[.int .i64 size, v], e.val] w (.tuple #[.agg #[.int .i64 size, v], .int .i64 0, .int .i64 2]) := by
  obtain ⟨p, cap, rfl, _⟩ := hv
  obtain ⟨n, sd, r, pr, s, d, sp, dp⟩ := e
  have hrt : ∀ w', Gives Tryz.prog 24 #[.agg #[.int .i64 n, .int .u8 sd, .int .u8 r, .int .u8 pr, .int .u32 s, .int .u32 d, .int .u16 sp, .int .u16 dp]] w' (.bool false) := fun w' => (rright_any n sd r pr s d sp dp w' eb.sd0 eb.sd1 eb.r0 eb.r1).cast (by rw [show rightEv n sd r pr s d sp dp = false from hri])
  clear hri eb
  unfold Gives Ev.val
  go_enter Tryz.func30, Tryz.ntmps30
  go_wp2_with (first
    | (go_at_call 24; refine (hrt _).mono ?_; rintro e w' ⟨rfl, x, rfl⟩))
  refine bodyPost_ret (v := Value.tuple #[.agg #[.int .i64 size, .slice p E.length cap], .int .i64 0, .int .i64 2]) (by simp [results, Tryz.results30, go_sem]) rfl ?_
  exact ⟨rfl, mkI⟩
set_option maxHeartbeats 16000000 in
set_option maxRecDepth 100000 in
theorem rput_back (w : World) (v : Value) (size : Int) (E : List Ev) (hv : EvRow w v E) (hl : E.length ≤ 900000) (e : Ev) (eb : EvB e) (hri : e.right = true) (ht : takesB E e = false) :
    Gives Tryz.prog 30 #[.agg #[.int .i64 size, v], e.val] w (.tuple #[.agg #[.int .i64 size, v], .int .i64 0, .int .i64 411]) := by
  obtain ⟨q, hq, hqe⟩ : ∃ q, E.getLast? = some q ∧ e.n < q.n := by
    unfold takesB at ht
    cases h : E.getLast? with
    | none => rw [h] at ht; cases ht
    | some q => rw [h] at ht; exact ⟨q, rfl, by simpa using ht⟩
  have hl1 : 1 ≤ E.length := by
    rcases Nat.eq_zero_or_pos E.length with h0 | h0
    · rw [List.length_eq_zero_iff] at h0; subst h0; simp at hq
    · exact h0
  obtain ⟨t, hN⟩ : ∃ t, E.length = t + 1 := ⟨E.length - 1, by omega⟩
  rw [List.getLast?_eq_getElem?, hN, Nat.add_sub_cancel] at hq
  obtain ⟨p, cap, rfl, hc⟩ := hv
  obtain ⟨b, o, rfl, hb, hc⟩ := hc t (by omega)
  simp only [hq, Option.bind_some] at hc
  have c0 := hc 0 _ rfl
  rw [Nat.add_zero] at c0
  rw [hN] at hl ⊢
  haveI : LtSize b w := ⟨hb⟩
  generalize q.n = qn at *
  have hbk : decide (e.n < qn) = true := by simpa using hqe
  have t0 : (0 : Int) ≤ (t : Int) := by omega
  have t1 : (t : Int) ≤ 900000 := by omega
  have t2 : (t : Int) + 1 - 1 = (t : Int) := by omega
  clear hN hq hc hqe hl1 ht
  obtain ⟨n, sd, r, pr, s, d, sp, dp⟩ := e
  simp only at hbk
  have hrt : ∀ w', Gives Tryz.prog 24 #[.agg #[.int .i64 n, .int .u8 sd, .int .u8 r, .int .u8 pr, .int .u32 s, .int .u32 d, .int .u16 sp, .int .u16 dp]] w' (.bool true) := fun w' => (rright_any n sd r pr s d sp dp w' eb.sd0 eb.sd1 eb.r0 eb.r1).cast (by rw [show rightEv n sd r pr s d sp dp = true from hri])
  clear hri eb
  unfold Gives Ev.val
  go_enter Tryz.func30, Tryz.ntmps30
  go_wp2_with (first
    | (go_at_call 24; refine (hrt _).mono ?_; rintro e w' ⟨rfl, x, rfl⟩))
  (refine wp_region_ext (by kernel_rfl) (by kernel_rfl) ?_; (repeat (go_big_quiet_step (fail))); refine wpQuiet_nil ?_; rintro _ ⟨y, rfl⟩)
  go_wp2_with fail
  refine bodyPost_ret (v := Value.tuple #[.agg #[.int .i64 size, .slice (some ⟨b, o, none⟩) (t + 1) cap], .int .i64 0, .int .i64 411]) (by simp [results, Tryz.results30, go_sem]) rfl ?_
  exact ⟨rfl, mkI⟩
end Go.Proofs.YtdebpdjkkblcfaaGreatDoor
