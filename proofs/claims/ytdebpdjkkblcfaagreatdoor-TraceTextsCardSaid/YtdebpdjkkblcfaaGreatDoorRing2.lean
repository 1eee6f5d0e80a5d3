/- A ring made; an event got. -/
import Derived.Test.YtdebpdjkkblcfaaGreatDoorRing1
import Derived.Laws.MakeOwn
namespace Go.Proofs.YtdebpdjkkblcfaaGreatDoor
open Go.RowKit Go.Ab
theorem infoEvent : (Tryz.prog.info? 27).map (fun i => (i.zero, i.size, i.bytes)) = some (some Ev.zero.val, 8, 32) := by kernel_rfl
set_option maxHeartbeats 4000000 in
set_option maxRecDepth 100000 in
theorem ring_new (size : Nat) (w : World) (h0 : 1 ≤ size) (h1 : size ≤ 4096) :
    Calls Tryz.prog 27 #[.int .i64 (size : Int)] w fun e w' => ∃ R G, e = .returned (.tuple #[.pointer (some ⟨R, 0, none⟩), .int .i64 0]) ∧ Ring w' R G size [] ∧ w.heap.size ≤ R ∧ w.heap.size ≤ G ∧ ∃ x : Ext w, w' = x.w := by
  obtain ⟨i0, hi, hz0, hz1, hz2⟩ := info_parts infoEvent
  have hmk := fun w => run_make (P := Tryz.prog) w 30 27 i0 _ Tryz.underlying30 hi hz0 .i64 .i64 size size (by omega) (by omega) (by rw [hz2]; omega) (by omega)
  rw [hz1] at hmk
  simp only [Int.toNat_natCast] at hmk
  clear hi hz0 hz1 hz2 i0
  generalize hM : madeCells Ev.zero.val.cells (size * 8) = M at hmk
  have hMs : M.size = size * 8 := by rw [← hM]; exact size_madeCells _ _
  clear hM
  go_enter Tryz.func27, Tryz.ntmps27
  go_wp2_with fail
  go_ret2
  refine ⟨w.heap.size + 1, w.heap.size, rfl, ⟨h0, h1, by simp, by omega, ?_, M, ?_, hMs, by simp⟩, by omega, by omega, mkI⟩
  · have := World.alloc_heap_new (w.alloc (.cells M 27)) (.cells (ringCells w.heap.size size []).toArray 43)
    rw [World.size_alloc] at this
    exact this
  · exact (Below.heap_alloc _ _ _ (by simp)).trans (World.alloc_heap_new _ _)
set_option maxHeartbeats 4000000 in
theorem ring_new_no (n : Int) (w : World) (h : n < 1 ∨ 4096 < n) : Gives Tryz.prog 27 #[.int .i64 n] w (.tuple #[.pointer none, .int .i64 2]) := by
  unfold Gives
  rcases h with h | h
  all_goals
    go_enter Tryz.func27, Tryz.ntmps27
    go_wp2
    go_ret2
    exact ⟨rfl, mkI⟩
set_option maxHeartbeats 4000000 in
set_option maxRecDepth 100000 in
/-- An event that is there. -/
theorem ring_get (w : World) (R G size : Nat) (l : List Ev) (h : Ring w R G size l) (n : Nat) (e : Ev) (hn : l[n]? = some e) (hk : l.length ≤ n + size) :
    Gives Tryz.prog 13 #[.pointer (some ⟨R, 0, none⟩), .int .i64 (n : Int)] w (.tuple #[e.val, .bool true]) := by
  have hnl : n < l.length := (List.getElem?_eq_some_iff.1 hn).1
  have hll := h.len
  have hs1 := h.s1
  have hev := h.ev n e hn hk
  have b0 := hev 0 _ rfl; have b1 := hev 1 _ rfl; have b2 := hev 2 _ rfl; have b3 := hev 3 _ rfl; have b4 := hev 4 _ rfl; have b5 := hev 5 _ rfl; have b6 := hev 6 _ rfl; have b7 := hev 7 _ rfl
  clear hev
  have hat : ∀ w', UpI w w' → Gives Tryz.prog 35 #[.pointer (some ⟨R, 0, none⟩), .int .i64 (n : Int)] w' (.pointer (some ⟨G, n % size * 8, none⟩)) := fun w' hu => ring_at w' R G size l n (h.up hu.up) (by omega)
  generalize n % size * 8 = g at *
  rw [Nat.add_zero] at b0
  have g2 : (n : Int) < (l.length : Int) := by omega
  have g3 : (l.length : Int) - ((min l.length size : Nat) : Int) ≤ (n : Int) := by omega
  have htot : ∀ w', UpI w w' → Gives Tryz.prog 14 #[.pointer (some ⟨R, 0, none⟩)] w' (.int .i64 (l.length : Int)) := fun w' hu => ring_total w' R G size l (h.up hu.up)
  have hlen : ∀ w', UpI w w' → Gives Tryz.prog 15 #[.pointer (some ⟨R, 0, none⟩)] w' (.int .i64 ((min l.length size : Nat) : Int)) := fun w' hu => ring_len w' R G size l (h.up hu.up)
  have q1 : (l.length : Int) ≤ 1000000 := by omega
  have q2 : (0 : Int) ≤ ((min l.length size : Nat) : Int) := by omega
  have q3 : ((min l.length size : Nat) : Int) ≤ 4096 := by omega
  have q4 : (0 : Int) ≤ (n : Int) := by omega
  haveI : LtSize R w := ⟨h.ltR⟩
  haveI : LtSize G w := ⟨h.ltG⟩
  clear hn hk hnl hll h hs1
  generalize ((min l.length size : Nat) : Int) = m at *
  generalize (l.length : Int) = t at *
  generalize (n : Int) = n' at *
  unfold Gives Ev.val
  go_enter Tryz.func13, Tryz.ntmps13
  go_wp2_with (first
    | (go_at_call 14; refine (htot _ inferInstance).mono ?_; rintro e w' ⟨rfl, x, rfl⟩)
    | (go_at_call 15; refine (hlen _ inferInstance).mono ?_; rintro e w' ⟨rfl, x, rfl⟩)
    | (go_at_call 35; refine (hat _ inferInstance).mono ?_; rintro e w' ⟨rfl, x, rfl⟩))
  all_goals first | (exfalso; omega) | skip
  refine bodyPost_ret (v := Value.tuple #[.agg #[.int .i64 e.n, .int .u8 e.sd, .int .u8 e.r, .int .u8 e.pr, .int .u32 e.s, .int .u32 e.d, .int .u16 e.sp, .int .u16 e.dp], .bool true]) (by simp [results, Tryz.results13, go_sem]) rfl ⟨rfl, mkI⟩
set_option maxHeartbeats 4000000 in
set_option maxRecDepth 100000 in
/-- An event that is not there. -/
theorem ring_get_no (w : World) (R G size : Nat) (l : List Ev) (h : Ring w R G size l) (n : Int) (hn : (l.length : Int) ≤ n ∨ n < (l.length : Int) - (min l.length size : Nat)) (n0 : -9223372036854775808 ≤ n) (n1 : n ≤ 9223372036854775807) :
    Gives Tryz.prog 13 #[.pointer (some ⟨R, 0, none⟩), .int .i64 n] w (.tuple #[Ev.zero.val, .bool false]) := by
  have htot : ∀ w', UpI w w' → Gives Tryz.prog 14 #[.pointer (some ⟨R, 0, none⟩)] w' (.int .i64 (l.length : Int)) := fun w' hu => ring_total w' R G size l (h.up hu.up)
  have hlen : ∀ w', UpI w w' → Gives Tryz.prog 15 #[.pointer (some ⟨R, 0, none⟩)] w' (.int .i64 ((min l.length size : Nat) : Int)) := fun w' hu => ring_len w' R G size l (h.up hu.up)
  have hll := h.len
  have hs1 := h.s1
  have q1 : (l.length : Int) ≤ 1000000 := by omega
  have q2 : (0 : Int) ≤ ((min l.length size : Nat) : Int) := by omega
  have q3 : ((min l.length size : Nat) : Int) ≤ 4096 := by omega
  have q0 : (0 : Int) ≤ (l.length : Int) := by omega
  clear hll h hs1
  generalize ((min l.length size : Nat) : Int) = m at *
  generalize (l.length : Int) = t at *
  unfold Gives Ev.val Ev.zero
  rcases hn with hn | hn
  all_goals
    go_enter Tryz.func13, Tryz.ntmps13
    go_wp2_with (first
      | (go_at_call 14; refine (htot _ inferInstance).mono ?_; rintro e w' ⟨rfl, x, rfl⟩)
      | (go_at_call 15; refine (hlen _ inferInstance).mono ?_; rintro e w' ⟨rfl, x, rfl⟩))
    all_goals first | (exfalso; omega) | skip
    all_goals refine bodyPost_ret (v := Value.tuple #[.agg #[.int .i64 0, .int .u8 0, .int .u8 0, .int .u8 0, .int .u32 0, .int .u32 0, .int .u16 0, .int .u16 0], .bool false]) (by simp [results, Tryz.results13, go_sem]) rfl ⟨rfl, mkI⟩
set_option maxHeartbeats 4000000 in
set_option maxRecDepth 100000 in
theorem ring_count (w : World) (R G size : Nat) (l : List Ev) (h : Ring w R G size l) (r : Nat) (r1 : r < 256) :
    Gives Tryz.prog 16 #[.pointer (some ⟨R, 0, none⟩), .int .u8 (r : Int)] w (.int .i64 (if 1 ≤ r ∧ r < 30 then (countR l r : Int) else 0)) := by
  have hno : ∀ w', UpI w w' → Gives Tryz.prog 34 #[.pointer (some ⟨R, 0, none⟩)] w' (.bool false) := fun w' hu => ring_none w' R G size l (h.up hu.up)
  haveI : LtSize R w := ⟨h.ltR⟩
  unfold Gives
  by_cases hr : 1 ≤ r ∧ r < 30
  · have hkn : ∀ w', Gives Tryz.prog 36 #[.int .u8 (r : Int)] w' (.bool true) := fun w' => (known_any r w' (by omega) (by omega)).cast (by simp; omega)
    have c2 := h.c2 r hr.2
    rw [if_pos hr]
    obtain ⟨r0, r2⟩ := hr
    have r3 : (r : Int) < 30 := by omega
    clear h
    generalize (countR l r : Int) = c at *
    go_enter Tryz.func16, Tryz.ntmps16
    go_wp2_with (first
      | (go_at_call 34; refine (hno _ inferInstance).mono ?_; rintro e w' ⟨rfl, x, rfl⟩)
      | (go_at_call 36; refine (hkn _).mono ?_; rintro e w' ⟨rfl, x, rfl⟩))
    go_ret
    exact ⟨rfl, mkI⟩
  · have hkn : ∀ w', Gives Tryz.prog 36 #[.int .u8 (r : Int)] w' (.bool false) := fun w' => (known_any r w' (by omega) (by omega)).cast (by simp; omega)
    rw [if_neg hr]
    clear h hr
    go_enter Tryz.func16, Tryz.ntmps16
    go_wp2_with (first
      | (go_at_call 34; refine (hno _ inferInstance).mono ?_; rintro e w' ⟨rfl, x, rfl⟩)
      | (go_at_call 36; refine (hkn _).mono ?_; rintro e w' ⟨rfl, x, rfl⟩))
    go_ret
    exact ⟨rfl, mkI⟩
end Go.Proofs.YtdebpdjkkblcfaaGreatDoor
