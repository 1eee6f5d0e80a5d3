/- Rings that are none: what their functions return. -/
import Derived.Test.YtngmcljkmcdlmaaGreatDoorRing5
namespace Go.Proofs.YtngmcljkmcdlmaaGreatDoor
open Go.RowKit Go.Ab
attribute [local go_sem] Oper.semAt_some
section
variable (w : World) (p : Option Addr) (h : ∀ W, UpI w W → Gives Tryz.prog 31 #[.pointer p] W (.bool true))
include h
set_option maxHeartbeats 4000000 in
set_option maxRecDepth 100000 in
theorem none_total : Gives Tryz.prog 11 #[.pointer p] w (.int .i64 0) := by
  unfold Gives
  go_enter Tryz.func11, Tryz.ntmps11
  go_wp2_with (go_at_call 31; refine (h _ inferInstance).mono ?_; rintro e w' ⟨rfl, x, rfl⟩)
  go_ret
  exact ⟨rfl, mkI⟩
set_option maxHeartbeats 4000000 in
set_option maxRecDepth 100000 in
theorem none_len : Gives Tryz.prog 12 #[.pointer p] w (.int .i64 0) := by
  unfold Gives
  go_enter Tryz.func12, Tryz.ntmps12
  go_wp2_with (go_at_call 31; refine (h _ inferInstance).mono ?_; rintro e w' ⟨rfl, x, rfl⟩)
  go_ret
  exact ⟨rfl, mkI⟩
set_option maxHeartbeats 4000000 in
set_option maxRecDepth 100000 in
theorem none_count (r : Int) : Gives Tryz.prog 13 #[.pointer p, .int .u8 r] w (.int .i64 0) := by
  unfold Gives
  go_enter Tryz.func13, Tryz.ntmps13
  go_wp2_with (go_at_call 31; refine (h _ inferInstance).mono ?_; rintro e w' ⟨rfl, x, rfl⟩)
  go_ret
  exact ⟨rfl, mkI⟩
set_option maxHeartbeats 4000000 in
set_option maxRecDepth 100000 in
theorem none_put (e : Ev) : Gives Tryz.prog 9 #[.pointer p, e.val] w (.tuple #[.int .i64 0, .int .i64 1]) := by
  unfold Gives Ev.val
  go_enter Tryz.func9, Tryz.ntmps9
  go_wp2_with (go_at_call 31; refine (h _ inferInstance).mono ?_; rintro e w' ⟨rfl, x, rfl⟩)
  go_ret2
  exact ⟨rfl, mkI⟩
set_option maxHeartbeats 4000000 in
set_option maxRecDepth 100000 in
theorem none_get : Gives Tryz.prog 10 #[.pointer p, .int .i64 0] w (.tuple #[Ev.zero.val, .bool false]) := by
  have ht : ∀ W, UpI w W → Gives Tryz.prog 11 #[.pointer p] W (.int .i64 0) := fun W hu => none_total W p (fun W' hu' => h W' ⟨hu.up.trans hu'.up⟩)
  unfold Gives Ev.val Ev.zero
  go_enter Tryz.func10, Tryz.ntmps10
  go_wp2_with (go_at_call 11; refine (ht _ inferInstance).mono ?_; rintro e w' ⟨rfl, x, rfl⟩)
  refine bodyPost_ret (v := Value.tuple #[.agg #[.int .i64 0, .int .u8 0, .int .u8 0, .int .u8 0, .int .u32 0, .int .u32 0, .int .u16 0, .int .u16 0], .bool false]) (by simp [results, Tryz.results10, go_sem]) rfl ⟨rfl, mkI⟩
end
theorem kept_anyP (p : Option Addr) (w : World) :
    Calls Tryz.prog 34 #[.pointer p] w fun e w' =>
      e = .returned (.func (.func 58) #[] #[.pointer (some ⟨w.heap.size, 0, none⟩)]) ∧ w.alloc (.cells #[.pointer p] 39) = w' := by
  go_enter Tryz.func34, Tryz.ntmps34
  go_wp2
  go_ret
  exact ⟨rfl, rfl⟩
set_option maxHeartbeats 8000000 in
set_option maxRecDepth 100000 in
theorem kept_none (bk : Nat) (p : Option Addr) (w : World) (h : ∀ W, UpI w W → Gives Tryz.prog 31 #[.pointer p] W (.bool true)) :
    SeqUpK Tryz.prog 58 #[.pointer (some ⟨bk, 0, none⟩)] encEv (fun xs : List (Nat × Ev) => xs = []) (fun pre => pre <+: []) noOwn (fun _ b => b = bk)
      (fun W => W.cell? ⟨bk, 0, none⟩ = some (.pointer p) ∧ Up w W) := by
  intro l J Jx W hK hJ hJx hY h0
  obtain ⟨hc1, hu1⟩ := hK
  have htot : ∀ w', UpI W w' → Gives Tryz.prog 11 #[.pointer p] w' (.int .i64 0) := fun w' hu => none_total w' p (fun W' hu' => h W' ⟨(hu1.trans hu.up).trans hu'.up⟩)
  have hlen : ∀ w', UpI W w' → Gives Tryz.prog 12 #[.pointer p] w' (.int .i64 0) := fun w' hu => none_len w' p (fun W' hu' => h W' ⟨(hu1.trans hu.up).trans hu'.up⟩)
  haveI : LtSize bk W := ⟨cell_lt' hc1⟩
  clear h hY
  go_enter Tryz.func58, Tryz.ntmps58
  go_wp2_with fail
  (refine wp_region_ext (by kernel_rfl) (by kernel_rfl) ?_; (repeat (go_big_quiet_step ((first
    | (go_at_call 11; exact (htot _ inferInstance).ext)
    | (go_at_call 12; exact (hlen _ inferInstance).ext))))); refine wpQuiet_nil ?_; rintro _ ⟨y, rfl⟩)
  go_wp2_with fail
  have cy : y.w.cell? ⟨bk, 0, none⟩ = some (.pointer p) := y.up.cell_some' hc1
  have jy := hJ _ _ _ h0 (Turn.of_up y.up)
  go_loopw [3] (fun i wr => i = .int .i64 0 ∧ J [] wr ∧ wr.cell? ⟨bk, 0, none⟩ = some (.pointer p) ∧ UpI W wr) (fun _ _ => 0)
  case atStart => exact ⟨rfl, jy, cy, inferInstance⟩
  case round =>
    clear cy jy y
    obtain ⟨rfl, hj, c1, uwr⟩ := hrel
    haveI : LtSize bk wr := ⟨cell_lt' c1⟩
    go_wp2_with (first
      | (go_at_call 11; refine (htot _ inferInstance).mono ?_; rintro e w' ⟨rfl, x, rfl⟩))
    go_end0
    exact ⟨⟨_, rfl⟩, .inl ⟨[], rfl, hJ _ _ _ hj (Turn.of_up x.up)⟩⟩
set_option maxHeartbeats 8000000 in
set_option maxRecDepth 100000 in
theorem none_since (w : World) (p : Option Addr) (h : ∀ W, UpI w W → Gives Tryz.prog 31 #[.pointer p] W (.bool true)) (number : Int) :
    Calls Tryz.prog 15 #[.pointer p, .int .i64 number] w fun e w' => e = .returned (.slice none 0 0) ∧ ∃ x : Ext w, w' = x.w := by
  refine (callsIn_wide (n := 0)).1 (callsIn_of_wp_marks Tryz.func15 rfl trivial ?_ rfl)
  refine (wpIn_wide (n := 0)).2 ?_
  simp only [Tryz.ntmps15, List.size_toArray, List.length_cons, List.length_nil, Nat.reduceAdd, Nat.reduceSub, Array.replicate_succ, Array.replicate_zero, List.push_toArray, List.append_toArray, List.nil_append, List.cons_append]
  go_wp2_with (go_at_call 34; refine (kept_anyP p _).mono ?_; rintro e w' ⟨rfl, rfl⟩)
  obtain ⟨s, hs⟩ : ∃ s, s = w.heap.size := ⟨_, rfl⟩
  obtain ⟨W0, hW0⟩ : ∃ W0, W0 = ((w.alloc (.cells #[.int .i64 number] 3)).alloc (.cells #[.slice none 0 0] 31)).alloc (.cells #[.pointer p] 39) := ⟨_, rfl⟩
  have hz0 : W0.heap.size = s + 3 := by rw [hW0, hs]; simp
  have hu0 : Up w W0 := by rw [hW0]; exact (by repeat (with_reducible first | exact Up.refl _ | refine Up.ext ?_ _ | refine Up.drew ?_ | refine Up.alloc ?_ _ | refine Up.setCell ?_ (by simp) _))
  have c2 : W0.cell? ⟨s + 2, 0, none⟩ = some (.pointer p) := by rw [hW0, hs]; simp [go_sem]
  have o1 : W0.heap[s + 1]? = some (.cells #[.slice none 0 0] 31 (0, 0)) := by
    rw [hW0, hs, Below.heap_alloc _ _ _ (by simp)]
    have := World.alloc_heap_new (w.alloc (.cells #[.int .i64 number] 3)) (.cells #[.slice none 0 0] 31)
    rwa [World.size_alloc] at this
  rw [← hW0, ← hs]
  clear hW0
  have hbk : ∀ k, book noOwn W0.heap.size k → s + 3 ≤ k ∧ k < s + 5 := by
    intro k hk
    rw [hz0] at hk
    rcases hk with hk | rfl | rfl
    · exact hk.elim
    · omega
    · omega
  have hsw : w.heap.size ≤ s := by omega
  have Hs := Lib.hid hs
  clear hs
  refine wp_rangeFunc_upK (α := Nat × Ev) (gf := 58) (lb := #[.pointer (some ⟨s + 2, 0, none⟩)]) rfl (enters Tryz.func58 (by kernel_rfl) rfl)
    (kept_none (s + 2) p w h) (fun _ => rfl) ?hK0 ?hown ?hkp'
    (fun _ W => (Up w W ∧ s + 5 ≤ W.heap.size) ∧ W.heap[s + 1]? = some (.cells #[.slice none 0 0] 31 (0, 0)))
    (fun _ _ _ => False)
    (fun _ _ _ _ => False)
    ?hI ?hIx ?hA ?h0 ?assign ?body ?done ?stop
  case hK0 =>
    intro W1 hu hsz
    exact ⟨hu.cell_some' c2, hu0.trans hu⟩
  case hown => intro k hk; exact hk.elim
  case hkp' =>
    intro k hk
    rw [hz0]
    cases hk; omega
  case hI =>
    rintro pre X Y ⟨⟨hu, hz⟩, hv⟩ ht
    exact ⟨⟨ht.up hu (fun k hk => by have := hbk k hk; omega), Nat.le_trans hz ht.size⟩, ht.same hv (fun hk => by have := hbk _ hk; omega)⟩
  case hIx => intro c pre X Y h _; exact h
  case hA => intro pre x a1 X Y h _; exact h.elim
  case h0 =>
    intro W1 hu hsz
    exact ⟨⟨hu0.trans hu, by omega⟩, (hu.block (s + 1) (by omega)).trans o1⟩
  case assign =>
    intro l' pre x W _ hp
    have := hp.length_le
    simp at this
  case body => intro l' pre x a1 W h _; exact h.elim
  case done =>
    rintro xs W rfl ⟨⟨hu, hz⟩, hv⟩ hD
    have hcv := cell_of_one hv
    have HD := Lib.hid hD
    have Hbk := Lib.hid hbk
    clear hD hbk hv c2 o1 hu0
    go_wp2_with fail
    refine ⟨by simp, .inl ⟨_, _, rfl, run_takeDeferred HD.out, ?_⟩⟩
    have ht : Turn (fun k => k = W0.heap.size) W (W.putObj W0.heap.size (.deferred none)) := turn_putObj _ _ _ rfl
    exact ⟨_, results_tmp rfl _ _ _, rfl, (ht.up hu (fun k hk => by omega)).mk⟩
  case stop => intro c pre W h _; exact h.elim
set_option maxHeartbeats 8000000 in
set_option maxRecDepth 100000 in
theorem none_where (w : World) (p : Option Addr) (h : ∀ W, UpI w W → Gives Tryz.prog 31 #[.pointer p] W (.bool true)) (reason : Int) :
    Calls Tryz.prog 16 #[.pointer p, .int .u8 reason] w fun e w' => e = .returned (.slice none 0 0) ∧ ∃ x : Ext w, w' = x.w := by
  refine (callsIn_wide (n := 0)).1 (callsIn_of_wp_marks Tryz.func16 rfl trivial ?_ rfl)
  refine (wpIn_wide (n := 0)).2 ?_
  simp only [Tryz.ntmps16, List.size_toArray, List.length_cons, List.length_nil, Nat.reduceAdd, Nat.reduceSub, Array.replicate_succ, Array.replicate_zero, List.push_toArray, List.append_toArray, List.nil_append, List.cons_append]
  go_wp2_with (go_at_call 34; refine (kept_anyP p _).mono ?_; rintro e w' ⟨rfl, rfl⟩)
  obtain ⟨s, hs⟩ : ∃ s, s = w.heap.size := ⟨_, rfl⟩
  obtain ⟨W0, hW0⟩ : ∃ W0, W0 = ((w.alloc (.cells #[.int .u8 reason] 5)).alloc (.cells #[.slice none 0 0] 30)).alloc (.cells #[.pointer p] 39) := ⟨_, rfl⟩
  have hz0 : W0.heap.size = s + 3 := by rw [hW0, hs]; simp
  have hu0 : Up w W0 := by rw [hW0]; exact (by repeat (with_reducible first | exact Up.refl _ | refine Up.ext ?_ _ | refine Up.drew ?_ | refine Up.alloc ?_ _ | refine Up.setCell ?_ (by simp) _))
  have c2 : W0.cell? ⟨s + 2, 0, none⟩ = some (.pointer p) := by rw [hW0, hs]; simp [go_sem]
  have o1 : W0.heap[s + 1]? = some (.cells #[.slice none 0 0] 30 (0, 0)) := by
    rw [hW0, hs, Below.heap_alloc _ _ _ (by simp)]
    have := World.alloc_heap_new (w.alloc (.cells #[.int .u8 reason] 5)) (.cells #[.slice none 0 0] 30)
    rwa [World.size_alloc] at this
  rw [← hW0, ← hs]
  clear hW0
  have hbk : ∀ k, book noOwn W0.heap.size k → s + 3 ≤ k ∧ k < s + 5 := by
    intro k hk
    rw [hz0] at hk
    rcases hk with hk | rfl | rfl
    · exact hk.elim
    · omega
    · omega
  have hsw : w.heap.size ≤ s := by omega
  have Hs := Lib.hid hs
  clear hs
  refine wp_rangeFunc_upK (α := Nat × Ev) (gf := 58) (lb := #[.pointer (some ⟨s + 2, 0, none⟩)]) rfl (enters Tryz.func58 (by kernel_rfl) rfl)
    (kept_none (s + 2) p w h) (fun _ => rfl) ?hK0 ?hown ?hkp'
    (fun _ W => (Up w W ∧ s + 5 ≤ W.heap.size) ∧ W.heap[s + 1]? = some (.cells #[.slice none 0 0] 30 (0, 0)))
    (fun _ _ _ => False)
    (fun _ _ _ _ => False)
    ?hI ?hIx ?hA ?h0 ?assign ?body ?done ?stop
  case hK0 =>
    intro W1 hu hsz
    exact ⟨hu.cell_some' c2, hu0.trans hu⟩
  case hown => intro k hk; exact hk.elim
  case hkp' =>
    intro k hk
    rw [hz0]
    cases hk; omega
  case hI =>
    rintro pre X Y ⟨⟨hu, hz⟩, hv⟩ ht
    exact ⟨⟨ht.up hu (fun k hk => by have := hbk k hk; omega), Nat.le_trans hz ht.size⟩, ht.same hv (fun hk => by have := hbk _ hk; omega)⟩
  case hIx => intro c pre X Y h _; exact h
  case hA => intro pre x a1 X Y h _; exact h.elim
  case h0 =>
    intro W1 hu hsz
    exact ⟨⟨hu0.trans hu, by omega⟩, (hu.block (s + 1) (by omega)).trans o1⟩
  case assign =>
    intro l' pre x W _ hp
    have := hp.length_le
    simp at this
  case body => intro l' pre x a1 W h _; exact h.elim
  case done =>
    rintro xs W rfl ⟨⟨hu, hz⟩, hv⟩ hD
    have hcv := cell_of_one hv
    have HD := Lib.hid hD
    have Hbk := Lib.hid hbk
    clear hD hbk hv c2 o1 hu0
    go_wp2_with fail
    refine ⟨by simp, .inl ⟨_, _, rfl, run_takeDeferred HD.out, ?_⟩⟩
    have ht : Turn (fun k => k = W0.heap.size) W (W.putObj W0.heap.size (.deferred none)) := turn_putObj _ _ _ rfl
    exact ⟨_, results_tmp rfl _ _ _, rfl, (ht.up hu (fun k hk => by omega)).mk⟩
  case stop => intro c pre W h _; exact h.elim
theorem none_list (w : World) (p : Option Addr) (h : ∀ W, UpI w W → Gives Tryz.prog 31 #[.pointer p] W (.bool true)) :
    Calls Tryz.prog 14 #[.pointer p] w fun e w' => e = .returned (.slice none 0 0) ∧ ∃ x : Ext w, w' = x.w := by
  have hs := none_since w p h 0
  go_enter Tryz.func14, Tryz.ntmps14
  go_wp2_with (go_at_call 15; refine hs.mono ?_; rintro e w' ⟨rfl, x, rfl⟩)
  go_ret
  exact ⟨rfl, mkI⟩
set_option maxHeartbeats 4000000 in
theorem none_nil (w : World) : ∀ W, UpI w W → Gives Tryz.prog 31 #[.pointer none] W (.bool true) := fun W _ => by
  unfold Gives
  go_enter Tryz.func31, Tryz.ntmps31
  go_wp2_with fail
  go_ret
  exact ⟨rfl, mkI⟩
set_option maxHeartbeats 4000000 in
theorem none_empty (w : World) (R : Nat) (hR : w.cell? ⟨R, 0, none⟩ = some (.slice none 0 0)) : ∀ W, UpI w W → Gives Tryz.prog 31 #[.pointer (some ⟨R, 0, none⟩)] W (.bool true) := fun W hu => by
  have c := hu.up.cell_some' hR
  haveI : LtSize R W := ⟨cell_lt' c⟩
  unfold Gives
  go_enter Tryz.func31, Tryz.ntmps31
  go_wp2_with fail
  go_ret
  exact ⟨rfl, mkI⟩
end Go.Proofs.YtngmcljkmcdlmaaGreatDoor
