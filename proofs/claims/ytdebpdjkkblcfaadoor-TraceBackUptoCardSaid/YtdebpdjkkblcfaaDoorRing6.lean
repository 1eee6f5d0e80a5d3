/- The events of a ring from a number on. -/
import Derived.Test.YtdebpdjkkblcfaaDoorRing5
namespace Go.Ab
open Go.RowKit
def evCells (l : List Ev) : List Value := l.flatMap Ev.cells
theorem evCells_snoc (l : List Ev) (e : Ev) : evCells (l ++ [e]) = evCells l ++ e.cells := by simp [evCells]
/-- The events from a number on. -/
def sinceL (number : Int) (l : List (Nat × Ev)) : List Ev := (l.filter fun p => decide (number ≤ (p.1 : Int))).map Prod.snd
theorem sinceL_snoc (number : Int) (l : List (Nat × Ev)) (p : Nat × Ev) : sinceL number (l ++ [p]) = sinceL number l ++ (if number ≤ (p.1 : Int) then [p.2] else []) := by
  unfold sinceL
  rw [List.filter_append, List.map_append]
  by_cases h : number ≤ (p.1 : Int) <;> simp [h]
theorem sinceL_length (number : Int) (l : List (Nat × Ev)) : (sinceL number l).length ≤ l.length := by
  unfold sinceL; rw [List.length_map]; exact List.length_filter_le _ _
theorem numbered_snd (l : List Ev) : ∀ n, (numbered n l).map Prod.snd = l := by
  induction l with
  | nil => intro n; rfl
  | cons e t ih => intro n; simp [numbered, ih]
theorem sinceL_zero (l : List (Nat × Ev)) : sinceL 0 l = l.map Prod.snd := by
  unfold sinceL
  rw [List.filter_eq_self.2 (fun p _ => by simp)]
/-- The events that a ring keeps. -/
def lastL (l : List Ev) (size : Nat) : List Ev := l.drop (l.length - min l.length size)
theorem since_zero (l : List Ev) (size : Nat) : sinceL 0 (keptL l size) = lastL l size := by
  rw [sinceL_zero]; exact numbered_snd _ _
end Go.Ab
namespace Go.Proofs.YtdebpdjkkblcfaaDoor
open Go.RowKit Go.Ab
attribute [local go_sem] Oper.semAt_some
set_option maxHeartbeats 8000000 in
set_option maxRecDepth 100000 in
theorem ring_since (w : World) (R G size : Nat) (l : List Ev) (h : Ring w R G size l) (number : Int) :
    Calls Tryd.prog 30 #[.pointer (some ⟨R, 0, none⟩), .int .i64 number] w fun e w' =>
      ∃ v, e = .returned v ∧ w'.ownsRow w.heap.size 31 8 v (sinceL number (keptL l size)).length (evCells (sinceL number (keptL l size))) ∧ ∃ x : Ext w, w' = x.w := by
  refine (callsIn_wide (n := 0)).1 (callsIn_of_wp_marks Tryd.func30 rfl trivial ?_ rfl)
  refine (wpIn_wide (n := 0)).2 ?_
  simp only [Tryd.ntmps30, List.size_toArray, List.length_cons, List.length_nil, Nat.reduceAdd, Nat.reduceSub, Array.replicate_succ, Array.replicate_zero, List.push_toArray, List.append_toArray, List.nil_append, List.cons_append]
  go_wp2_with (go_at_call 49; refine (kept_any R _).mono ?_; rintro e w' ⟨rfl, rfl⟩)
  obtain ⟨s, hs⟩ : ∃ s, s = w.heap.size := ⟨_, rfl⟩
  obtain ⟨W0, hW0⟩ : ∃ W0, W0 = ((w.alloc (.cells #[.int .i64 number] 3)).alloc (.cells #[.slice none 0 0] 49)).alloc (.cells #[.pointer (some ⟨R, 0, none⟩)] 51) := ⟨_, rfl⟩
  have hz0 : W0.heap.size = s + 3 := by rw [hW0, hs]; simp
  have hu0 : Up w W0 := by rw [hW0]; exact (by repeat (with_reducible first | exact Up.refl _ | refine Up.ext ?_ _ | refine Up.drew ?_ | refine Up.alloc ?_ _ | refine Up.setCell ?_ (by simp) _))
  have c2 : W0.cell? ⟨s + 2, 0, none⟩ = some (.pointer (some ⟨R, 0, none⟩)) := by rw [hW0, hs]; simp [go_sem]
  have o0 : W0.heap[s]? = some (.cells #[.int .i64 number] 3 (0, 0)) := by
    rw [hW0, hs, Below.heap_alloc _ _ _ (by simp; omega), Below.heap_alloc _ _ _ (by simp), World.alloc_heap_new]
  have o1 : W0.heap[s + 1]? = some (.cells #[.slice none 0 0] 49 (0, 0)) := by
    rw [hW0, hs, Below.heap_alloc _ _ _ (by simp)]
    have := World.alloc_heap_new (w.alloc (.cells #[.int .i64 number] 3)) (.cells #[.slice none 0 0] 49)
    rwa [World.size_alloc] at this
  rw [← hW0, ← hs]
  clear hW0
  have hRs : R < s := by rw [hs]; exact h.ltR
  have hGs : G < s := by rw [hs]; exact h.ltG
  have hl := h.len
  have hbk : ∀ k, book noOwn W0.heap.size k → s + 3 ≤ k ∧ k < s + 5 := by
    intro k hk
    rw [hz0] at hk
    rcases hk with hk | rfl | rfl
    · exact hk.elim
    · omega
    · omega
  have hkp : ∀ k, book (keptOwn (s + 2) R G) W0.heap.size k → k < s ∨ s + 2 ≤ k ∧ k < s + 5 := by
    intro k hk
    rw [hz0] at hk
    rcases hk with (rfl | rfl | rfl) | rfl | rfl <;> omega
  have hsw : w.heap.size ≤ s := by omega
  have hsw2 : s ≤ w.heap.size := by omega
  have Hs := Lib.hid hs
  clear hs
  obtain ⟨i0, hi, hy0, hy1, hy2⟩ := info_parts infoEvent
  refine wp_rangeFunc_upK (α := Nat × Ev) (gf := 65) (lb := #[.pointer (some ⟨s + 2, 0, none⟩)]) rfl (enters Tryd.func65 (by kernel_rfl) rfl)
    (kept_seq (s + 2) R G size l) (fun _ => rfl) ?hK0 ?hown ?hkp'
    (fun pre W => (Up w W ∧ s + 5 ≤ W.heap.size) ∧ W.heap[s]? = some (.cells #[.int .i64 number] 3 (0, 0)) ∧ ∃ v, W.heap[s + 1]? = some (.cells #[v] 49 (0, 0)) ∧ W.ownsRow (s + 5) 31 8 v (sinceL number pre).length (evCells (sinceL number pre)))
    (fun _ _ _ => False)
    (fun pre x a1 W => (Up w W ∧ s + 5 ≤ W.heap.size) ∧ (W.heap[s]? = some (.cells #[.int .i64 number] 3 (0, 0)) ∧ ∃ v, W.heap[s + 1]? = some (.cells #[v] 49 (0, 0)) ∧ W.ownsRow (s + 5) 31 8 v (sinceL number pre).length (evCells (sinceL number pre))) ∧
      ∃ bp, s + 5 ≤ bp ∧ W.heap[bp]? = some (.cells x.2.cells.toArray 31 (0, 0)) ∧
      a1 = { tmps := #[.pointer (some ⟨R, 0, none⟩), .int .i64 number, undef, .pointer (some ⟨s, 0, none⟩), .slice none 0 0, .pointer (some ⟨s + 1, 0, none⟩), .int .i64 (x.1 : Int), .pointer (some ⟨bp, 0, none⟩), .pointer (some ⟨R, 0, none⟩),
        .func (.func 65) #[] #[.pointer (some ⟨s + 1 + 1, 0, none⟩)], .int .i64 (x.1 : Int), x.2.val, undef, undef, undef, undef, undef, undef, undef, undef], defers := [] })
    ?hI ?hIx ?hA ?h0 ?assign ?body ?done ?stop
  case hK0 =>
    intro W1 hu hsz
    exact ⟨hu.cell_some' c2, h.up (hu0.trans hu)⟩
  case hown => intro k hk; exact hk.elim
  case hkp' =>
    intro k hk
    rw [hz0]
    rcases hk with rfl | rfl | rfl <;> omega
  case hI =>
    rintro pre X Y ⟨⟨hu, hz⟩, hn, v, hv, hown⟩ ht
    exact ⟨⟨ht.up hu (fun k hk => by have := hbk k hk; omega), Nat.le_trans hz ht.size⟩, ht.same hn (fun hk => by have := hbk _ hk; omega), v, ht.same hv (fun hk => by have := hbk _ hk; omega), owns_turn ht hown (fun k hk => (hbk k hk).2)⟩
  case hIx => intro c pre X Y h _; exact h
  case hA =>
    rintro pre x a1 X Y ⟨⟨hu, hz⟩, ⟨hn, v, hv, hown⟩, bp, hb5, hb, rfl⟩ ht
    exact ⟨⟨ht.up hu (fun k hk => by have := hbk k hk; omega), Nat.le_trans hz ht.size⟩, ⟨ht.same hn (fun hk => by have := hbk _ hk; omega), v, ht.same hv (fun hk => by have := hbk _ hk; omega), owns_turn ht hown (fun k hk => (hbk k hk).2)⟩,
      bp, hb5, ht.same hb (fun hk => by have := hbk _ hk; omega), rfl⟩
  case h0 =>
    intro W1 hu hsz
    exact ⟨⟨hu0.trans hu, by omega⟩, (hu.block s (by omega)).trans o0, _, (hu.block (s + 1) (by omega)).trans o1, World.ownsRow_nil _ _ _ _⟩
  case assign =>
    rintro l' pre ⟨n, e⟩ W ⟨⟨hu, hz⟩, hn, v, hv, hown⟩ _
    have Hv := Lib.hid hv
    have Hn := Lib.hid hn
    have Hown := Lib.hid hown
    have Hbk := Lib.hid hbk
    have Hkp := Lib.hid hkp
    clear hv hown hbk hkp hi hy0 hy1 hy2 c2 o0 o1 hu0 hn h
    rw [show encEv (n, e) = #[.int .i64 (n : Int), e.val] from rfl, foldl_two]
    unfold Ev.val
    show Code.wpIn (Fence.wide.inRound l') 0 Tryd.prog _ _ { tmps := #[.pointer (some ⟨R, 0, none⟩), .int .i64 number, undef, .pointer (some ⟨s, 0, none⟩), .slice none 0 0, .pointer (some ⟨s + 1, 0, none⟩), undef, undef, .pointer (some ⟨R, 0, none⟩),
        .func (.func 65) #[] #[.pointer (some ⟨s + 1 + 1, 0, none⟩)], .int .i64 (n : Int), .agg #[.int .i64 e.n, .int .u8 e.sd, .int .u8 e.r, .int .u8 e.pr, .int .u32 e.s, .int .u32 e.d, .int .u16 e.sp, .int .u16 e.dp], undef, undef, undef, undef, undef, undef, undef, undef], defers := [] } W
    gi_wp2
    exact ⟨(Kept.refl _ _).alloc _, ⟨hu.alloc _, by simp; omega⟩, ⟨(Below.heap_alloc _ _ _ (by omega)).trans Hn.out, v, (Below.heap_alloc _ _ _ (by omega)).trans Hv.out, owns_up Hown.out ((Up.refl W).alloc _)⟩, W.heap.size, hz, World.alloc_heap_new _ _, rfl⟩
  case body =>
    rintro l' pre ⟨n, e⟩ a1 W ⟨⟨hu, hz⟩, ⟨hn, v, hv, hown⟩, bp, hb5, hb, rfl⟩ hp
    have hlen : (sinceL number pre).length + 1 ≤ 4294967296 := by
      have h1 := hp.length_le
      have h2 := keptL_length l size
      have h3 := sinceL_length number pre
      simp at h1; omega
    have hcn := cell_of_one hn
    have hcv := cell_of_one hv
    have hfv := free_of_one hv
    have hp0 : W.cell? ⟨bp, 0, none⟩ = some (.int .i64 e.n) := by simp [World.cell?, hb, Ev.cells]
    have hp1 : W.cell? ⟨bp, 1, none⟩ = some (.int .u8 e.sd) := by simp [World.cell?, hb, Ev.cells]
    have hp2 : W.cell? ⟨bp, 2, none⟩ = some (.int .u8 e.r) := by simp [World.cell?, hb, Ev.cells]
    have hp3 : W.cell? ⟨bp, 3, none⟩ = some (.int .u8 e.pr) := by simp [World.cell?, hb, Ev.cells]
    have hp4 : W.cell? ⟨bp, 4, none⟩ = some (.int .u32 e.s) := by simp [World.cell?, hb, Ev.cells]
    have hp5 : W.cell? ⟨bp, 5, none⟩ = some (.int .u32 e.d) := by simp [World.cell?, hb, Ev.cells]
    have hp6 : W.cell? ⟨bp, 6, none⟩ = some (.int .u16 e.sp) := by simp [World.cell?, hb, Ev.cells]
    have hp7 : W.cell? ⟨bp, 7, none⟩ = some (.int .u16 e.dp) := by simp [World.cell?, hb, Ev.cells]
    have Hv := Lib.hid hv
    have Hn := Lib.hid hn
    have Hown := Lib.hid hown
    have Hbk := Lib.hid hbk
    have Hkp := Lib.hid hkp
    have Hi := Lib.hid hi; have Hy0 := Lib.hid hy0; have Hy1 := Lib.hid hy1; have Hy2 := Lib.hid hy2
    clear hv hown hbk hkp hi hy0 hy1 hy2 c2 o0 o1 hu0 hp hb hn h
    unfold Ev.val
    by_cases hge : number ≤ (n : Int)
    · gi_wp2_with (gi_at_builtin; refine wpListIn_append_own _ rfl _ _ 49 rfl (s + 5) 31 i0 Ev.zero.val 8 32 Tryd.underlying49 Hi.out Hy0.out Hy1.out Hy2.out rfl (by decide) _ _ _ rfl (owns_up Hown.out ((Up.refl W).alloc _)) ⟨W.heap.size, 0, none⟩ 1 1 e.cells rfl rfl ?c1 ?c2 ?c3 ?c4 ?c5 ?_)
      case c1 =>
        intro j u hj
        have hj8 : j < 8 := (List.getElem?_eq_some_iff.1 hj).1
        rcases (by omega : j = 0 ∨ j = 1 ∨ j = 2 ∨ j = 3 ∨ j = 4 ∨ j = 5 ∨ j = 6 ∨ j = 7) with rfl | rfl | rfl | rfl | rfl | rfl | rfl | rfl
        all_goals (simp [Ev.cells] at hj; subst hj; simp [Addr.add, go_sem])
      case c2 =>
        intro u hu
        simp [Ev.cells] at hu
        rcases hu with rfl | rfl | rfl | rfl | rfl | rfl | rfl | rfl <;> rfl
      case c3 => unfold maxLen; omega
      case c4 => omega
      case c5 => simp; omega
      intro v' w1 hown' hgrow _
      have hk1 : Hid (Kept (book (keptOwn (s + 2) R G) W0.heap.size) W w1) := ((Kept.refl _ _).alloc _).grown hgrow (fun r hr hb' => by have := owns_row Hown.out r hr; have := Hkp.out r hb'; omega)
      have hu1 : Up w w1 := (hu.alloc _).grown hgrow (fun r hr => by have := owns_row Hown.out r hr; omega)
      have hz1 : s + 5 ≤ w1.heap.size := by have := hgrow.size; simp at this; omega
      have hv1 : w1.heap[s + 1]? = some (.cells #[v] 49 (0, 0)) := by
        rw [hgrow.block (s + 1) (by simp; omega) (fun e => by have := owns_row Hown.out (s + 1) e.symm; omega), Below.heap_alloc _ _ _ (by omega)]; exact Hv.out
      have hn1 : w1.heap[s]? = some (.cells #[.int .i64 number] 3 (0, 0)) := by
        rw [hgrow.block s (by simp; omega) (fun e => by have := owns_row Hown.out s e.symm; omega), Below.heap_alloc _ _ _ (by omega)]; exact Hn.out
      obtain ⟨g, cap, rfl, hg5⟩ := owns_slice hown'
      have hcv1 := cell_of_one hv1
      have hfv1 := free_of_one hv1
      have Hv1 := Lib.hid hv1
      have Hn1 := Lib.hid hn1
      have Hown' := Lib.hid hown'
      clear hv1 hn1 hown' hgrow hcv hfv hcn hp0 hp1 hp2 hp3 hp4 hp5 hp6 hp7 hu
      gi_wp2_with fail
      refine ⟨hk1.out.setCell (by intro h; have := Hkp.out _ h; simp at this; omega) _, ⟨hu1.setCell (by simp; omega) _, by simp; omega⟩, (Below.heap_setCell _ _ _ _ (by simp)).trans Hn1.out, _, one_setCell Hv1.out, ?_⟩
      rw [sinceL_snoc, if_pos hge, List.length_append, evCells_snoc]
      exact owns_setBlock Hown'.out (by simp) _
    · gi_wp2_with fail
      refine ⟨Kept.refl _ _, ⟨hu, hz⟩, Hn.out, v, Hv.out, ?_⟩
      rw [sinceL_snoc, if_neg (by omega), List.append_nil]
      exact Hown.out
  case done =>
    rintro xs W rfl ⟨⟨hu, hz⟩, hn, v, hv, hown⟩ hD
    have hcv := cell_of_one hv
    have Hown := Lib.hid hown
    have HD := Lib.hid hD
    have Hbk := Lib.hid hbk
    have Hv := Lib.hid hv
    clear hown hD hbk hv c2 o0 o1 hu0 hi hy0 hy1 hy2 hn
    go_wp2_with fail
    refine ⟨by simp, .inl ⟨_, _, rfl, run_takeDeferred HD.out, ?_⟩⟩
    have ht : Turn (fun k => k = W0.heap.size) W (W.putObj W0.heap.size (.deferred none)) := turn_putObj _ _ _ rfl
    exact ⟨_, results_tmp rfl _ _ _, v, rfl, owns_base (owns_turn ht Hown.out (fun k hk => by omega)) (by omega), (ht.up hu (fun k hk => by omega)).mk⟩
  case stop => intro c pre W h _; exact h.elim
set_option maxHeartbeats 4000000 in
theorem ring_list (w : World) (R G size : Nat) (l : List Ev) (h : Ring w R G size l) :
    Calls Tryd.prog 22 #[.pointer (some ⟨R, 0, none⟩)] w fun e w' =>
      ∃ v, e = .returned v ∧ w'.ownsRow w.heap.size 31 8 v (lastL l size).length (evCells (lastL l size)) ∧ ∃ x : Ext w, w' = x.w := by
  have hs := ring_since w R G size l h 0
  rw [since_zero] at hs
  go_enter Tryd.func22, Tryd.ntmps22
  go_wp2_with (go_at_call 30; refine hs.mono ?_; rintro e w' ⟨v, rfl, hown, x, rfl⟩)
  go_ret
  exact ⟨v, rfl, hown, mkI⟩
end Go.Proofs.YtdebpdjkkblcfaaDoor
