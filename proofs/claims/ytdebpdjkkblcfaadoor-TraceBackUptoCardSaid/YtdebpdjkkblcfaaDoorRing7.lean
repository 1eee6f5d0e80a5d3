/- The numbers of a ring's events of a reason. -/
import Derived.Test.YtdebpdjkkblcfaaDoorRing6
namespace Go.Ab
open Go.RowKit
def intCells (l : List Nat) : List Value := l.map fun n : Nat => .int .i64 (n : Int)
theorem intCells_snoc (l : List Nat) (n : Nat) : intCells (l ++ [n]) = intCells l ++ [.int .i64 (n : Int)] := by simp [intCells]
/-- The numbers of the events of a reason. -/
def whereL (reason : Int) (l : List (Nat × Ev)) : List Nat := (l.filter fun p => decide (p.2.r = reason)).map Prod.fst
theorem whereL_snoc (reason : Int) (l : List (Nat × Ev)) (p : Nat × Ev) : whereL reason (l ++ [p]) = whereL reason l ++ (if p.2.r = reason then [p.1] else []) := by
  unfold whereL
  rw [List.filter_append, List.map_append]
  by_cases h : p.2.r = reason <;> simp [h]
theorem whereL_length (reason : Int) (l : List (Nat × Ev)) : (whereL reason l).length ≤ l.length := by
  unfold whereL; rw [List.length_map]; exact List.length_filter_le _ _
end Go.Ab
namespace Go.Proofs.YtdebpdjkkblcfaaDoor
open Go.RowKit Go.Ab
theorem infoInt : (Tryd.prog.info? 3).map (fun i => (i.zero, i.size, i.bytes)) = some (some (.int .i64 0), 1, 8) := by kernel_rfl
attribute [local go_sem] Oper.semAt_some
set_option maxHeartbeats 8000000 in
set_option maxRecDepth 100000 in
theorem ring_where (w : World) (R G size : Nat) (l : List Ev) (h : Ring w R G size l) (reason : Int) :
    Calls Tryd.prog 32 #[.pointer (some ⟨R, 0, none⟩), .int .u8 reason] w fun e w' =>
      ∃ v, e = .returned v ∧ w'.ownsRow w.heap.size 3 1 v (whereL reason (keptL l size)).length (intCells (whereL reason (keptL l size))) ∧ ∃ x : Ext w, w' = x.w := by
  refine (callsIn_wide (n := 0)).1 (callsIn_of_wp_marks Tryd.func32 rfl trivial ?_ rfl)
  refine (wpIn_wide (n := 0)).2 ?_
  simp only [Tryd.ntmps32, List.size_toArray, List.length_cons, List.length_nil, Nat.reduceAdd, Nat.reduceSub, Array.replicate_succ, Array.replicate_zero, List.push_toArray, List.append_toArray, List.nil_append, List.cons_append]
  go_wp2_with (go_at_call 49; refine (kept_any R _).mono ?_; rintro e w' ⟨rfl, rfl⟩)
  obtain ⟨s, hs⟩ : ∃ s, s = w.heap.size := ⟨_, rfl⟩
  obtain ⟨W0, hW0⟩ : ∃ W0, W0 = ((w.alloc (.cells #[.int .u8 reason] 5)).alloc (.cells #[.slice none 0 0] 68)).alloc (.cells #[.pointer (some ⟨R, 0, none⟩)] 51) := ⟨_, rfl⟩
  have hz0 : W0.heap.size = s + 3 := by rw [hW0, hs]; simp
  have hu0 : Up w W0 := by rw [hW0]; exact (by repeat (with_reducible first | exact Up.refl _ | refine Up.ext ?_ _ | refine Up.drew ?_ | refine Up.alloc ?_ _ | refine Up.setCell ?_ (by simp) _))
  have c2 : W0.cell? ⟨s + 2, 0, none⟩ = some (.pointer (some ⟨R, 0, none⟩)) := by rw [hW0, hs]; simp [go_sem]
  have o0 : W0.heap[s]? = some (.cells #[.int .u8 reason] 5 (0, 0)) := by
    rw [hW0, hs, Below.heap_alloc _ _ _ (by simp; omega), Below.heap_alloc _ _ _ (by simp), World.alloc_heap_new]
  have o1 : W0.heap[s + 1]? = some (.cells #[.slice none 0 0] 68 (0, 0)) := by
    rw [hW0, hs, Below.heap_alloc _ _ _ (by simp)]
    have := World.alloc_heap_new (w.alloc (.cells #[.int .u8 reason] 5)) (.cells #[.slice none 0 0] 68)
    rwa [World.size_alloc] at this
  rw [← hW0, ← hs]
  clear hW0
  have hRs : R < s := by rw [hs]; exact h.ltR
  have hGs : G < s := by rw [hs]; exact h.ltG
  have hl := h.len
  have hbk : ∀ k, book noOwn W0.heap.size k → s + 3 ≤ k ∧ k < s + 5 := by
    intro k hk
    rw [hz0] at hk
    rcases hk with hk | rfl | rfl
    · exact hk.elim
    · omega
    · omega
  have hkp : ∀ k, book (keptOwn (s + 2) R G) W0.heap.size k → k < s ∨ s + 2 ≤ k ∧ k < s + 5 := by
    intro k hk
    rw [hz0] at hk
    rcases hk with (rfl | rfl | rfl) | rfl | rfl <;> omega
  have hsw : w.heap.size ≤ s := by omega
  have hsw2 : s ≤ w.heap.size := by omega
  have Hs := Lib.hid hs
  clear hs
  obtain ⟨i0, hi, hy0, hy1, hy2⟩ := info_parts infoInt
  refine wp_rangeFunc_upK (α := Nat × Ev) (gf := 65) (lb := #[.pointer (some ⟨s + 2, 0, none⟩)]) rfl (enters Tryd.func65 (by kernel_rfl) rfl)
    (kept_seq (s + 2) R G size l) (fun _ => rfl) ?hK0 ?hown ?hkp'
    (fun pre W => (Up w W ∧ s + 5 ≤ W.heap.size) ∧ W.heap[s]? = some (.cells #[.int .u8 reason] 5 (0, 0)) ∧ ∃ v, W.heap[s + 1]? = some (.cells #[v] 68 (0, 0)) ∧ W.ownsRow (s + 5) 3 1 v (whereL reason pre).length (intCells (whereL reason pre)))
    (fun _ _ _ => False)
    (fun pre x a1 W => (Up w W ∧ s + 5 ≤ W.heap.size) ∧ (W.heap[s]? = some (.cells #[.int .u8 reason] 5 (0, 0)) ∧ ∃ v, W.heap[s + 1]? = some (.cells #[v] 68 (0, 0)) ∧ W.ownsRow (s + 5) 3 1 v (whereL reason pre).length (intCells (whereL reason pre))) ∧
      ∃ bp, s + 5 ≤ bp ∧ W.heap[bp]? = some (.cells x.2.cells.toArray 31 (0, 0)) ∧
      a1 = { tmps := #[.pointer (some ⟨R, 0, none⟩), .int .u8 reason, undef, .pointer (some ⟨s, 0, none⟩), .slice none 0 0, .pointer (some ⟨s + 1, 0, none⟩), .int .i64 (x.1 : Int), .pointer (some ⟨bp, 0, none⟩), .pointer (some ⟨R, 0, none⟩),
        .func (.func 65) #[] #[.pointer (some ⟨s + 1 + 1, 0, none⟩)], .int .i64 (x.1 : Int), x.2.val, undef, undef, undef, undef, undef, undef, undef, undef, undef], defers := [] })
    ?hI ?hIx ?hA ?h0 ?assign ?body ?done ?stop
  case hK0 =>
    intro W1 hu hsz
    exact ⟨hu.cell_some' c2, h.up (hu0.trans hu)⟩
  case hown => intro k hk; exact hk.elim
  case hkp' =>
    intro k hk
    rw [hz0]
    rcases hk with rfl | rfl | rfl <;> omega
  case hI =>
    rintro pre X Y ⟨⟨hu, hz⟩, hn, v, hv, hown⟩ ht
    exact ⟨⟨ht.up hu (fun k hk => by have := hbk k hk; omega), Nat.le_trans hz ht.size⟩, ht.same hn (fun hk => by have := hbk _ hk; omega), v, ht.same hv (fun hk => by have := hbk _ hk; omega), owns_turn ht hown (fun k hk => (hbk k hk).2)⟩
  case hIx => intro c pre X Y h _; exact h
  case hA =>
    rintro pre x a1 X Y ⟨⟨hu, hz⟩, ⟨hn, v, hv, hown⟩, bp, hb5, hb, rfl⟩ ht
    exact ⟨⟨ht.up hu (fun k hk => by have := hbk k hk; omega), Nat.le_trans hz ht.size⟩, ⟨ht.same hn (fun hk => by have := hbk _ hk; omega), v, ht.same hv (fun hk => by have := hbk _ hk; omega), owns_turn ht hown (fun k hk => (hbk k hk).2)⟩,
      bp, hb5, ht.same hb (fun hk => by have := hbk _ hk; omega), rfl⟩
  case h0 =>
    intro W1 hu hsz
    exact ⟨⟨hu0.trans hu, by omega⟩, (hu.block s (by omega)).trans o0, _, (hu.block (s + 1) (by omega)).trans o1, World.ownsRow_nil _ _ _ _⟩
  case assign =>
    rintro l' pre ⟨n, e⟩ W ⟨⟨hu, hz⟩, hn, v, hv, hown⟩ _
    have Hv := Lib.hid hv
    have Hn := Lib.hid hn
    have Hown := Lib.hid hown
    have Hbk := Lib.hid hbk
    have Hkp := Lib.hid hkp
    clear hv hown hbk hkp hi hy0 hy1 hy2 c2 o0 o1 hu0 hn h
    rw [show encEv (n, e) = #[.int .i64 (n : Int), e.val] from rfl, foldl_two]
    unfold Ev.val
    show Code.wpIn (Fence.wide.inRound l') 0 Tryd.prog _ _ { tmps := #[.pointer (some ⟨R, 0, none⟩), .int .u8 reason, undef, .pointer (some ⟨s, 0, none⟩), .slice none 0 0, .pointer (some ⟨s + 1, 0, none⟩), undef, undef, .pointer (some ⟨R, 0, none⟩),
        .func (.func 65) #[] #[.pointer (some ⟨s + 1 + 1, 0, none⟩)], .int .i64 (n : Int), .agg #[.int .i64 e.n, .int .u8 e.sd, .int .u8 e.r, .int .u8 e.pr, .int .u32 e.s, .int .u32 e.d, .int .u16 e.sp, .int .u16 e.dp], undef, undef, undef, undef, undef, undef, undef, undef, undef], defers := [] } W
    gi_wp2
    exact ⟨(Kept.refl _ _).alloc _, ⟨hu.alloc _, by simp; omega⟩, ⟨(Below.heap_alloc _ _ _ (by omega)).trans Hn.out, v, (Below.heap_alloc _ _ _ (by omega)).trans Hv.out, owns_up Hown.out ((Up.refl W).alloc _)⟩, W.heap.size, hz, World.alloc_heap_new _ _, rfl⟩
  case body =>
    rintro l' pre ⟨n, e⟩ a1 W ⟨⟨hu, hz⟩, ⟨hn, v, hv, hown⟩, bp, hb5, hb, rfl⟩ hp
    have hlen : (whereL reason pre).length + 1 ≤ 4294967296 := by
      have h1 := hp.length_le
      have h2 := keptL_length l size
      have h3 := whereL_length reason pre
      simp at h1; omega
    have hcn := cell_of_one hn
    have hcv := cell_of_one hv
    have hfv := free_of_one hv
    have hp0 : W.cell? ⟨bp, 0, none⟩ = some (.int .i64 e.n) := by simp [World.cell?, hb, Ev.cells]
    have hp1 : W.cell? ⟨bp, 1, none⟩ = some (.int .u8 e.sd) := by simp [World.cell?, hb, Ev.cells]
    have hp2 : W.cell? ⟨bp, 2, none⟩ = some (.int .u8 e.r) := by simp [World.cell?, hb, Ev.cells]
    have hp3 : W.cell? ⟨bp, 3, none⟩ = some (.int .u8 e.pr) := by simp [World.cell?, hb, Ev.cells]
    have hp4 : W.cell? ⟨bp, 4, none⟩ = some (.int .u32 e.s) := by simp [World.cell?, hb, Ev.cells]
    have hp5 : W.cell? ⟨bp, 5, none⟩ = some (.int .u32 e.d) := by simp [World.cell?, hb, Ev.cells]
    have hp6 : W.cell? ⟨bp, 6, none⟩ = some (.int .u16 e.sp) := by simp [World.cell?, hb, Ev.cells]
    have hp7 : W.cell? ⟨bp, 7, none⟩ = some (.int .u16 e.dp) := by simp [World.cell?, hb, Ev.cells]
    have Hv := Lib.hid hv
    have Hn := Lib.hid hn
    have Hown := Lib.hid hown
    have Hbk := Lib.hid hbk
    have Hkp := Lib.hid hkp
    have Hi := Lib.hid hi; have Hy0 := Lib.hid hy0; have Hy1 := Lib.hid hy1; have Hy2 := Lib.hid hy2
    clear hv hown hbk hkp hi hy0 hy1 hy2 c2 o0 o1 hu0 hp hb hn h
    unfold Ev.val
    by_cases hge : e.r = reason
    · gi_wp2_with (gi_at_builtin; refine wpListIn_append_own _ rfl _ _ 68 rfl (s + 5) 3 i0 (.int .i64 0) 1 8 Tryd.underlying68 Hi.out Hy0.out Hy1.out Hy2.out rfl (by decide) _ _ _ rfl (owns_up Hown.out ((Up.refl W).alloc _)) ⟨W.heap.size, 0, none⟩ 1 1 [.int .i64 (n : Int)] rfl rfl ?c1 ?c2 ?c3 ?c4 ?c5 ?_)
      case c1 =>
        intro j u hj
        rcases j with _ | j
        · simp at hj; subst hj; simp [Addr.add, go_sem]
        · simp at hj
      case c2 =>
        intro u hu
        simp at hu
        subst hu; rfl
      case c3 => unfold maxLen; omega
      case c4 => omega
      case c5 => simp; omega
      intro v' w1 hown' hgrow _
      have hk1 : Hid (Kept (book (keptOwn (s + 2) R G) W0.heap.size) W w1) := ((Kept.refl _ _).alloc _).grown hgrow (fun r hr hb' => by have := owns_row Hown.out r hr; have := Hkp.out r hb'; omega)
      have hu1 : Up w w1 := (hu.alloc _).grown hgrow (fun r hr => by have := owns_row Hown.out r hr; omega)
      have hz1 : s + 5 ≤ w1.heap.size := by have := hgrow.size; simp at this; omega
      have hv1 : w1.heap[s + 1]? = some (.cells #[v] 68 (0, 0)) := by
        rw [hgrow.block (s + 1) (by simp; omega) (fun e => by have := owns_row Hown.out (s + 1) e.symm; omega), Below.heap_alloc _ _ _ (by omega)]; exact Hv.out
      have hn1 : w1.heap[s]? = some (.cells #[.int .u8 reason] 5 (0, 0)) := by
        rw [hgrow.block s (by simp; omega) (fun e => by have := owns_row Hown.out s e.symm; omega), Below.heap_alloc _ _ _ (by omega)]; exact Hn.out
      obtain ⟨g, cap, rfl, hg5⟩ := owns_slice hown'
      have hcv1 := cell_of_one hv1
      have hfv1 := free_of_one hv1
      have Hv1 := Lib.hid hv1
      have Hn1 := Lib.hid hn1
      have Hown' := Lib.hid hown'
      clear hv1 hn1 hown' hgrow hcv hfv hcn hp0 hp1 hp2 hp3 hp4 hp5 hp6 hp7 hu
      gi_wp2_with fail
      refine ⟨hk1.out.setCell (by intro h; have := Hkp.out _ h; simp at this; omega) _, ⟨hu1.setCell (by simp; omega) _, by simp; omega⟩, (Below.heap_setCell _ _ _ _ (by simp)).trans Hn1.out, _, one_setCell Hv1.out, ?_⟩
      rw [whereL_snoc, if_pos hge, List.length_append, intCells_snoc]
      exact owns_setBlock Hown'.out (by simp) _
    · gi_wp2_with fail
      refine ⟨Kept.refl _ _, ⟨hu, hz⟩, Hn.out, v, Hv.out, ?_⟩
      rw [whereL_snoc, if_neg hge, List.append_nil]
      exact Hown.out
  case done =>
    rintro xs W rfl ⟨⟨hu, hz⟩, hn, v, hv, hown⟩ hD
    have hcv := cell_of_one hv
    have Hown := Lib.hid hown
    have HD := Lib.hid hD
    have Hbk := Lib.hid hbk
    have Hv := Lib.hid hv
    clear hown hD hbk hv c2 o0 o1 hu0 hi hy0 hy1 hy2 hn
    go_wp2_with fail
    refine ⟨by simp, .inl ⟨_, _, rfl, run_takeDeferred HD.out, ?_⟩⟩
    have ht : Turn (fun k => k = W0.heap.size) W (W.putObj W0.heap.size (.deferred none)) := turn_putObj _ _ _ rfl
    exact ⟨_, results_tmp rfl _ _ _, v, rfl, owns_base (owns_turn ht Hown.out (fun k hk => by omega)) (by omega), (ht.up hu (fun k hk => by omega)).mk⟩
  case stop => intro c pre W h _; exact h.elim
end Go.Proofs.YtdebpdjkkblcfaaDoor
