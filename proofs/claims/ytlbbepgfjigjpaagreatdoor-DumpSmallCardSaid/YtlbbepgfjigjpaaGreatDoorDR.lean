/- Package dump: the changes between two dumps. -/
import Derived.Test.YtlbbepgfjigjpaaGreatDoorInRound
import Derived.Test.YtlbbepgfjigjpaaGreatDoorEqCh
import Derived.Test.YtlbbepgfjigjpaaGreatDoorDQ
namespace Go.Proofs.YtlbbepgfjigjpaaGreatDoor
open Go.RowKit Go.Ab
set_option maxHeartbeats 8000000 in
set_option maxRecDepth 100000 in
theorem ddiff_no (a b : List Ln) (va vb : Value) (w : World) (ha : LnRow w va a) (hb : LnRow w vb b) (ba : ∀ x ∈ a, LnB x) (bb : ∀ x ∈ b, LnB x) (la : a.length ≤ 1000000) (lb : b.length ≤ 1000000) (h : (orderedL a && orderedL b) = false) :
    Gives Tryz.prog 8 #[va, vb] w (.tuple #[.slice none 0 0, .int .i64 383]) := by
  have h1 := fun (W : World) (u : UpI w W) => dordered_any a va W (ha.up u.up) ba (by omega)
  have h2 := fun (W : World) (u : UpI w W) => dordered_any b vb W (hb.up u.up) bb (by omega)
  obtain ⟨p, c, rfl, _, _⟩ := ha
  obtain ⟨q, d, rfl, _, _⟩ := hb
  unfold Gives
  clear ba bb la lb
  cases ho : orderedL a
  · rw [ho] at h1
    clear h2 h
    go_enter Tryz.func8, Tryz.ntmps8
    go_wp2_with (first
      | (go_at_call 21; (with_reducible refine (h1 _ inferInstance).mono ?_); rintro e w' ⟨rfl, x, rfl⟩))
    go_ret2
    exact ⟨rfl, mkI⟩
  · rw [ho, Bool.true_and] at h
    rw [ho] at h1
    rw [h] at h2
    generalize a.length = n at *
    generalize b.length = m at *
    go_enter Tryz.func8, Tryz.ntmps8
    go_wp2_with (first
      | (go_at_call 21; refine (h1 _ inferInstance).mono ?_; clear h1; rintro e w' ⟨rfl, x, rfl⟩)
      | (go_at_call 21; refine (h2 _ inferInstance).mono ?_; rintro e w' ⟨rfl, x2, rfl⟩))
    go_ret2
    exact ⟨rfl, mkI⟩
end Go.Proofs.YtlbbepgfjigjpaaGreatDoor
namespace Go.Ab
open Go.RowKit Go.Proofs.YtlbbepgfjigjpaaGreatDoor
theorem pairsP_mem : ∀ (n : Nat) (a b : List LA) (x : PR), x ∈ pairsP n a b → (∀ u, x.1 = some u → u ∈ a) ∧ (∀ u, x.2 = some u → u ∈ b) ∧ (x.1 = none → x.2 ≠ none)
  | 0, _, _, _, h => by simp [pairsP] at h
  | n + 1, [], [], _, h => by simp [pairsP] at h
  | n + 1, a :: us, [], x, h => by
    rw [pairsP] at h
    rcases List.mem_cons.1 h with rfl | h
    · exact ⟨fun u e => (by cases e; simp), fun u e => (by cases e), fun e => (by cases e)⟩
    · have := pairsP_mem n us [] x h
      exact ⟨fun u e => by simp [this.1 u e], this.2.1, this.2.2⟩
  | n + 1, [], b :: vs, x, h => by
    rw [pairsP] at h
    rcases List.mem_cons.1 h with rfl | h
    · exact ⟨fun u e => (by cases e), fun u e => (by cases e; simp), fun _ e => (by cases e)⟩
    · have := pairsP_mem n [] vs x h
      exact ⟨this.1, fun u e => by simp [this.2.1 u e], this.2.2⟩
  | n + 1, a :: us, b :: vs, x, h => by
    rw [pairsP] at h
    split at h
    · rcases List.mem_cons.1 h with rfl | h
      · exact ⟨fun u e => (by cases e; simp), fun u e => (by cases e), fun e => (by cases e)⟩
      · have := pairsP_mem n us (b :: vs) x h
        exact ⟨fun u e => by simp [this.1 u e], this.2.1, this.2.2⟩
    · split at h
      · rcases List.mem_cons.1 h with rfl | h
        · exact ⟨fun u e => (by cases e), fun u e => (by cases e; simp), fun _ e => (by cases e)⟩
        · have := pairsP_mem n (a :: us) vs x h
          exact ⟨this.1, fun u e => by simp [this.2.1 u e], this.2.2⟩
      · rcases List.mem_cons.1 h with rfl | h
        · exact ⟨fun u e => (by cases e; simp), fun u e => (by cases e; simp), fun e => (by cases e)⟩
        · have := pairsP_mem n us vs x h
          exact ⟨fun u e => by simp [this.1 u e], fun u e => by simp [this.2.1 u e], this.2.2⟩
theorem pairsP_length : ∀ (n : Nat) (a b : List LA), (pairsP n a b).length ≤ n
  | 0, _, _ => by simp [pairsP]
  | n + 1, [], [] => by simp [pairsP]
  | n + 1, a :: us, [] => by have := pairsP_length n us []; simp [pairsP]; omega
  | n + 1, [], b :: vs => by have := pairsP_length n [] vs; simp [pairsP]; omega
  | n + 1, a :: us, b :: vs => by
    have h1 := pairsP_length n us (b :: vs); have h2 := pairsP_length n (a :: us) vs; have h3 := pairsP_length n us vs
    rw [pairsP]
    split
    · simp; omega
    · split <;> (simp; omega)
theorem chOf_length (p : Option Ln × Option Ln) : (chOf p).length ≤ 1 := by
  obtain ⟨_ | a, _ | b⟩ := p <;> simp [chOf]
  split <;> simp
theorem chOf_flat_length : ∀ l : List (Option Ln × Option Ln), (l.flatMap chOf).length ≤ l.length
  | [] => by simp
  | p :: t => by have h1 := chOf_length p; have h2 := chOf_flat_length t; rw [List.flatMap_cons, List.length_append, List.length_cons]; omega
theorem chOf_same (u : Ln) (p q : Addr) : (List.map offP [((some (u, p), some (u, q)) : PR)]).flatMap chOf = [] := by simp [offP, chOf]
theorem chOf_diff (u y : Ln) (p q : Addr) (h : ¬ u = y) : (List.map offP [((some (u, p), some (y, q)) : PR)]).flatMap chOf = [⟨3, u, y⟩] := by simp [offP, chOf, h]
theorem chg_at (W : World) (c : Ch) (t : TypeId) (j : Nat) (u : Value) (h : c.cells[j]? = some u) : (W.alloc (.cells c.cells.toArray t)).cell? (Addr.add ⟨W.heap.size, 0, none⟩ j) = some u := by
  have e : Addr.add ⟨W.heap.size, 0, none⟩ j = ⟨W.heap.size, j, none⟩ := by cases j <;> simp [Addr.add]
  rw [e, World.cell?_alloc_at _ _ _ _ rfl]; simpa using h
theorem Ln.one (c : Ln) (u : Value) (h : u ∈ c.cells) : u.oneCell' = true := by
  simp [Ln.cells] at h
  rcases h with rfl | rfl | rfl | rfl | rfl | rfl | rfl | rfl | rfl | rfl | rfl <;> rfl
theorem chg_one (c : Ch) (u : Value) (h : u ∈ c.cells) : u.oneCell' = true := by
  unfold Ch.cells at h
  rcases List.mem_cons.1 h with rfl | h
  · rfl
  · rcases List.mem_append.1 h with h | h
    · exact c.old.one u h
    · exact c.new.one u h
end Go.Ab
namespace Go.Proofs.YtlbbepgfjigjpaaGreatDoor
open Go.RowKit Go.Ab
attribute [local go_sem] Oper.semAt_some
attribute [local go_sem high] eq_line
theorem infoChange : (Tryz.prog.info? 44).map (fun i => (i.zero, i.size, i.bytes)) = some (some (Ch.val ⟨0, Ln.zero, Ln.zero⟩), 23, 88) := by kernel_rfl
set_option maxHeartbeats 32000000 in
set_option maxRecDepth 100000 in
theorem ddiff_yes (a b : List Ln) (va vb : Value) (w : World) (ha : LnRow w va a) (hb : LnRow w vb b) (ba : ∀ x ∈ a, LnB x) (bb : ∀ x ∈ b, LnB x) (la : a.length ≤ 1000000) (lb : b.length ≤ 1000000) (h1 : orderedL a = true) (h2 : orderedL b = true) :
    Calls Tryz.prog 8 #[va, vb] w fun e w' => ∃ u, e = .returned (.tuple #[u, .int .i64 0]) ∧ w'.ownsRow w.heap.size 44 23 u (diffL a b).length ((diffL a b).flatMap Ch.cells) ∧ ∃ x : Ext w, w' = x.w := by
  have o1 := fun (W : World) (u : UpI w W) => (dordered_any a va W (ha.up u.up) ba (by omega)).cast (by rw [h1])
  have o2 := fun (W : World) (u : UpI w W) => (dordered_any b vb W (hb.up u.up) bb (by omega)).cast (by rw [h2])
  obtain ⟨p, c, rfl, hp1, hp2⟩ := ha
  obtain ⟨q, d, rfl, hq1, hq2⟩ := hb
  obtain ⟨_, laddr, hla, hlal, hra⟩ := RowP.of_row (p := p) (cap := c) ⟨p, c, rfl, hp1, hp2⟩ ba
  obtain ⟨_, lbddr, hlb, hlbl, hrb⟩ := RowP.of_row (p := q) (cap := d) ⟨q, d, rfl, hq1, hq2⟩ bb
  have HA := Lib.hid hra; have HB := Lib.hid hrb
  have HD := Lib.hid (show diffL a b = ((pairsP (a.length + b.length) laddr lbddr).map offP).flatMap chOf by unfold diffL; rw [pairsP_off, hla, hlb])
  obtain ⟨n, hn⟩ : ∃ n, a.length = n := ⟨_, rfl⟩
  obtain ⟨m, hm⟩ : ∃ m, b.length = m := ⟨_, rfl⟩
  rw [hn] at hp1 la hlal HD o1
  rw [hm] at hq1 lb hlbl HD o2
  rw [hn, hm]
  clear hra hrb hp2 hq2 ba bb hla hlb h1 h2 hn hm
  refine (callsIn_wide (n := 0)).1 (callsIn_of_wp_marks Tryz.func8 rfl trivial ?_ rfl)
  refine (wpIn_wide (n := 0)).2 ?_
  simp only [Tryz.ntmps8, List.size_toArray, List.length_cons, List.length_nil, Nat.reduceAdd, Nat.reduceSub, Array.replicate_succ, Array.replicate_zero, List.push_toArray, List.append_toArray, List.nil_append, List.cons_append]
  go_wp2_with (first
    | (go_at_call 21; refine (o1 _ inferInstance).mono ?_; clear o1; rintro e w' ⟨rfl, x, rfl⟩)
    | (go_at_call 21; refine (o2 _ inferInstance).mono ?_; clear o2; rintro e w' ⟨rfl, x2, rfl⟩)
    | (go_at_call 22; refine (pairs_any _ _ _ p q n m c d rfl rfl).mono ?_; rintro e w' ⟨rfl, rfl⟩))
  obtain ⟨s, hs⟩ : ∃ s, s = x2.w.heap.size := ⟨_, rfl⟩
  obtain ⟨W0, hW0⟩ : ∃ W0, W0 = ((x2.w.alloc (.cells #[.slice none 0 0] 37)).alloc (.cells #[.slice p n c] 22)).alloc (.cells #[.slice q m d] 22) := ⟨_, rfl⟩
  have hz0 : W0.heap.size = s + 3 := by rw [hW0, hs]; simp
  have hu0 : Up w W0 := by rw [hW0]; exact upI
  have hsw : w.heap.size ≤ s := by rw [hs]; exact (upI : Up w x2.w).size
  have c1 : W0.cell? ⟨s + 1, 0, none⟩ = some (.slice p n c) := by rw [hW0, hs]; simp [go_sem]
  have f1 : W0.frozen? ⟨s + 1, 0, none⟩ = false := by rw [hW0, hs]; simp [go_sem]
  have c2 : W0.cell? ⟨s + 2, 0, none⟩ = some (.slice q m d) := by rw [hW0, hs]; simp [go_sem]
  have f2 : W0.frozen? ⟨s + 2, 0, none⟩ = false := by rw [hW0, hs]; simp [go_sem]
  have o1 : W0.heap[s]? = some (.cells #[.slice none 0 0] 37 (0, 0)) := by
    rw [hW0, hs, Below.heap_alloc _ _ _ (by simp; omega), Below.heap_alloc _ _ _ (by simp), World.alloc_heap_new]
  rw [← hW0, ← hs]
  clear hW0 hs
  have hbk : ∀ k, book (ownP (s + 1) (s + 2)) W0.heap.size k → s + 1 ≤ k ∧ k < s + 5 := by
    intro k hk
    rw [hz0] at hk
    rcases hk with (rfl | rfl) | rfl | rfl <;> omega
  have hkp : ∀ k, book (kpP w.heap.size (s + 1) (s + 2)) W0.heap.size k → k < w.heap.size ∨ s + 1 ≤ k ∧ k < s + 5 := by
    intro k hk
    rw [hz0] at hk
    rcases hk with (h | rfl | rfl) | rfl | rfl <;> omega
  obtain ⟨i0, hi, hy0, hy1, hy2⟩ := info_parts infoChange
  refine wp_rangeFunc_upK (α := PR) (gf := 56) (lb := #[.pointer (some ⟨s + 1, 0, none⟩), .pointer (some ⟨s + 1 + 1, 0, none⟩)]) rfl (enters Tryz.func56 (by kernel_rfl) rfl)
    (pairs_seq w.heap.size (s + 1) (s + 1 + 1) (n + m) laddr lbddr (by omega) (by omega) (by omega) (by omega) (by omega)) (fun _ => rfl) ?hK0 ?hown ?hkp'
    (fun pre W => (Up w W ∧ s + 5 ≤ W.heap.size) ∧ ∃ v, W.heap[s]? = some (.cells #[v] 37 (0, 0)) ∧ W.ownsRow (s + 5) 44 23 v ((pre.map offP).flatMap chOf).length (((pre.map offP).flatMap chOf).flatMap Ch.cells))
    (fun _ _ _ => False)
    (fun pre x a1 W => ((Up w W ∧ s + 5 ≤ W.heap.size) ∧ ∃ v, W.heap[s]? = some (.cells #[v] 37 (0, 0)) ∧ W.ownsRow (s + 5) 44 23 v ((pre.map offP).flatMap chOf).length (((pre.map offP).flatMap chOf).flatMap Ch.cells)) ∧ a1 = { tmps := #[.slice p n c, .slice q m d, undef, undef, .slice none 0 0, .int .i64 0, .pointer (some ⟨s, 0, none⟩), .pointer (x.1.map Prod.snd), .pointer (x.2.map Prod.snd), .slice p n c, .bool true, .bool false, .bool false, .slice q m d, .bool true, .bool false, .bool false, .slice p n c, .slice q m d, .func (.func 56) #[] #[.pointer (some ⟨s + 1, 0, none⟩), .pointer (some ⟨s + 1 + 1, 0, none⟩)], .pointer (x.1.map Prod.snd), .pointer (x.2.map Prod.snd), undef, undef, undef, undef, undef, undef, undef, undef, undef, undef, undef, undef, undef, undef, undef, undef, undef, undef, undef, undef, undef, undef, undef, undef, undef, undef, undef, undef, undef, undef, undef, undef, undef, undef, undef, undef, undef, undef, undef], defers := [] })
    ?hI ?hIx ?hA ?h0 ?assign ?body ?done ?stop
  case hK0 =>
    intro W1 hu hsz
    exact ⟨⟨p, c, ⟨by rw [hlal]; exact hu.cell_some c1, (hu.frozen_lt (by omega)).trans f1, by rw [hlal]; exact hp1, HA.out.kept (⟨(hu0.trans hu).size, fun k hk _ => (hu0.trans hu).block k hk⟩ : Kept (fun k => k < w.heap.size) w W1) (fun _ h => h)⟩⟩, q, d, ⟨by rw [hlbl]; exact hu.cell_some c2, (hu.frozen_lt (by omega)).trans f2, by rw [hlbl]; exact hq1, HB.out.kept (⟨(hu0.trans hu).size, fun k hk _ => (hu0.trans hu).block k hk⟩ : Kept (fun k => k < w.heap.size) w W1) (fun _ h => h)⟩⟩
  case hown =>
    intro k hk
    rw [hz0]
    rcases hk with rfl | rfl <;> omega
  case hkp' =>
    intro k hk
    rw [hz0]
    rcases hk with h | rfl | rfl <;> omega
  case hI =>
    rintro pre X Y ⟨⟨hu, hz⟩, v, hv, hown⟩ ht
    exact ⟨⟨ht.up hu (fun k hk => by have := hbk k hk; omega), Nat.le_trans hz ht.size⟩, v, ht.same hv (fun hk => by have := hbk _ hk; omega), owns_turn ht hown (fun k hk => (hbk k hk).2)⟩
  case hIx => intro c pre X Y h _; exact h
  case hA =>
    rintro pre x a1 X Y ⟨⟨⟨hu, hz⟩, v, hv, hown⟩, rfl⟩ ht
    exact ⟨⟨⟨ht.up hu (fun k hk => by have := hbk k hk; omega), Nat.le_trans hz ht.size⟩, v, ht.same hv (fun hk => by have := hbk _ hk; omega), owns_turn ht hown (fun k hk => (hbk k hk).2)⟩, rfl⟩
  case h0 =>
    intro W1 hu hsz
    exact ⟨⟨hu0.trans hu, by omega⟩, _, (hu.block s (by omega)).trans o1, World.ownsRow_nil _ _ _ _⟩
  case assign =>
    rintro l' pre x W ⟨⟨hu, hz⟩, v, hv, hown⟩ _
    have HI := Lib.hid (show (Up w W ∧ s + 5 ≤ W.heap.size) ∧ ∃ v, W.heap[s]? = some (.cells #[v] 37 (0, 0)) ∧ W.ownsRow (s + 5) 44 23 v ((pre.map offP).flatMap chOf).length (((pre.map offP).flatMap chOf).flatMap Ch.cells) from ⟨⟨hu, hz⟩, v, hv, hown⟩)
    have Hbk := Lib.hid hbk
    have Hkp := Lib.hid hkp
    clear hv hown hbk hkp hi hy0 hy1 hy2 c1 c2 f1 f2 o1 hu0 hu hz
    rw [show encP x = #[.pointer (x.1.map Prod.snd), .pointer (x.2.map Prod.snd)] from rfl, foldl_two]
    obtain ⟨px, hpx⟩ : ∃ px, x.1.map Prod.snd = px := ⟨_, rfl⟩
    obtain ⟨py, hpy⟩ : ∃ py, x.2.map Prod.snd = py := ⟨_, rfl⟩
    rw [hpx, hpy]
    show Code.wpIn (Fence.wide.inRound l') 0 Tryz.prog _ _ { tmps := #[.slice p n c, .slice q m d, undef, undef, .slice none 0 0, .int .i64 0, .pointer (some ⟨s, 0, none⟩), undef, undef, .slice p n c, .bool true, .bool false, .bool false, .slice q m d, .bool true, .bool false, .bool false, .slice p n c, .slice q m d, .func (.func 56) #[] #[.pointer (some ⟨s + 1, 0, none⟩), .pointer (some ⟨s + 1 + 1, 0, none⟩)], .pointer px, .pointer py, undef, undef, undef, undef, undef, undef, undef, undef, undef, undef, undef, undef, undef, undef, undef, undef, undef, undef, undef, undef, undef, undef, undef, undef, undef, undef, undef, undef, undef, undef, undef, undef, undef, undef, undef, undef, undef, undef, undef], defers := [] } W
    gi_wp2_with fail
    exact ⟨Kept.refl _ _, HI.out, trivial⟩
  case body =>
    rintro l' pre x a1 W ⟨⟨⟨hu, hz⟩, v, hv, hown⟩, rfl⟩ hp
    obtain ⟨hx1, hx2, hx3⟩ := pairsP_mem _ _ _ x (hp.subset (by simp))
    have hlen : ((pre.map offP).flatMap chOf).length + 1 ≤ 4294967296 := by
      have h1 := hp.length_le
      have h2 := pairsP_length (n + m) laddr lbddr
      have h3 := chOf_flat_length (pre.map offP)
      rw [List.length_map] at h3
      rw [List.length_append] at h1
      omega
    obtain ⟨L, hL⟩ : ∃ L, (pre.map offP).flatMap chOf = L := ⟨_, rfl⟩
    rw [hL] at hown hlen
    have HL := Lib.hid hL
    clear hL
    have hm : Tryz.prog.follows .mixedOrders = true := by kernel_rfl
    obtain ⟨x1, x2⟩ := x
    cases x1 with
    | none =>
      cases x2 with
      | none => exact absurd rfl (hx3 rfl)
      | some y =>
        obtain ⟨y, ady⟩ := y
        obtain ⟨iy, hiy⟩ := List.getElem?_of_mem (hx2 _ rfl)
        obtain ⟨bky, oy, hqy, rfl, hby, hyy, hcy⟩ := HB.out iy y ady hiy
        have c0y := hu.cell_some (hcy 0 _ rfl); have c1y := hu.cell_some (hcy 1 _ rfl); have c2y := hu.cell_some (hcy 2 _ rfl); have c3y := hu.cell_some (hcy 3 _ rfl); have c4y := hu.cell_some (hcy 4 _ rfl); have c5y := hu.cell_some (hcy 5 _ rfl); have c6y := hu.cell_some (hcy 6 _ rfl); have c7y := hu.cell_some (hcy 7 _ rfl); have c8y := hu.cell_some (hcy 8 _ rfl); have c9y := hu.cell_some (hcy 9 _ rfl); have c10y := hu.cell_some (hcy 10 _ rfl)
        rw [Nat.add_zero] at c0y
        haveI : LtSize bky W := ⟨cell_lt c0y⟩
        have LBy := hyy
        clear hcy hiy hqy
        generalize oy + iy * 11 = ooy at *
        have hcv := cell_of_one hv
        have hfv := free_of_one hv
        haveI : LtSize s W := ⟨by omega⟩
        have Hv := Lib.hid hv
        have Hown := Lib.hid hown
        have Hbk := Lib.hid hbk
        have Hkp := Lib.hid hkp
        have Hi := Lib.hid hi; have Hy0 := Lib.hid hy0; have Hy1 := Lib.hid hy1; have Hy2 := Lib.hid hy2
        have Hu := Lib.hid hu
        clear hv hown hbk hkp hi hy0 hy1 hy2 f1 f2 o1 hu0 hx1 hx2 hx3 hp
        gi_wp2_with fail
        refine wpIn_region_turn hm (by kernel_rfl) ?_
        refine any_take (i := 1) (v := ?v33) rfl (by kernel_rfl) (by kernel_rfl) (by kernel_rfl) (Or.inl ⟨by rfl, ?hy33⟩) ?rest33
        case hy33 => (intro w; go_simp; (try with_reducible rfl))
        refine any_take (i := 2) (v := ?v34) rfl (by kernel_rfl) (by kernel_rfl) (by kernel_rfl) (Or.inl ⟨by rfl, ?hy34⟩) ?rest34
        case hy34 => (intro w; go_simp; (try with_reducible rfl))
        refine wpAny_ready (rs := [0, 3]) (by kernel_rfl) (by simp) ?_
        refine AllReady.cons rfl (fun K hK => ?_) ?_
        · go_simp
          refine hK _ _ ?_; clear hK K
          refine wpAny_ready (rs := [3]) (by kernel_rfl) (by simp) ?_
          refine AllReady.cons rfl (fun K hK => ?_) ?_
          · go_simp
            refine hK _ _ ?_; clear hK K
            refine any_take (i := 4) (v := ?v35) rfl (by kernel_rfl) (by kernel_rfl) (by kernel_rfl) (Or.inl ⟨by rfl, ?hy35⟩) ?rest35
            case hy35 => (intro w; go_simp; (try with_reducible rfl))
            refine wpAny_ready (rs := [5]) (by kernel_rfl) (by simp) ?_
            refine AllReady.cons rfl (fun K hK => ?_) ?_
            · go_simp
              refine hK _ _ ?_; clear hK K
              refine wpAny_ready (rs := [6]) (by kernel_rfl) (by simp) ?_
              refine AllReady.cons rfl (fun K hK => ?_) ?_
              · skip
                refine step_append_own rfl _ _ 37 rfl (s + 5) 44 i0 (Ch.val ⟨0, Ln.zero, Ln.zero⟩) 23 88 Tryz.underlying37 Hi.out Hy0.out Hy1.out Hy2.out rfl (by decide) _ _ _ rfl (owns_up Hown.out ((Up.refl W).drew.alloc _)) ⟨W.heap.size, 0, none⟩ 1 1 (Ch.cells ⟨1, Ln.zero, y⟩) rfl rfl (chg_at W.drew ⟨1, Ln.zero, y⟩ _) (chg_one ⟨1, Ln.zero, y⟩) (by unfold maxLen; omega) (by omega) (by simp; omega) ?_
                intro v' w1 hown' hgrow
                have hk1 := Lib.hid (((Kept.refl (book (kpP w.heap.size (s + 1) (s + 2)) W0.heap.size) W).drew.alloc _).grown hgrow (fun r hr hb' => by have := owns_row Hown.out r hr; have := Hkp.out r hb'; omega))
                have hu1 := Lib.hid ((Hu.out.drew.alloc _).grown hgrow (fun r hr => by have := owns_row Hown.out r hr; omega))
                have hz1 : s + 5 ≤ w1.heap.size := by have := hgrow.size; simp at this; omega
                have hv1 : w1.heap[s]? = some (.cells #[v] 37 (0, 0)) := by
                  exact (hgrow.block s (by simp; omega) (fun e => by have := owns_row Hown.out s e.symm; omega)).trans ((Below.heap_alloc W _ s (by omega)).trans Hv.out)
                obtain ⟨g, cap, rfl, hg5⟩ := owns_slice hown'
                have hcv1 := cell_of_one hv1
                have hfv1 := free_of_one hv1
                have Hv1 := Lib.hid hv1
                have Hown' := Lib.hid hown'
                clear hv1 hown' hgrow hcv hfv
                refine hK _ _ ?_; clear hK K
                refine wpAny_ready (rs := [7]) (by kernel_rfl) (by simp) ?_
                refine AllReady.cons rfl (fun K hK => ?_) ?_
                · go_simp
                  refine hK _ _ ?_; clear hK K
                  refine wpAny_done (by kernel_rfl) ?_ _
                  refine ⟨rfl, ?_⟩
                  gi_wp2_with fail
                  refine ⟨hk1.out.setCell (by intro h; have := Hkp.out _ h; (try simp at this); omega) _, ⟨hu1.out.setCell (by (try simp); omega) _, by (try simp); omega⟩, _, one_setCell Hv1.out, ?_⟩
                  rw [List.map_append, List.flatMap_append, HL.out, List.length_append, List.flatMap_append]
                  exact owns_setBlock Hown'.out (a := ⟨s, 0, none⟩) (show s < s + 5 by omega) _
                exact AllReady.nil
              exact AllReady.nil
            exact AllReady.nil
          exact AllReady.nil
        refine AllReady.cons rfl (fun K hK => ?_) ?_
        · go_simp
          refine hK _ _ ?_; clear hK K
          refine any_take (i := 4) (v := ?v36) rfl (by kernel_rfl) (by kernel_rfl) (by kernel_rfl) (Or.inl ⟨by rfl, ?hy36⟩) ?rest36
          case hy36 => (intro w; go_simp; (try with_reducible rfl))
          refine wpAny_ready (rs := [0, 5]) (by kernel_rfl) (by simp) ?_
          refine AllReady.cons rfl (fun K hK => ?_) ?_
          · go_simp
            refine hK _ _ ?_; clear hK K
            refine wpAny_ready (rs := [5]) (by kernel_rfl) (by simp) ?_
            refine AllReady.cons rfl (fun K hK => ?_) ?_
            · go_simp
              refine hK _ _ ?_; clear hK K
              refine wpAny_ready (rs := [6]) (by kernel_rfl) (by simp) ?_
              refine AllReady.cons rfl (fun K hK => ?_) ?_
              · skip
                refine step_append_own rfl _ _ 37 rfl (s + 5) 44 i0 (Ch.val ⟨0, Ln.zero, Ln.zero⟩) 23 88 Tryz.underlying37 Hi.out Hy0.out Hy1.out Hy2.out rfl (by decide) _ _ _ rfl (owns_up Hown.out ((Up.refl W).drew.alloc _)) ⟨W.heap.size, 0, none⟩ 1 1 (Ch.cells ⟨1, Ln.zero, y⟩) rfl rfl (chg_at W.drew ⟨1, Ln.zero, y⟩ _) (chg_one ⟨1, Ln.zero, y⟩) (by unfold maxLen; omega) (by omega) (by simp; omega) ?_
                intro v' w1 hown' hgrow
                have hk1 := Lib.hid (((Kept.refl (book (kpP w.heap.size (s + 1) (s + 2)) W0.heap.size) W).drew.alloc _).grown hgrow (fun r hr hb' => by have := owns_row Hown.out r hr; have := Hkp.out r hb'; omega))
                have hu1 := Lib.hid ((Hu.out.drew.alloc _).grown hgrow (fun r hr => by have := owns_row Hown.out r hr; omega))
                have hz1 : s + 5 ≤ w1.heap.size := by have := hgrow.size; simp at this; omega
                have hv1 : w1.heap[s]? = some (.cells #[v] 37 (0, 0)) := by
                  exact (hgrow.block s (by simp; omega) (fun e => by have := owns_row Hown.out s e.symm; omega)).trans ((Below.heap_alloc W _ s (by omega)).trans Hv.out)
                obtain ⟨g, cap, rfl, hg5⟩ := owns_slice hown'
                have hcv1 := cell_of_one hv1
                have hfv1 := free_of_one hv1
                have Hv1 := Lib.hid hv1
                have Hown' := Lib.hid hown'
                clear hv1 hown' hgrow hcv hfv
                refine hK _ _ ?_; clear hK K
                refine wpAny_ready (rs := [7]) (by kernel_rfl) (by simp) ?_
                refine AllReady.cons rfl (fun K hK => ?_) ?_
                · go_simp
                  refine hK _ _ ?_; clear hK K
                  refine wpAny_done (by kernel_rfl) ?_ _
                  refine ⟨rfl, ?_⟩
                  gi_wp2_with fail
                  refine ⟨hk1.out.setCell (by intro h; have := Hkp.out _ h; (try simp at this); omega) _, ⟨hu1.out.setCell (by (try simp); omega) _, by (try simp); omega⟩, _, one_setCell Hv1.out, ?_⟩
                  rw [List.map_append, List.flatMap_append, HL.out, List.length_append, List.flatMap_append]
                  exact owns_setBlock Hown'.out (a := ⟨s, 0, none⟩) (show s < s + 5 by omega) _
                exact AllReady.nil
              exact AllReady.nil
            exact AllReady.nil
          refine AllReady.cons rfl (fun K hK => ?_) ?_
          · go_simp
            refine hK _ _ ?_; clear hK K
            refine wpAny_ready (rs := [0]) (by kernel_rfl) (by simp) ?_
            refine AllReady.cons rfl (fun K hK => ?_) ?_
            · go_simp
              refine hK _ _ ?_; clear hK K
              refine wpAny_ready (rs := [6]) (by kernel_rfl) (by simp) ?_
              refine AllReady.cons rfl (fun K hK => ?_) ?_
              · skip
                refine step_append_own rfl _ _ 37 rfl (s + 5) 44 i0 (Ch.val ⟨0, Ln.zero, Ln.zero⟩) 23 88 Tryz.underlying37 Hi.out Hy0.out Hy1.out Hy2.out rfl (by decide) _ _ _ rfl (owns_up Hown.out ((Up.refl W).drew.alloc _)) ⟨W.heap.size, 0, none⟩ 1 1 (Ch.cells ⟨1, Ln.zero, y⟩) rfl rfl (chg_at W.drew ⟨1, Ln.zero, y⟩ _) (chg_one ⟨1, Ln.zero, y⟩) (by unfold maxLen; omega) (by omega) (by simp; omega) ?_
                intro v' w1 hown' hgrow
                have hk1 := Lib.hid (((Kept.refl (book (kpP w.heap.size (s + 1) (s + 2)) W0.heap.size) W).drew.alloc _).grown hgrow (fun r hr hb' => by have := owns_row Hown.out r hr; have := Hkp.out r hb'; omega))
                have hu1 := Lib.hid ((Hu.out.drew.alloc _).grown hgrow (fun r hr => by have := owns_row Hown.out r hr; omega))
                have hz1 : s + 5 ≤ w1.heap.size := by have := hgrow.size; simp at this; omega
                have hv1 : w1.heap[s]? = some (.cells #[v] 37 (0, 0)) := by
                  exact (hgrow.block s (by simp; omega) (fun e => by have := owns_row Hown.out s e.symm; omega)).trans ((Below.heap_alloc W _ s (by omega)).trans Hv.out)
                obtain ⟨g, cap, rfl, hg5⟩ := owns_slice hown'
                have hcv1 := cell_of_one hv1
                have hfv1 := free_of_one hv1
                have Hv1 := Lib.hid hv1
                have Hown' := Lib.hid hown'
                clear hv1 hown' hgrow hcv hfv
                refine hK _ _ ?_; clear hK K
                refine wpAny_ready (rs := [7]) (by kernel_rfl) (by simp) ?_
                refine AllReady.cons rfl (fun K hK => ?_) ?_
                · go_simp
                  refine hK _ _ ?_; clear hK K
                  refine wpAny_done (by kernel_rfl) ?_ _
                  refine ⟨rfl, ?_⟩
                  gi_wp2_with fail
                  refine ⟨hk1.out.setCell (by intro h; have := Hkp.out _ h; (try simp at this); omega) _, ⟨hu1.out.setCell (by (try simp); omega) _, by (try simp); omega⟩, _, one_setCell Hv1.out, ?_⟩
                  rw [List.map_append, List.flatMap_append, HL.out, List.length_append, List.flatMap_append]
                  exact owns_setBlock Hown'.out (a := ⟨s, 0, none⟩) (show s < s + 5 by omega) _
                exact AllReady.nil
              exact AllReady.nil
            exact AllReady.nil
          exact AllReady.nil
        exact AllReady.nil
    | some u =>
      cases x2 with
      | none =>
        obtain ⟨u, adu⟩ := u
        obtain ⟨iu, hiu⟩ := List.getElem?_of_mem (hx1 _ rfl)
        obtain ⟨bku, ou, hqu, rfl, hbu, hyu, hcu⟩ := HA.out iu u adu hiu
        have c0u := hu.cell_some (hcu 0 _ rfl); have c1u := hu.cell_some (hcu 1 _ rfl); have c2u := hu.cell_some (hcu 2 _ rfl); have c3u := hu.cell_some (hcu 3 _ rfl); have c4u := hu.cell_some (hcu 4 _ rfl); have c5u := hu.cell_some (hcu 5 _ rfl); have c6u := hu.cell_some (hcu 6 _ rfl); have c7u := hu.cell_some (hcu 7 _ rfl); have c8u := hu.cell_some (hcu 8 _ rfl); have c9u := hu.cell_some (hcu 9 _ rfl); have c10u := hu.cell_some (hcu 10 _ rfl)
        rw [Nat.add_zero] at c0u
        haveI : LtSize bku W := ⟨cell_lt c0u⟩
        have LBu := hyu
        clear hcu hiu hqu
        generalize ou + iu * 11 = oou at *
        have hcv := cell_of_one hv
        have hfv := free_of_one hv
        haveI : LtSize s W := ⟨by omega⟩
        have Hv := Lib.hid hv
        have Hown := Lib.hid hown
        have Hbk := Lib.hid hbk
        have Hkp := Lib.hid hkp
        have Hi := Lib.hid hi; have Hy0 := Lib.hid hy0; have Hy1 := Lib.hid hy1; have Hy2 := Lib.hid hy2
        have Hu := Lib.hid hu
        clear hv hown hbk hkp hi hy0 hy1 hy2 f1 f2 o1 hu0 hx1 hx2 hx3 hp
        gi_wp2_with fail
        refine wpIn_region_turn hm (by kernel_rfl) ?_
        refine any_take (i := 1) (v := ?v37) rfl (by kernel_rfl) (by kernel_rfl) (by kernel_rfl) (Or.inl ⟨by rfl, ?hy37⟩) ?rest37
        case hy37 => (intro w; go_simp; (try with_reducible rfl))
        refine any_take (i := 2) (v := ?v38) rfl (by kernel_rfl) (by kernel_rfl) (by kernel_rfl) (Or.inl ⟨by rfl, ?hy38⟩) ?rest38
        case hy38 => (intro w; go_simp; (try with_reducible rfl))
        refine wpAny_ready (rs := [0, 3]) (by kernel_rfl) (by simp) ?_
        refine AllReady.cons rfl (fun K hK => ?_) ?_
        · go_simp
          refine hK _ _ ?_; clear hK K
          refine wpAny_ready (rs := [3]) (by kernel_rfl) (by simp) ?_
          refine AllReady.cons rfl (fun K hK => ?_) ?_
          · go_simp
            refine hK _ _ ?_; clear hK K
            refine any_take (i := 4) (v := ?v39) rfl (by kernel_rfl) (by kernel_rfl) (by kernel_rfl) (Or.inl ⟨by rfl, ?hy39⟩) ?rest39
            case hy39 => (intro w; go_simp; (try with_reducible rfl))
            refine wpAny_ready (rs := [5]) (by kernel_rfl) (by simp) ?_
            refine AllReady.cons rfl (fun K hK => ?_) ?_
            · go_simp
              refine hK _ _ ?_; clear hK K
              refine wpAny_ready (rs := [6]) (by kernel_rfl) (by simp) ?_
              refine AllReady.cons rfl (fun K hK => ?_) ?_
              · skip
                refine step_append_own rfl _ _ 37 rfl (s + 5) 44 i0 (Ch.val ⟨0, Ln.zero, Ln.zero⟩) 23 88 Tryz.underlying37 Hi.out Hy0.out Hy1.out Hy2.out rfl (by decide) _ _ _ rfl (owns_up Hown.out ((Up.refl W).drew.alloc _)) ⟨W.heap.size, 0, none⟩ 1 1 (Ch.cells ⟨2, u, Ln.zero⟩) rfl rfl (chg_at W.drew ⟨2, u, Ln.zero⟩ _) (chg_one ⟨2, u, Ln.zero⟩) (by unfold maxLen; omega) (by omega) (by simp; omega) ?_
                intro v' w1 hown' hgrow
                have hk1 := Lib.hid (((Kept.refl (book (kpP w.heap.size (s + 1) (s + 2)) W0.heap.size) W).drew.alloc _).grown hgrow (fun r hr hb' => by have := owns_row Hown.out r hr; have := Hkp.out r hb'; omega))
                have hu1 := Lib.hid ((Hu.out.drew.alloc _).grown hgrow (fun r hr => by have := owns_row Hown.out r hr; omega))
                have hz1 : s + 5 ≤ w1.heap.size := by have := hgrow.size; simp at this; omega
                have hv1 : w1.heap[s]? = some (.cells #[v] 37 (0, 0)) := by
                  exact (hgrow.block s (by simp; omega) (fun e => by have := owns_row Hown.out s e.symm; omega)).trans ((Below.heap_alloc W _ s (by omega)).trans Hv.out)
                obtain ⟨g, cap, rfl, hg5⟩ := owns_slice hown'
                have hcv1 := cell_of_one hv1
                have hfv1 := free_of_one hv1
                have Hv1 := Lib.hid hv1
                have Hown' := Lib.hid hown'
                clear hv1 hown' hgrow hcv hfv
                refine hK _ _ ?_; clear hK K
                refine wpAny_ready (rs := [7]) (by kernel_rfl) (by simp) ?_
                refine AllReady.cons rfl (fun K hK => ?_) ?_
                · go_simp
                  refine hK _ _ ?_; clear hK K
                  refine wpAny_done (by kernel_rfl) ?_ _
                  refine ⟨rfl, ?_⟩
                  gi_wp2_with fail
                  refine ⟨hk1.out.setCell (by intro h; have := Hkp.out _ h; (try simp at this); omega) _, ⟨hu1.out.setCell (by (try simp); omega) _, by (try simp); omega⟩, _, one_setCell Hv1.out, ?_⟩
                  rw [List.map_append, List.flatMap_append, HL.out, List.length_append, List.flatMap_append]
                  exact owns_setBlock Hown'.out (a := ⟨s, 0, none⟩) (show s < s + 5 by omega) _
                exact AllReady.nil
              exact AllReady.nil
            exact AllReady.nil
          exact AllReady.nil
        refine AllReady.cons rfl (fun K hK => ?_) ?_
        · go_simp
          refine hK _ _ ?_; clear hK K
          refine any_take (i := 4) (v := ?v40) rfl (by kernel_rfl) (by kernel_rfl) (by kernel_rfl) (Or.inl ⟨by rfl, ?hy40⟩) ?rest40
          case hy40 => (intro w; go_simp; (try with_reducible rfl))
          refine wpAny_ready (rs := [0, 5]) (by kernel_rfl) (by simp) ?_
          refine AllReady.cons rfl (fun K hK => ?_) ?_
          · go_simp
            refine hK _ _ ?_; clear hK K
            refine wpAny_ready (rs := [5]) (by kernel_rfl) (by simp) ?_
            refine AllReady.cons rfl (fun K hK => ?_) ?_
            · go_simp
              refine hK _ _ ?_; clear hK K
              refine wpAny_ready (rs := [6]) (by kernel_rfl) (by simp) ?_
              refine AllReady.cons rfl (fun K hK => ?_) ?_
              · skip
                refine step_append_own rfl _ _ 37 rfl (s + 5) 44 i0 (Ch.val ⟨0, Ln.zero, Ln.zero⟩) 23 88 Tryz.underlying37 Hi.out Hy0.out Hy1.out Hy2.out rfl (by decide) _ _ _ rfl (owns_up Hown.out ((Up.refl W).drew.alloc _)) ⟨W.heap.size, 0, none⟩ 1 1 (Ch.cells ⟨2, u, Ln.zero⟩) rfl rfl (chg_at W.drew ⟨2, u, Ln.zero⟩ _) (chg_one ⟨2, u, Ln.zero⟩) (by unfold maxLen; omega) (by omega) (by simp; omega) ?_
                intro v' w1 hown' hgrow
                have hk1 := Lib.hid (((Kept.refl (book (kpP w.heap.size (s + 1) (s + 2)) W0.heap.size) W).drew.alloc _).grown hgrow (fun r hr hb' => by have := owns_row Hown.out r hr; have := Hkp.out r hb'; omega))
                have hu1 := Lib.hid ((Hu.out.drew.alloc _).grown hgrow (fun r hr => by have := owns_row Hown.out r hr; omega))
                have hz1 : s + 5 ≤ w1.heap.size := by have := hgrow.size; simp at this; omega
                have hv1 : w1.heap[s]? = some (.cells #[v] 37 (0, 0)) := by
                  exact (hgrow.block s (by simp; omega) (fun e => by have := owns_row Hown.out s e.symm; omega)).trans ((Below.heap_alloc W _ s (by omega)).trans Hv.out)
                obtain ⟨g, cap, rfl, hg5⟩ := owns_slice hown'
                have hcv1 := cell_of_one hv1
                have hfv1 := free_of_one hv1
                have Hv1 := Lib.hid hv1
                have Hown' := Lib.hid hown'
                clear hv1 hown' hgrow hcv hfv
                refine hK _ _ ?_; clear hK K
                refine wpAny_ready (rs := [7]) (by kernel_rfl) (by simp) ?_
                refine AllReady.cons rfl (fun K hK => ?_) ?_
                · go_simp
                  refine hK _ _ ?_; clear hK K
                  refine wpAny_done (by kernel_rfl) ?_ _
                  refine ⟨rfl, ?_⟩
                  gi_wp2_with fail
                  refine ⟨hk1.out.setCell (by intro h; have := Hkp.out _ h; (try simp at this); omega) _, ⟨hu1.out.setCell (by (try simp); omega) _, by (try simp); omega⟩, _, one_setCell Hv1.out, ?_⟩
                  rw [List.map_append, List.flatMap_append, HL.out, List.length_append, List.flatMap_append]
                  exact owns_setBlock Hown'.out (a := ⟨s, 0, none⟩) (show s < s + 5 by omega) _
                exact AllReady.nil
              exact AllReady.nil
            exact AllReady.nil
          refine AllReady.cons rfl (fun K hK => ?_) ?_
          · go_simp
            refine hK _ _ ?_; clear hK K
            refine wpAny_ready (rs := [0]) (by kernel_rfl) (by simp) ?_
            refine AllReady.cons rfl (fun K hK => ?_) ?_
            · go_simp
              refine hK _ _ ?_; clear hK K
              refine wpAny_ready (rs := [6]) (by kernel_rfl) (by simp) ?_
              refine AllReady.cons rfl (fun K hK => ?_) ?_
              · skip
                refine step_append_own rfl _ _ 37 rfl (s + 5) 44 i0 (Ch.val ⟨0, Ln.zero, Ln.zero⟩) 23 88 Tryz.underlying37 Hi.out Hy0.out Hy1.out Hy2.out rfl (by decide) _ _ _ rfl (owns_up Hown.out ((Up.refl W).drew.alloc _)) ⟨W.heap.size, 0, none⟩ 1 1 (Ch.cells ⟨2, u, Ln.zero⟩) rfl rfl (chg_at W.drew ⟨2, u, Ln.zero⟩ _) (chg_one ⟨2, u, Ln.zero⟩) (by unfold maxLen; omega) (by omega) (by simp; omega) ?_
                intro v' w1 hown' hgrow
                have hk1 := Lib.hid (((Kept.refl (book (kpP w.heap.size (s + 1) (s + 2)) W0.heap.size) W).drew.alloc _).grown hgrow (fun r hr hb' => by have := owns_row Hown.out r hr; have := Hkp.out r hb'; omega))
                have hu1 := Lib.hid ((Hu.out.drew.alloc _).grown hgrow (fun r hr => by have := owns_row Hown.out r hr; omega))
                have hz1 : s + 5 ≤ w1.heap.size := by have := hgrow.size; simp at this; omega
                have hv1 : w1.heap[s]? = some (.cells #[v] 37 (0, 0)) := by
                  exact (hgrow.block s (by simp; omega) (fun e => by have := owns_row Hown.out s e.symm; omega)).trans ((Below.heap_alloc W _ s (by omega)).trans Hv.out)
                obtain ⟨g, cap, rfl, hg5⟩ := owns_slice hown'
                have hcv1 := cell_of_one hv1
                have hfv1 := free_of_one hv1
                have Hv1 := Lib.hid hv1
                have Hown' := Lib.hid hown'
                clear hv1 hown' hgrow hcv hfv
                refine hK _ _ ?_; clear hK K
                refine wpAny_ready (rs := [7]) (by kernel_rfl) (by simp) ?_
                refine AllReady.cons rfl (fun K hK => ?_) ?_
                · go_simp
                  refine hK _ _ ?_; clear hK K
                  refine wpAny_done (by kernel_rfl) ?_ _
                  refine ⟨rfl, ?_⟩
                  gi_wp2_with fail
                  refine ⟨hk1.out.setCell (by intro h; have := Hkp.out _ h; (try simp at this); omega) _, ⟨hu1.out.setCell (by (try simp); omega) _, by (try simp); omega⟩, _, one_setCell Hv1.out, ?_⟩
                  rw [List.map_append, List.flatMap_append, HL.out, List.length_append, List.flatMap_append]
                  exact owns_setBlock Hown'.out (a := ⟨s, 0, none⟩) (show s < s + 5 by omega) _
                exact AllReady.nil
              exact AllReady.nil
            exact AllReady.nil
          exact AllReady.nil
        exact AllReady.nil
      | some y =>
        obtain ⟨u, adu⟩ := u
        obtain ⟨iu, hiu⟩ := List.getElem?_of_mem (hx1 _ rfl)
        obtain ⟨bku, ou, hqu, rfl, hbu, hyu, hcu⟩ := HA.out iu u adu hiu
        have c0u := hu.cell_some (hcu 0 _ rfl); have c1u := hu.cell_some (hcu 1 _ rfl); have c2u := hu.cell_some (hcu 2 _ rfl); have c3u := hu.cell_some (hcu 3 _ rfl); have c4u := hu.cell_some (hcu 4 _ rfl); have c5u := hu.cell_some (hcu 5 _ rfl); have c6u := hu.cell_some (hcu 6 _ rfl); have c7u := hu.cell_some (hcu 7 _ rfl); have c8u := hu.cell_some (hcu 8 _ rfl); have c9u := hu.cell_some (hcu 9 _ rfl); have c10u := hu.cell_some (hcu 10 _ rfl)
        rw [Nat.add_zero] at c0u
        haveI : LtSize bku W := ⟨cell_lt c0u⟩
        have LBu := hyu
        clear hcu hiu hqu
        generalize ou + iu * 11 = oou at *
        obtain ⟨y, ady⟩ := y
        obtain ⟨iy, hiy⟩ := List.getElem?_of_mem (hx2 _ rfl)
        obtain ⟨bky, oy, hqy, rfl, hby, hyy, hcy⟩ := HB.out iy y ady hiy
        have c0y := hu.cell_some (hcy 0 _ rfl); have c1y := hu.cell_some (hcy 1 _ rfl); have c2y := hu.cell_some (hcy 2 _ rfl); have c3y := hu.cell_some (hcy 3 _ rfl); have c4y := hu.cell_some (hcy 4 _ rfl); have c5y := hu.cell_some (hcy 5 _ rfl); have c6y := hu.cell_some (hcy 6 _ rfl); have c7y := hu.cell_some (hcy 7 _ rfl); have c8y := hu.cell_some (hcy 8 _ rfl); have c9y := hu.cell_some (hcy 9 _ rfl); have c10y := hu.cell_some (hcy 10 _ rfl)
        rw [Nat.add_zero] at c0y
        haveI : LtSize bky W := ⟨cell_lt c0y⟩
        have LBy := hyy
        clear hcy hiy hqy
        generalize oy + iy * 11 = ooy at *
        have hcv := cell_of_one hv
        have hfv := free_of_one hv
        haveI : LtSize s W := ⟨by omega⟩
        have Hv := Lib.hid hv
        have Hown := Lib.hid hown
        have Hbk := Lib.hid hbk
        have Hkp := Lib.hid hkp
        have Hi := Lib.hid hi; have Hy0 := Lib.hid hy0; have Hy1 := Lib.hid hy1; have Hy2 := Lib.hid hy2
        have Hu := Lib.hid hu
        clear hv hown hbk hkp hi hy0 hy1 hy2 f1 f2 o1 hu0 hx1 hx2 hx3 hp
        by_cases hE : u = y
        · subst hE
          gi_wp2_with fail
          refine wpIn_region_turn hm (by kernel_rfl) ?_
          refine any_take (i := 0) (v := ?v1) rfl (by kernel_rfl) (by kernel_rfl) (by kernel_rfl) (Or.inl ⟨by rfl, ?hy1⟩) ?rest1
          case hy1 => (intro w; go_simp; (try with_reducible rfl))
          refine any_take (i := 1) (v := ?v2) rfl (by kernel_rfl) (by kernel_rfl) (by kernel_rfl) (Or.inl ⟨by rfl, ?hy2⟩) ?rest2
          case hy2 => (intro w; go_simp; (try with_reducible rfl))
          refine any_take (i := 3) (v := ?v3) rfl (by kernel_rfl) (by kernel_rfl) (by kernel_rfl) (Or.inl ⟨by rfl, ?hy3⟩) ?rest3
          case hy3 => (intro w; go_simp; (try with_reducible rfl))
          refine any_take (i := 4) (v := ?v4) rfl (by kernel_rfl) (by kernel_rfl) (by kernel_rfl) (Or.inl ⟨by rfl, ?hy4⟩) ?rest4
          case hy4 => (intro w; go_simp; (try with_reducible rfl))
          refine wpAny_ready (rs := [2, 5]) (by kernel_rfl) (by simp) ?_
          refine AllReady.cons rfl (fun K hK => ?_) ?_
          · go_simp
            refine hK _ _ ?_; clear hK K
            refine wpAny_ready (rs := [5]) (by kernel_rfl) (by simp) ?_
            refine AllReady.cons rfl (fun K hK => ?_) ?_
            · go_simp
              refine hK _ _ ?_; clear hK K
              refine wpAny_ready (rs := [6]) (by kernel_rfl) (by simp) ?_
              refine AllReady.cons rfl (fun K hK => ?_) ?_
              · go_simp
                refine hK _ _ ?_; clear hK K
                refine any_take (i := 7) (v := ?v5) rfl (by kernel_rfl) (by kernel_rfl) (by kernel_rfl) (Or.inl ⟨by rfl, ?hy5⟩) ?rest5
                case hy5 => (intro w; go_simp; (try with_reducible rfl))
                refine wpAny_done (by kernel_rfl) ?_ _
                refine ⟨rfl, ?_⟩
                gi_wp2_with fail
                refine ⟨(Kept.refl _ _).drew, ⟨Hu.out.drew, hz⟩, v, Hv.out, ?_⟩
                rw [List.map_append, List.flatMap_append, HL.out, chOf_same, List.append_nil]
                exact Hown.out
              exact AllReady.nil
            exact AllReady.nil
          refine AllReady.cons rfl (fun K hK => ?_) ?_
          · go_simp
            refine hK _ _ ?_; clear hK K
            refine wpAny_ready (rs := [2]) (by kernel_rfl) (by simp) ?_
            refine AllReady.cons rfl (fun K hK => ?_) ?_
            · go_simp
              refine hK _ _ ?_; clear hK K
              refine wpAny_ready (rs := [6]) (by kernel_rfl) (by simp) ?_
              refine AllReady.cons rfl (fun K hK => ?_) ?_
              · go_simp
                refine hK _ _ ?_; clear hK K
                refine any_take (i := 7) (v := ?v6) rfl (by kernel_rfl) (by kernel_rfl) (by kernel_rfl) (Or.inl ⟨by rfl, ?hy6⟩) ?rest6
                case hy6 => (intro w; go_simp; (try with_reducible rfl))
                refine wpAny_done (by kernel_rfl) ?_ _
                refine ⟨rfl, ?_⟩
                gi_wp2_with fail
                refine ⟨(Kept.refl _ _).drew, ⟨Hu.out.drew, hz⟩, v, Hv.out, ?_⟩
                rw [List.map_append, List.flatMap_append, HL.out, chOf_same, List.append_nil]
                exact Hown.out
              exact AllReady.nil
            exact AllReady.nil
          exact AllReady.nil
        · have hne : (u.pr == y.pr && (u.s == y.s && (u.d == y.d && (u.sp == y.sp && (u.dp == y.dp && (u.sd == y.sd && (u.cl == y.cl && (u.rp == y.rp && (u.ss == y.ss && (u.dl == y.dl && (u.sn == y.sn))))))))))) = false := by
            have := lnB_eq u y
            rw [decide_eq_false hE] at this
            exact this
          gi_wp2_with fail
          refine wpIn_region_turn hm (by kernel_rfl) ?_
          refine any_take (i := 0) (v := ?v7) rfl (by kernel_rfl) (by kernel_rfl) (by kernel_rfl) (Or.inl ⟨by rfl, ?hy7⟩) ?rest7
          case hy7 => (intro w; go_simp; (try with_reducible rfl))
          refine any_take (i := 1) (v := ?v8) rfl (by kernel_rfl) (by kernel_rfl) (by kernel_rfl) (Or.inl ⟨by rfl, ?hy8⟩) ?rest8
          case hy8 => (intro w; go_simp; (try with_reducible rfl))
          refine any_take (i := 3) (v := ?v9) rfl (by kernel_rfl) (by kernel_rfl) (by kernel_rfl) (Or.inl ⟨by rfl, ?hy9⟩) ?rest9
          case hy9 => (intro w; go_simp; (try with_reducible rfl))
          refine any_take (i := 4) (v := ?v10) rfl (by kernel_rfl) (by kernel_rfl) (by kernel_rfl) (Or.inl ⟨by rfl, ?hy10⟩) ?rest10
          case hy10 => (intro w; go_simp; (try with_reducible rfl))
          refine wpAny_ready (rs := [2, 5]) (by kernel_rfl) (by simp) ?_
          refine AllReady.cons rfl (fun K hK => ?_) ?_
          · go_simp
            refine hK _ _ ?_; clear hK K
            refine wpAny_ready (rs := [5]) (by kernel_rfl) (by simp) ?_
            refine AllReady.cons rfl (fun K hK => ?_) ?_
            · go_simp
              refine hK _ _ ?_; clear hK K
              refine wpAny_ready (rs := [6]) (by kernel_rfl) (by simp) ?_
              refine AllReady.cons rfl (fun K hK => ?_) ?_
              · go_simp
                refine hK _ _ ?_; clear hK K
                refine any_take (i := 7) (v := ?v11) rfl (by kernel_rfl) (by kernel_rfl) (by kernel_rfl) (Or.inl ⟨by rfl, ?hy11⟩) ?rest11
                case hy11 => (intro w; go_simp; (try with_reducible rfl))
                refine wpAny_done (by kernel_rfl) ?_ _
                refine ⟨rfl, ?_⟩
                gi_wp2_with fail
                refine wpIn_region_turn hm (by kernel_rfl) ?_
                refine any_take (i := 1) (v := ?v12) rfl (by kernel_rfl) (by kernel_rfl) (by kernel_rfl) (Or.inl ⟨by rfl, ?hy12⟩) ?rest12
                case hy12 => (intro w; go_simp; (try with_reducible rfl))
                refine any_take (i := 2) (v := ?v13) rfl (by kernel_rfl) (by kernel_rfl) (by kernel_rfl) (Or.inl ⟨by rfl, ?hy13⟩) ?rest13
                case hy13 => (intro w; go_simp; (try with_reducible rfl))
                refine any_take (i := 4) (v := ?v14) rfl (by kernel_rfl) (by kernel_rfl) (by kernel_rfl) (Or.inl ⟨by rfl, ?hy14⟩) ?rest14
                case hy14 => (intro w; go_simp; (try with_reducible rfl))
                refine any_take (i := 5) (v := ?v15) rfl (by kernel_rfl) (by kernel_rfl) (by kernel_rfl) (Or.inl ⟨by rfl, ?hy15⟩) ?rest15
                case hy15 => (intro w; go_simp; (try with_reducible rfl))
                refine wpAny_ready (rs := [0, 3, 6]) (by kernel_rfl) (by simp) ?_
                refine AllReady.cons rfl (fun K hK => ?_) ?_
                · go_simp
                  refine hK _ _ ?_; clear hK K
                  refine wpAny_ready (rs := [3, 6]) (by kernel_rfl) (by simp) ?_
                  refine AllReady.cons rfl (fun K hK => ?_) ?_
                  · go_simp
                    refine hK _ _ ?_; clear hK K
                    refine wpAny_ready (rs := [6]) (by kernel_rfl) (by simp) ?_
                    refine AllReady.cons rfl (fun K hK => ?_) ?_
                    · go_simp
                      refine hK _ _ ?_; clear hK K
                      refine any_take (i := 7) (v := ?v16) rfl (by kernel_rfl) (by kernel_rfl) (by kernel_rfl) (Or.inl ⟨by rfl, ?hy16⟩) ?rest16
                      case hy16 => (intro w; go_simp; (try with_reducible rfl))
                      refine wpAny_ready (rs := [8]) (by kernel_rfl) (by simp) ?_
                      refine AllReady.cons rfl (fun K hK => ?_) ?_
                      · go_simp
                        refine hK _ _ ?_; clear hK K
                        refine wpAny_ready (rs := [9]) (by kernel_rfl) (by simp) ?_
                        refine AllReady.cons rfl (fun K hK => ?_) ?_
                        · skip
                          refine step_append_own rfl _ _ 37 rfl (s + 5) 44 i0 (Ch.val ⟨0, Ln.zero, Ln.zero⟩) 23 88 Tryz.underlying37 Hi.out Hy0.out Hy1.out Hy2.out rfl (by decide) _ _ _ rfl (owns_up Hown.out ((Up.refl W).drew.drew.alloc _)) ⟨W.heap.size, 0, none⟩ 1 1 (Ch.cells ⟨3, u, y⟩) rfl rfl (chg_at W.drew.drew ⟨3, u, y⟩ _) (chg_one ⟨3, u, y⟩) (by unfold maxLen; omega) (by omega) (by simp; omega) ?_
                          intro v' w1 hown' hgrow
                          have hk1 := Lib.hid (((Kept.refl (book (kpP w.heap.size (s + 1) (s + 2)) W0.heap.size) W).drew.drew.alloc _).grown hgrow (fun r hr hb' => by have := owns_row Hown.out r hr; have := Hkp.out r hb'; omega))
                          have hu1 := Lib.hid ((Hu.out.drew.drew.alloc _).grown hgrow (fun r hr => by have := owns_row Hown.out r hr; omega))
                          have hz1 : s + 5 ≤ w1.heap.size := by have := hgrow.size; simp at this; omega
                          have hv1 : w1.heap[s]? = some (.cells #[v] 37 (0, 0)) := by
                            exact (hgrow.block s (by simp; omega) (fun e => by have := owns_row Hown.out s e.symm; omega)).trans ((Below.heap_alloc W _ s (by omega)).trans Hv.out)
                          obtain ⟨g, cap, rfl, hg5⟩ := owns_slice hown'
                          have hcv1 := cell_of_one hv1
                          have hfv1 := free_of_one hv1
                          have Hv1 := Lib.hid hv1
                          have Hown' := Lib.hid hown'
                          clear hv1 hown' hgrow hcv hfv
                          refine hK _ _ ?_; clear hK K
                          refine wpAny_ready (rs := [10]) (by kernel_rfl) (by simp) ?_
                          refine AllReady.cons rfl (fun K hK => ?_) ?_
                          · go_simp
                            refine hK _ _ ?_; clear hK K
                            refine wpAny_done (by kernel_rfl) ?_ _
                            refine ⟨rfl, ?_⟩
                            gi_wp2_with fail
                            refine ⟨hk1.out.setCell (by intro h; have := Hkp.out _ h; (try simp at this); omega) _, ⟨hu1.out.setCell (by (try simp); omega) _, by (try simp); omega⟩, _, one_setCell Hv1.out, ?_⟩
                            rw [List.map_append, List.flatMap_append, HL.out, chOf_diff _ _ _ _ hE, List.length_append, List.flatMap_append]
                            exact owns_setBlock Hown'.out (a := ⟨s, 0, none⟩) (show s < s + 5 by omega) _
                          exact AllReady.nil
                        exact AllReady.nil
                      exact AllReady.nil
                    exact AllReady.nil
                  refine AllReady.cons rfl (fun K hK => ?_) ?_
                  · go_simp
                    refine hK _ _ ?_; clear hK K
                    refine wpAny_ready (rs := [3]) (by kernel_rfl) (by simp) ?_
                    refine AllReady.cons rfl (fun K hK => ?_) ?_
                    · go_simp
                      refine hK _ _ ?_; clear hK K
                      refine any_take (i := 7) (v := ?v17) rfl (by kernel_rfl) (by kernel_rfl) (by kernel_rfl) (Or.inl ⟨by rfl, ?hy17⟩) ?rest17
                      case hy17 => (intro w; go_simp; (try with_reducible rfl))
                      refine wpAny_ready (rs := [8]) (by kernel_rfl) (by simp) ?_
                      refine AllReady.cons rfl (fun K hK => ?_) ?_
                      · go_simp
                        refine hK _ _ ?_; clear hK K
                        refine wpAny_ready (rs := [9]) (by kernel_rfl) (by simp) ?_
                        refine AllReady.cons rfl (fun K hK => ?_) ?_
                        · skip
                          refine step_append_own rfl _ _ 37 rfl (s + 5) 44 i0 (Ch.val ⟨0, Ln.zero, Ln.zero⟩) 23 88 Tryz.underlying37 Hi.out Hy0.out Hy1.out Hy2.out rfl (by decide) _ _ _ rfl (owns_up Hown.out ((Up.refl W).drew.drew.alloc _)) ⟨W.heap.size, 0, none⟩ 1 1 (Ch.cells ⟨3, u, y⟩) rfl rfl (chg_at W.drew.drew ⟨3, u, y⟩ _) (chg_one ⟨3, u, y⟩) (by unfold maxLen; omega) (by omega) (by simp; omega) ?_
                          intro v' w1 hown' hgrow
                          have hk1 := Lib.hid (((Kept.refl (book (kpP w.heap.size (s + 1) (s + 2)) W0.heap.size) W).drew.drew.alloc _).grown hgrow (fun r hr hb' => by have := owns_row Hown.out r hr; have := Hkp.out r hb'; omega))
                          have hu1 := Lib.hid ((Hu.out.drew.drew.alloc _).grown hgrow (fun r hr => by have := owns_row Hown.out r hr; omega))
                          have hz1 : s + 5 ≤ w1.heap.size := by have := hgrow.size; simp at this; omega
                          have hv1 : w1.heap[s]? = some (.cells #[v] 37 (0, 0)) := by
                            exact (hgrow.block s (by simp; omega) (fun e => by have := owns_row Hown.out s e.symm; omega)).trans ((Below.heap_alloc W _ s (by omega)).trans Hv.out)
                          obtain ⟨g, cap, rfl, hg5⟩ := owns_slice hown'
                          have hcv1 := cell_of_one hv1
                          have hfv1 := free_of_one hv1
                          have Hv1 := Lib.hid hv1
                          have Hown' := Lib.hid hown'
                          clear hv1 hown' hgrow hcv hfv
                          refine hK _ _ ?_; clear hK K
                          refine wpAny_ready (rs := [10]) (by kernel_rfl) (by simp) ?_
                          refine AllReady.cons rfl (fun K hK => ?_) ?_
                          · go_simp
                            refine hK _ _ ?_; clear hK K
                            refine wpAny_done (by kernel_rfl) ?_ _
                            refine ⟨rfl, ?_⟩
                            gi_wp2_with fail
                            refine ⟨hk1.out.setCell (by intro h; have := Hkp.out _ h; (try simp at this); omega) _, ⟨hu1.out.setCell (by (try simp); omega) _, by (try simp); omega⟩, _, one_setCell Hv1.out, ?_⟩
                            rw [List.map_append, List.flatMap_append, HL.out, chOf_diff _ _ _ _ hE, List.length_append, List.flatMap_append]
                            exact owns_setBlock Hown'.out (a := ⟨s, 0, none⟩) (show s < s + 5 by omega) _
                          exact AllReady.nil
                        exact AllReady.nil
                      exact AllReady.nil
                    exact AllReady.nil
                  exact AllReady.nil
                refine AllReady.cons rfl (fun K hK => ?_) ?_
                · go_simp
                  refine hK _ _ ?_; clear hK K
                  refine wpAny_ready (rs := [0, 6]) (by kernel_rfl) (by simp) ?_
                  refine AllReady.cons rfl (fun K hK => ?_) ?_
                  · go_simp
                    refine hK _ _ ?_; clear hK K
                    refine wpAny_ready (rs := [6]) (by kernel_rfl) (by simp) ?_
                    refine AllReady.cons rfl (fun K hK => ?_) ?_
                    · go_simp
                      refine hK _ _ ?_; clear hK K
                      refine any_take (i := 7) (v := ?v18) rfl (by kernel_rfl) (by kernel_rfl) (by kernel_rfl) (Or.inl ⟨by rfl, ?hy18⟩) ?rest18
                      case hy18 => (intro w; go_simp; (try with_reducible rfl))
                      refine wpAny_ready (rs := [8]) (by kernel_rfl) (by simp) ?_
                      refine AllReady.cons rfl (fun K hK => ?_) ?_
                      · go_simp
                        refine hK _ _ ?_; clear hK K
                        refine wpAny_ready (rs := [9]) (by kernel_rfl) (by simp) ?_
                        refine AllReady.cons rfl (fun K hK => ?_) ?_
                        · skip
                          refine step_append_own rfl _ _ 37 rfl (s + 5) 44 i0 (Ch.val ⟨0, Ln.zero, Ln.zero⟩) 23 88 Tryz.underlying37 Hi.out Hy0.out Hy1.out Hy2.out rfl (by decide) _ _ _ rfl (owns_up Hown.out ((Up.refl W).drew.drew.alloc _)) ⟨W.heap.size, 0, none⟩ 1 1 (Ch.cells ⟨3, u, y⟩) rfl rfl (chg_at W.drew.drew ⟨3, u, y⟩ _) (chg_one ⟨3, u, y⟩) (by unfold maxLen; omega) (by omega) (by simp; omega) ?_
                          intro v' w1 hown' hgrow
                          have hk1 := Lib.hid (((Kept.refl (book (kpP w.heap.size (s + 1) (s + 2)) W0.heap.size) W).drew.drew.alloc _).grown hgrow (fun r hr hb' => by have := owns_row Hown.out r hr; have := Hkp.out r hb'; omega))
                          have hu1 := Lib.hid ((Hu.out.drew.drew.alloc _).grown hgrow (fun r hr => by have := owns_row Hown.out r hr; omega))
                          have hz1 : s + 5 ≤ w1.heap.size := by have := hgrow.size; simp at this; omega
                          have hv1 : w1.heap[s]? = some (.cells #[v] 37 (0, 0)) := by
                            exact (hgrow.block s (by simp; omega) (fun e => by have := owns_row Hown.out s e.symm; omega)).trans ((Below.heap_alloc W _ s (by omega)).trans Hv.out)
                          obtain ⟨g, cap, rfl, hg5⟩ := owns_slice hown'
                          have hcv1 := cell_of_one hv1
                          have hfv1 := free_of_one hv1
                          have Hv1 := Lib.hid hv1
                          have Hown' := Lib.hid hown'
                          clear hv1 hown' hgrow hcv hfv
                          refine hK _ _ ?_; clear hK K
                          refine wpAny_ready (rs := [10]) (by kernel_rfl) (by simp) ?_
                          refine AllReady.cons rfl (fun K hK => ?_) ?_
                          · go_simp
                            refine hK _ _ ?_; clear hK K
                            refine wpAny_done (by kernel_rfl) ?_ _
                            refine ⟨rfl, ?_⟩
                            gi_wp2_with fail
                            refine ⟨hk1.out.setCell (by intro h; have := Hkp.out _ h; (try simp at this); omega) _, ⟨hu1.out.setCell (by (try simp); omega) _, by (try simp); omega⟩, _, one_setCell Hv1.out, ?_⟩
                            rw [List.map_append, List.flatMap_append, HL.out, chOf_diff _ _ _ _ hE, List.length_append, List.flatMap_append]
                            exact owns_setBlock Hown'.out (a := ⟨s, 0, none⟩) (show s < s + 5 by omega) _
                          exact AllReady.nil
                        exact AllReady.nil
                      exact AllReady.nil
                    exact AllReady.nil
                  refine AllReady.cons rfl (fun K hK => ?_) ?_
                  · go_simp
                    refine hK _ _ ?_; clear hK K
                    refine any_take (i := 7) (v := ?v19) rfl (by kernel_rfl) (by kernel_rfl) (by kernel_rfl) (Or.inl ⟨by rfl, ?hy19⟩) ?rest19
                    case hy19 => (intro w; go_simp; (try with_reducible rfl))
                    refine wpAny_ready (rs := [0, 8]) (by kernel_rfl) (by simp) ?_
                    refine AllReady.cons rfl (fun K hK => ?_) ?_
                    · go_simp
                      refine hK _ _ ?_; clear hK K
                      refine wpAny_ready (rs := [8]) (by kernel_rfl) (by simp) ?_
                      refine AllReady.cons rfl (fun K hK => ?_) ?_
                      · go_simp
                        refine hK _ _ ?_; clear hK K
                        refine wpAny_ready (rs := [9]) (by kernel_rfl) (by simp) ?_
                        refine AllReady.cons rfl (fun K hK => ?_) ?_
                        · skip
                          refine step_append_own rfl _ _ 37 rfl (s + 5) 44 i0 (Ch.val ⟨0, Ln.zero, Ln.zero⟩) 23 88 Tryz.underlying37 Hi.out Hy0.out Hy1.out Hy2.out rfl (by decide) _ _ _ rfl (owns_up Hown.out ((Up.refl W).drew.drew.alloc _)) ⟨W.heap.size, 0, none⟩ 1 1 (Ch.cells ⟨3, u, y⟩) rfl rfl (chg_at W.drew.drew ⟨3, u, y⟩ _) (chg_one ⟨3, u, y⟩) (by unfold maxLen; omega) (by omega) (by simp; omega) ?_
                          intro v' w1 hown' hgrow
                          have hk1 := Lib.hid (((Kept.refl (book (kpP w.heap.size (s + 1) (s + 2)) W0.heap.size) W).drew.drew.alloc _).grown hgrow (fun r hr hb' => by have := owns_row Hown.out r hr; have := Hkp.out r hb'; omega))
                          have hu1 := Lib.hid ((Hu.out.drew.drew.alloc _).grown hgrow (fun r hr => by have := owns_row Hown.out r hr; omega))
                          have hz1 : s + 5 ≤ w1.heap.size := by have := hgrow.size; simp at this; omega
                          have hv1 : w1.heap[s]? = some (.cells #[v] 37 (0, 0)) := by
                            exact (hgrow.block s (by simp; omega) (fun e => by have := owns_row Hown.out s e.symm; omega)).trans ((Below.heap_alloc W _ s (by omega)).trans Hv.out)
                          obtain ⟨g, cap, rfl, hg5⟩ := owns_slice hown'
                          have hcv1 := cell_of_one hv1
                          have hfv1 := free_of_one hv1
                          have Hv1 := Lib.hid hv1
                          have Hown' := Lib.hid hown'
                          clear hv1 hown' hgrow hcv hfv
                          refine hK _ _ ?_; clear hK K
                          refine wpAny_ready (rs := [10]) (by kernel_rfl) (by simp) ?_
                          refine AllReady.cons rfl (fun K hK => ?_) ?_
                          · go_simp
                            refine hK _ _ ?_; clear hK K
                            refine wpAny_done (by kernel_rfl) ?_ _
                            refine ⟨rfl, ?_⟩
                            gi_wp2_with fail
                            refine ⟨hk1.out.setCell (by intro h; have := Hkp.out _ h; (try simp at this); omega) _, ⟨hu1.out.setCell (by (try simp); omega) _, by (try simp); omega⟩, _, one_setCell Hv1.out, ?_⟩
                            rw [List.map_append, List.flatMap_append, HL.out, chOf_diff _ _ _ _ hE, List.length_append, List.flatMap_append]
                            exact owns_setBlock Hown'.out (a := ⟨s, 0, none⟩) (show s < s + 5 by omega) _
                          exact AllReady.nil
                        exact AllReady.nil
                      exact AllReady.nil
                    refine AllReady.cons rfl (fun K hK => ?_) ?_
                    · go_simp
                      refine hK _ _ ?_; clear hK K
                      refine wpAny_ready (rs := [0]) (by kernel_rfl) (by simp) ?_
                      refine AllReady.cons rfl (fun K hK => ?_) ?_
                      · go_simp
                        refine hK _ _ ?_; clear hK K
                        refine wpAny_ready (rs := [9]) (by kernel_rfl) (by simp) ?_
                        refine AllReady.cons rfl (fun K hK => ?_) ?_
                        · skip
                          refine step_append_own rfl _ _ 37 rfl (s + 5) 44 i0 (Ch.val ⟨0, Ln.zero, Ln.zero⟩) 23 88 Tryz.underlying37 Hi.out Hy0.out Hy1.out Hy2.out rfl (by decide) _ _ _ rfl (owns_up Hown.out ((Up.refl W).drew.drew.alloc _)) ⟨W.heap.size, 0, none⟩ 1 1 (Ch.cells ⟨3, u, y⟩) rfl rfl (chg_at W.drew.drew ⟨3, u, y⟩ _) (chg_one ⟨3, u, y⟩) (by unfold maxLen; omega) (by omega) (by simp; omega) ?_
                          intro v' w1 hown' hgrow
                          have hk1 := Lib.hid (((Kept.refl (book (kpP w.heap.size (s + 1) (s + 2)) W0.heap.size) W).drew.drew.alloc _).grown hgrow (fun r hr hb' => by have := owns_row Hown.out r hr; have := Hkp.out r hb'; omega))
                          have hu1 := Lib.hid ((Hu.out.drew.drew.alloc _).grown hgrow (fun r hr => by have := owns_row Hown.out r hr; omega))
                          have hz1 : s + 5 ≤ w1.heap.size := by have := hgrow.size; simp at this; omega
                          have hv1 : w1.heap[s]? = some (.cells #[v] 37 (0, 0)) := by
                            exact (hgrow.block s (by simp; omega) (fun e => by have := owns_row Hown.out s e.symm; omega)).trans ((Below.heap_alloc W _ s (by omega)).trans Hv.out)
                          obtain ⟨g, cap, rfl, hg5⟩ := owns_slice hown'
                          have hcv1 := cell_of_one hv1
                          have hfv1 := free_of_one hv1
                          have Hv1 := Lib.hid hv1
                          have Hown' := Lib.hid hown'
                          clear hv1 hown' hgrow hcv hfv
                          refine hK _ _ ?_; clear hK K
                          refine wpAny_ready (rs := [10]) (by kernel_rfl) (by simp) ?_
                          refine AllReady.cons rfl (fun K hK => ?_) ?_
                          · go_simp
                            refine hK _ _ ?_; clear hK K
                            refine wpAny_done (by kernel_rfl) ?_ _
                            refine ⟨rfl, ?_⟩
                            gi_wp2_with fail
                            refine ⟨hk1.out.setCell (by intro h; have := Hkp.out _ h; (try simp at this); omega) _, ⟨hu1.out.setCell (by (try simp); omega) _, by (try simp); omega⟩, _, one_setCell Hv1.out, ?_⟩
                            rw [List.map_append, List.flatMap_append, HL.out, chOf_diff _ _ _ _ hE, List.length_append, List.flatMap_append]
                            exact owns_setBlock Hown'.out (a := ⟨s, 0, none⟩) (show s < s + 5 by omega) _
                          exact AllReady.nil
                        exact AllReady.nil
                      exact AllReady.nil
                    exact AllReady.nil
                  exact AllReady.nil
                refine AllReady.cons rfl (fun K hK => ?_) ?_
                · go_simp
                  refine hK _ _ ?_; clear hK K
                  refine wpAny_ready (rs := [0, 3]) (by kernel_rfl) (by simp) ?_
                  refine AllReady.cons rfl (fun K hK => ?_) ?_
                  · go_simp
                    refine hK _ _ ?_; clear hK K
                    refine wpAny_ready (rs := [3]) (by kernel_rfl) (by simp) ?_
                    refine AllReady.cons rfl (fun K hK => ?_) ?_
                    · go_simp
                      refine hK _ _ ?_; clear hK K
                      refine any_take (i := 7) (v := ?v20) rfl (by kernel_rfl) (by kernel_rfl) (by kernel_rfl) (Or.inl ⟨by rfl, ?hy20⟩) ?rest20
                      case hy20 => (intro w; go_simp; (try with_reducible rfl))
                      refine wpAny_ready (rs := [8]) (by kernel_rfl) (by simp) ?_
                      refine AllReady.cons rfl (fun K hK => ?_) ?_
                      · go_simp
                        refine hK _ _ ?_; clear hK K
                        refine wpAny_ready (rs := [9]) (by kernel_rfl) (by simp) ?_
                        refine AllReady.cons rfl (fun K hK => ?_) ?_
                        · skip
                          refine step_append_own rfl _ _ 37 rfl (s + 5) 44 i0 (Ch.val ⟨0, Ln.zero, Ln.zero⟩) 23 88 Tryz.underlying37 Hi.out Hy0.out Hy1.out Hy2.out rfl (by decide) _ _ _ rfl (owns_up Hown.out ((Up.refl W).drew.drew.alloc _)) ⟨W.heap.size, 0, none⟩ 1 1 (Ch.cells ⟨3, u, y⟩) rfl rfl (chg_at W.drew.drew ⟨3, u, y⟩ _) (chg_one ⟨3, u, y⟩) (by unfold maxLen; omega) (by omega) (by simp; omega) ?_
                          intro v' w1 hown' hgrow
                          have hk1 := Lib.hid (((Kept.refl (book (kpP w.heap.size (s + 1) (s + 2)) W0.heap.size) W).drew.drew.alloc _).grown hgrow (fun r hr hb' => by have := owns_row Hown.out r hr; have := Hkp.out r hb'; omega))
                          have hu1 := Lib.hid ((Hu.out.drew.drew.alloc _).grown hgrow (fun r hr => by have := owns_row Hown.out r hr; omega))
                          have hz1 : s + 5 ≤ w1.heap.size := by have := hgrow.size; simp at this; omega
                          have hv1 : w1.heap[s]? = some (.cells #[v] 37 (0, 0)) := by
                            exact (hgrow.block s (by simp; omega) (fun e => by have := owns_row Hown.out s e.symm; omega)).trans ((Below.heap_alloc W _ s (by omega)).trans Hv.out)
                          obtain ⟨g, cap, rfl, hg5⟩ := owns_slice hown'
                          have hcv1 := cell_of_one hv1
                          have hfv1 := free_of_one hv1
                          have Hv1 := Lib.hid hv1
                          have Hown' := Lib.hid hown'
                          clear hv1 hown' hgrow hcv hfv
                          refine hK _ _ ?_; clear hK K
                          refine wpAny_ready (rs := [10]) (by kernel_rfl) (by simp) ?_
                          refine AllReady.cons rfl (fun K hK => ?_) ?_
                          · go_simp
                            refine hK _ _ ?_; clear hK K
                            refine wpAny_done (by kernel_rfl) ?_ _
                            refine ⟨rfl, ?_⟩
                            gi_wp2_with fail
                            refine ⟨hk1.out.setCell (by intro h; have := Hkp.out _ h; (try simp at this); omega) _, ⟨hu1.out.setCell (by (try simp); omega) _, by (try simp); omega⟩, _, one_setCell Hv1.out, ?_⟩
                            rw [List.map_append, List.flatMap_append, HL.out, chOf_diff _ _ _ _ hE, List.length_append, List.flatMap_append]
                            exact owns_setBlock Hown'.out (a := ⟨s, 0, none⟩) (show s < s + 5 by omega) _
                          exact AllReady.nil
                        exact AllReady.nil
                      exact AllReady.nil
                    exact AllReady.nil
                  refine AllReady.cons rfl (fun K hK => ?_) ?_
                  · go_simp
                    refine hK _ _ ?_; clear hK K
                    refine any_take (i := 7) (v := ?v21) rfl (by kernel_rfl) (by kernel_rfl) (by kernel_rfl) (Or.inl ⟨by rfl, ?hy21⟩) ?rest21
                    case hy21 => (intro w; go_simp; (try with_reducible rfl))
                    refine wpAny_ready (rs := [0, 8]) (by kernel_rfl) (by simp) ?_
                    refine AllReady.cons rfl (fun K hK => ?_) ?_
                    · go_simp
                      refine hK _ _ ?_; clear hK K
                      refine wpAny_ready (rs := [8]) (by kernel_rfl) (by simp) ?_
                      refine AllReady.cons rfl (fun K hK => ?_) ?_
                      · go_simp
                        refine hK _ _ ?_; clear hK K
                        refine wpAny_ready (rs := [9]) (by kernel_rfl) (by simp) ?_
                        refine AllReady.cons rfl (fun K hK => ?_) ?_
                        · skip
                          refine step_append_own rfl _ _ 37 rfl (s + 5) 44 i0 (Ch.val ⟨0, Ln.zero, Ln.zero⟩) 23 88 Tryz.underlying37 Hi.out Hy0.out Hy1.out Hy2.out rfl (by decide) _ _ _ rfl (owns_up Hown.out ((Up.refl W).drew.drew.alloc _)) ⟨W.heap.size, 0, none⟩ 1 1 (Ch.cells ⟨3, u, y⟩) rfl rfl (chg_at W.drew.drew ⟨3, u, y⟩ _) (chg_one ⟨3, u, y⟩) (by unfold maxLen; omega) (by omega) (by simp; omega) ?_
                          intro v' w1 hown' hgrow
                          have hk1 := Lib.hid (((Kept.refl (book (kpP w.heap.size (s + 1) (s + 2)) W0.heap.size) W).drew.drew.alloc _).grown hgrow (fun r hr hb' => by have := owns_row Hown.out r hr; have := Hkp.out r hb'; omega))
                          have hu1 := Lib.hid ((Hu.out.drew.drew.alloc _).grown hgrow (fun r hr => by have := owns_row Hown.out r hr; omega))
                          have hz1 : s + 5 ≤ w1.heap.size := by have := hgrow.size; simp at this; omega
                          have hv1 : w1.heap[s]? = some (.cells #[v] 37 (0, 0)) := by
                            exact (hgrow.block s (by simp; omega) (fun e => by have := owns_row Hown.out s e.symm; omega)).trans ((Below.heap_alloc W _ s (by omega)).trans Hv.out)
                          obtain ⟨g, cap, rfl, hg5⟩ := owns_slice hown'
                          have hcv1 := cell_of_one hv1
                          have hfv1 := free_of_one hv1
                          have Hv1 := Lib.hid hv1
                          have Hown' := Lib.hid hown'
                          clear hv1 hown' hgrow hcv hfv
                          refine hK _ _ ?_; clear hK K
                          refine wpAny_ready (rs := [10]) (by kernel_rfl) (by simp) ?_
                          refine AllReady.cons rfl (fun K hK => ?_) ?_
                          · go_simp
                            refine hK _ _ ?_; clear hK K
                            refine wpAny_done (by kernel_rfl) ?_ _
                            refine ⟨rfl, ?_⟩
                            gi_wp2_with fail
                            refine ⟨hk1.out.setCell (by intro h; have := Hkp.out _ h; (try simp at this); omega) _, ⟨hu1.out.setCell (by (try simp); omega) _, by (try simp); omega⟩, _, one_setCell Hv1.out, ?_⟩
                            rw [List.map_append, List.flatMap_append, HL.out, chOf_diff _ _ _ _ hE, List.length_append, List.flatMap_append]
                            exact owns_setBlock Hown'.out (a := ⟨s, 0, none⟩) (show s < s + 5 by omega) _
                          exact AllReady.nil
                        exact AllReady.nil
                      exact AllReady.nil
                    refine AllReady.cons rfl (fun K hK => ?_) ?_
                    · go_simp
                      refine hK _ _ ?_; clear hK K
                      refine wpAny_ready (rs := [0]) (by kernel_rfl) (by simp) ?_
                      refine AllReady.cons rfl (fun K hK => ?_) ?_
                      · go_simp
                        refine hK _ _ ?_; clear hK K
                        refine wpAny_ready (rs := [9]) (by kernel_rfl) (by simp) ?_
                        refine AllReady.cons rfl (fun K hK => ?_) ?_
                        · skip
                          refine step_append_own rfl _ _ 37 rfl (s + 5) 44 i0 (Ch.val ⟨0, Ln.zero, Ln.zero⟩) 23 88 Tryz.underlying37 Hi.out Hy0.out Hy1.out Hy2.out rfl (by decide) _ _ _ rfl (owns_up Hown.out ((Up.refl W).drew.drew.alloc _)) ⟨W.heap.size, 0, none⟩ 1 1 (Ch.cells ⟨3, u, y⟩) rfl rfl (chg_at W.drew.drew ⟨3, u, y⟩ _) (chg_one ⟨3, u, y⟩) (by unfold maxLen; omega) (by omega) (by simp; omega) ?_
                          intro v' w1 hown' hgrow
                          have hk1 := Lib.hid (((Kept.refl (book (kpP w.heap.size (s + 1) (s + 2)) W0.heap.size) W).drew.drew.alloc _).grown hgrow (fun r hr hb' => by have := owns_row Hown.out r hr; have := Hkp.out r hb'; omega))
                          have hu1 := Lib.hid ((Hu.out.drew.drew.alloc _).grown hgrow (fun r hr => by have := owns_row Hown.out r hr; omega))
                          have hz1 : s + 5 ≤ w1.heap.size := by have := hgrow.size; simp at this; omega
                          have hv1 : w1.heap[s]? = some (.cells #[v] 37 (0, 0)) := by
                            exact (hgrow.block s (by simp; omega) (fun e => by have := owns_row Hown.out s e.symm; omega)).trans ((Below.heap_alloc W _ s (by omega)).trans Hv.out)
                          obtain ⟨g, cap, rfl, hg5⟩ := owns_slice hown'
                          have hcv1 := cell_of_one hv1
                          have hfv1 := free_of_one hv1
                          have Hv1 := Lib.hid hv1
                          have Hown' := Lib.hid hown'
                          clear hv1 hown' hgrow hcv hfv
                          refine hK _ _ ?_; clear hK K
                          refine wpAny_ready (rs := [10]) (by kernel_rfl) (by simp) ?_
                          refine AllReady.cons rfl (fun K hK => ?_) ?_
                          · go_simp
                            refine hK _ _ ?_; clear hK K
                            refine wpAny_done (by kernel_rfl) ?_ _
                            refine ⟨rfl, ?_⟩
                            gi_wp2_with fail
                            refine ⟨hk1.out.setCell (by intro h; have := Hkp.out _ h; (try simp at this); omega) _, ⟨hu1.out.setCell (by (try simp); omega) _, by (try simp); omega⟩, _, one_setCell Hv1.out, ?_⟩
                            rw [List.map_append, List.flatMap_append, HL.out, chOf_diff _ _ _ _ hE, List.length_append, List.flatMap_append]
                            exact owns_setBlock Hown'.out (a := ⟨s, 0, none⟩) (show s < s + 5 by omega) _
                          exact AllReady.nil
                        exact AllReady.nil
                      exact AllReady.nil
                    exact AllReady.nil
                  exact AllReady.nil
                exact AllReady.nil
              exact AllReady.nil
            exact AllReady.nil
          refine AllReady.cons rfl (fun K hK => ?_) ?_
          · go_simp
            refine hK _ _ ?_; clear hK K
            refine wpAny_ready (rs := [2]) (by kernel_rfl) (by simp) ?_
            refine AllReady.cons rfl (fun K hK => ?_) ?_
            · go_simp
              refine hK _ _ ?_; clear hK K
              refine wpAny_ready (rs := [6]) (by kernel_rfl) (by simp) ?_
              refine AllReady.cons rfl (fun K hK => ?_) ?_
              · go_simp
                refine hK _ _ ?_; clear hK K
                refine any_take (i := 7) (v := ?v22) rfl (by kernel_rfl) (by kernel_rfl) (by kernel_rfl) (Or.inl ⟨by rfl, ?hy22⟩) ?rest22
                case hy22 => (intro w; go_simp; (try with_reducible rfl))
                refine wpAny_done (by kernel_rfl) ?_ _
                refine ⟨rfl, ?_⟩
                gi_wp2_with fail
                refine wpIn_region_turn hm (by kernel_rfl) ?_
                refine any_take (i := 1) (v := ?v23) rfl (by kernel_rfl) (by kernel_rfl) (by kernel_rfl) (Or.inl ⟨by rfl, ?hy23⟩) ?rest23
                case hy23 => (intro w; go_simp; (try with_reducible rfl))
                refine any_take (i := 2) (v := ?v24) rfl (by kernel_rfl) (by kernel_rfl) (by kernel_rfl) (Or.inl ⟨by rfl, ?hy24⟩) ?rest24
                case hy24 => (intro w; go_simp; (try with_reducible rfl))
                refine any_take (i := 4) (v := ?v25) rfl (by kernel_rfl) (by kernel_rfl) (by kernel_rfl) (Or.inl ⟨by rfl, ?hy25⟩) ?rest25
                case hy25 => (intro w; go_simp; (try with_reducible rfl))
                refine any_take (i := 5) (v := ?v26) rfl (by kernel_rfl) (by kernel_rfl) (by kernel_rfl) (Or.inl ⟨by rfl, ?hy26⟩) ?rest26
                case hy26 => (intro w; go_simp; (try with_reducible rfl))
                refine wpAny_ready (rs := [0, 3, 6]) (by kernel_rfl) (by simp) ?_
                refine AllReady.cons rfl (fun K hK => ?_) ?_
                · go_simp
                  refine hK _ _ ?_; clear hK K
                  refine wpAny_ready (rs := [3, 6]) (by kernel_rfl) (by simp) ?_
                  refine AllReady.cons rfl (fun K hK => ?_) ?_
                  · go_simp
                    refine hK _ _ ?_; clear hK K
                    refine wpAny_ready (rs := [6]) (by kernel_rfl) (by simp) ?_
                    refine AllReady.cons rfl (fun K hK => ?_) ?_
                    · go_simp
                      refine hK _ _ ?_; clear hK K
                      refine any_take (i := 7) (v := ?v27) rfl (by kernel_rfl) (by kernel_rfl) (by kernel_rfl) (Or.inl ⟨by rfl, ?hy27⟩) ?rest27
                      case hy27 => (intro w; go_simp; (try with_reducible rfl))
                      refine wpAny_ready (rs := [8]) (by kernel_rfl) (by simp) ?_
                      refine AllReady.cons rfl (fun K hK => ?_) ?_
                      · go_simp
                        refine hK _ _ ?_; clear hK K
                        refine wpAny_ready (rs := [9]) (by kernel_rfl) (by simp) ?_
                        refine AllReady.cons rfl (fun K hK => ?_) ?_
                        · skip
                          refine step_append_own rfl _ _ 37 rfl (s + 5) 44 i0 (Ch.val ⟨0, Ln.zero, Ln.zero⟩) 23 88 Tryz.underlying37 Hi.out Hy0.out Hy1.out Hy2.out rfl (by decide) _ _ _ rfl (owns_up Hown.out ((Up.refl W).drew.drew.alloc _)) ⟨W.heap.size, 0, none⟩ 1 1 (Ch.cells ⟨3, u, y⟩) rfl rfl (chg_at W.drew.drew ⟨3, u, y⟩ _) (chg_one ⟨3, u, y⟩) (by unfold maxLen; omega) (by omega) (by simp; omega) ?_
                          intro v' w1 hown' hgrow
                          have hk1 := Lib.hid (((Kept.refl (book (kpP w.heap.size (s + 1) (s + 2)) W0.heap.size) W).drew.drew.alloc _).grown hgrow (fun r hr hb' => by have := owns_row Hown.out r hr; have := Hkp.out r hb'; omega))
                          have hu1 := Lib.hid ((Hu.out.drew.drew.alloc _).grown hgrow (fun r hr => by have := owns_row Hown.out r hr; omega))
                          have hz1 : s + 5 ≤ w1.heap.size := by have := hgrow.size; simp at this; omega
                          have hv1 : w1.heap[s]? = some (.cells #[v] 37 (0, 0)) := by
                            exact (hgrow.block s (by simp; omega) (fun e => by have := owns_row Hown.out s e.symm; omega)).trans ((Below.heap_alloc W _ s (by omega)).trans Hv.out)
                          obtain ⟨g, cap, rfl, hg5⟩ := owns_slice hown'
                          have hcv1 := cell_of_one hv1
                          have hfv1 := free_of_one hv1
                          have Hv1 := Lib.hid hv1
                          have Hown' := Lib.hid hown'
                          clear hv1 hown' hgrow hcv hfv
                          refine hK _ _ ?_; clear hK K
                          refine wpAny_ready (rs := [10]) (by kernel_rfl) (by simp) ?_
                          refine AllReady.cons rfl (fun K hK => ?_) ?_
                          · go_simp
                            refine hK _ _ ?_; clear hK K
                            refine wpAny_done (by kernel_rfl) ?_ _
                            refine ⟨rfl, ?_⟩
                            gi_wp2_with fail
                            refine ⟨hk1.out.setCell (by intro h; have := Hkp.out _ h; (try simp at this); omega) _, ⟨hu1.out.setCell (by (try simp); omega) _, by (try simp); omega⟩, _, one_setCell Hv1.out, ?_⟩
                            rw [List.map_append, List.flatMap_append, HL.out, chOf_diff _ _ _ _ hE, List.length_append, List.flatMap_append]
                            exact owns_setBlock Hown'.out (a := ⟨s, 0, none⟩) (show s < s + 5 by omega) _
                          exact AllReady.nil
                        exact AllReady.nil
                      exact AllReady.nil
                    exact AllReady.nil
                  refine AllReady.cons rfl (fun K hK => ?_) ?_
                  · go_simp
                    refine hK _ _ ?_; clear hK K
                    refine wpAny_ready (rs := [3]) (by kernel_rfl) (by simp) ?_
                    refine AllReady.cons rfl (fun K hK => ?_) ?_
                    · go_simp
                      refine hK _ _ ?_; clear hK K
                      refine any_take (i := 7) (v := ?v28) rfl (by kernel_rfl) (by kernel_rfl) (by kernel_rfl) (Or.inl ⟨by rfl, ?hy28⟩) ?rest28
                      case hy28 => (intro w; go_simp; (try with_reducible rfl))
                      refine wpAny_ready (rs := [8]) (by kernel_rfl) (by simp) ?_
                      refine AllReady.cons rfl (fun K hK => ?_) ?_
                      · go_simp
                        refine hK _ _ ?_; clear hK K
                        refine wpAny_ready (rs := [9]) (by kernel_rfl) (by simp) ?_
                        refine AllReady.cons rfl (fun K hK => ?_) ?_
                        · skip
                          refine step_append_own rfl _ _ 37 rfl (s + 5) 44 i0 (Ch.val ⟨0, Ln.zero, Ln.zero⟩) 23 88 Tryz.underlying37 Hi.out Hy0.out Hy1.out Hy2.out rfl (by decide) _ _ _ rfl (owns_up Hown.out ((Up.refl W).drew.drew.alloc _)) ⟨W.heap.size, 0, none⟩ 1 1 (Ch.cells ⟨3, u, y⟩) rfl rfl (chg_at W.drew.drew ⟨3, u, y⟩ _) (chg_one ⟨3, u, y⟩) (by unfold maxLen; omega) (by omega) (by simp; omega) ?_
                          intro v' w1 hown' hgrow
                          have hk1 := Lib.hid (((Kept.refl (book (kpP w.heap.size (s + 1) (s + 2)) W0.heap.size) W).drew.drew.alloc _).grown hgrow (fun r hr hb' => by have := owns_row Hown.out r hr; have := Hkp.out r hb'; omega))
                          have hu1 := Lib.hid ((Hu.out.drew.drew.alloc _).grown hgrow (fun r hr => by have := owns_row Hown.out r hr; omega))
                          have hz1 : s + 5 ≤ w1.heap.size := by have := hgrow.size; simp at this; omega
                          have hv1 : w1.heap[s]? = some (.cells #[v] 37 (0, 0)) := by
                            exact (hgrow.block s (by simp; omega) (fun e => by have := owns_row Hown.out s e.symm; omega)).trans ((Below.heap_alloc W _ s (by omega)).trans Hv.out)
                          obtain ⟨g, cap, rfl, hg5⟩ := owns_slice hown'
                          have hcv1 := cell_of_one hv1
                          have hfv1 := free_of_one hv1
                          have Hv1 := Lib.hid hv1
                          have Hown' := Lib.hid hown'
                          clear hv1 hown' hgrow hcv hfv
                          refine hK _ _ ?_; clear hK K
                          refine wpAny_ready (rs := [10]) (by kernel_rfl) (by simp) ?_
                          refine AllReady.cons rfl (fun K hK => ?_) ?_
                          · go_simp
                            refine hK _ _ ?_; clear hK K
                            refine wpAny_done (by kernel_rfl) ?_ _
                            refine ⟨rfl, ?_⟩
                            gi_wp2_with fail
                            refine ⟨hk1.out.setCell (by intro h; have := Hkp.out _ h; (try simp at this); omega) _, ⟨hu1.out.setCell (by (try simp); omega) _, by (try simp); omega⟩, _, one_setCell Hv1.out, ?_⟩
                            rw [List.map_append, List.flatMap_append, HL.out, chOf_diff _ _ _ _ hE, List.length_append, List.flatMap_append]
                            exact owns_setBlock Hown'.out (a := ⟨s, 0, none⟩) (show s < s + 5 by omega) _
                          exact AllReady.nil
                        exact AllReady.nil
                      exact AllReady.nil
                    exact AllReady.nil
                  exact AllReady.nil
                refine AllReady.cons rfl (fun K hK => ?_) ?_
                · go_simp
                  refine hK _ _ ?_; clear hK K
                  refine wpAny_ready (rs := [0, 6]) (by kernel_rfl) (by simp) ?_
                  refine AllReady.cons rfl (fun K hK => ?_) ?_
                  · go_simp
                    refine hK _ _ ?_; clear hK K
                    refine wpAny_ready (rs := [6]) (by kernel_rfl) (by simp) ?_
                    refine AllReady.cons rfl (fun K hK => ?_) ?_
                    · go_simp
                      refine hK _ _ ?_; clear hK K
                      refine any_take (i := 7) (v := ?v29) rfl (by kernel_rfl) (by kernel_rfl) (by kernel_rfl) (Or.inl ⟨by rfl, ?hy29⟩) ?rest29
                      case hy29 => (intro w; go_simp; (try with_reducible rfl))
                      refine wpAny_ready (rs := [8]) (by kernel_rfl) (by simp) ?_
                      refine AllReady.cons rfl (fun K hK => ?_) ?_
                      · go_simp
                        refine hK _ _ ?_; clear hK K
                        refine wpAny_ready (rs := [9]) (by kernel_rfl) (by simp) ?_
                        refine AllReady.cons rfl (fun K hK => ?_) ?_
                        · skip
                          refine step_append_own rfl _ _ 37 rfl (s + 5) 44 i0 (Ch.val ⟨0, Ln.zero, Ln.zero⟩) 23 88 Tryz.underlying37 Hi.out Hy0.out Hy1.out Hy2.out rfl (by decide) _ _ _ rfl (owns_up Hown.out ((Up.refl W).drew.drew.alloc _)) ⟨W.heap.size, 0, none⟩ 1 1 (Ch.cells ⟨3, u, y⟩) rfl rfl (chg_at W.drew.drew ⟨3, u, y⟩ _) (chg_one ⟨3, u, y⟩) (by unfold maxLen; omega) (by omega) (by simp; omega) ?_
                          intro v' w1 hown' hgrow
                          have hk1 := Lib.hid (((Kept.refl (book (kpP w.heap.size (s + 1) (s + 2)) W0.heap.size) W).drew.drew.alloc _).grown hgrow (fun r hr hb' => by have := owns_row Hown.out r hr; have := Hkp.out r hb'; omega))
                          have hu1 := Lib.hid ((Hu.out.drew.drew.alloc _).grown hgrow (fun r hr => by have := owns_row Hown.out r hr; omega))
                          have hz1 : s + 5 ≤ w1.heap.size := by have := hgrow.size; simp at this; omega
                          have hv1 : w1.heap[s]? = some (.cells #[v] 37 (0, 0)) := by
                            exact (hgrow.block s (by simp; omega) (fun e => by have := owns_row Hown.out s e.symm; omega)).trans ((Below.heap_alloc W _ s (by omega)).trans Hv.out)
                          obtain ⟨g, cap, rfl, hg5⟩ := owns_slice hown'
                          have hcv1 := cell_of_one hv1
                          have hfv1 := free_of_one hv1
                          have Hv1 := Lib.hid hv1
                          have Hown' := Lib.hid hown'
                          clear hv1 hown' hgrow hcv hfv
                          refine hK _ _ ?_; clear hK K
                          refine wpAny_ready (rs := [10]) (by kernel_rfl) (by simp) ?_
                          refine AllReady.cons rfl (fun K hK => ?_) ?_
                          · go_simp
                            refine hK _ _ ?_; clear hK K
                            refine wpAny_done (by kernel_rfl) ?_ _
                            refine ⟨rfl, ?_⟩
                            gi_wp2_with fail
                            refine ⟨hk1.out.setCell (by intro h; have := Hkp.out _ h; (try simp at this); omega) _, ⟨hu1.out.setCell (by (try simp); omega) _, by (try simp); omega⟩, _, one_setCell Hv1.out, ?_⟩
                            rw [List.map_append, List.flatMap_append, HL.out, chOf_diff _ _ _ _ hE, List.length_append, List.flatMap_append]
                            exact owns_setBlock Hown'.out (a := ⟨s, 0, none⟩) (show s < s + 5 by omega) _
                          exact AllReady.nil
                        exact AllReady.nil
                      exact AllReady.nil
                    exact AllReady.nil
                  refine AllReady.cons rfl (fun K hK => ?_) ?_
                  · go_simp
                    refine hK _ _ ?_; clear hK K
                    refine any_take (i := 7) (v := ?v30) rfl (by kernel_rfl) (by kernel_rfl) (by kernel_rfl) (Or.inl ⟨by rfl, ?hy30⟩) ?rest30
                    case hy30 => (intro w; go_simp; (try with_reducible rfl))
                    refine wpAny_ready (rs := [0, 8]) (by kernel_rfl) (by simp) ?_
                    refine AllReady.cons rfl (fun K hK => ?_) ?_
                    · go_simp
                      refine hK _ _ ?_; clear hK K
                      refine wpAny_ready (rs := [8]) (by kernel_rfl) (by simp) ?_
                      refine AllReady.cons rfl (fun K hK => ?_) ?_
                      · go_simp
                        refine hK _ _ ?_; clear hK K
                        refine wpAny_ready (rs := [9]) (by kernel_rfl) (by simp) ?_
                        refine AllReady.cons rfl (fun K hK => ?_) ?_
                        · skip
                          refine step_append_own rfl _ _ 37 rfl (s + 5) 44 i0 (Ch.val ⟨0, Ln.zero, Ln.zero⟩) 23 88 Tryz.underlying37 Hi.out Hy0.out Hy1.out Hy2.out rfl (by decide) _ _ _ rfl (owns_up Hown.out ((Up.refl W).drew.drew.alloc _)) ⟨W.heap.size, 0, none⟩ 1 1 (Ch.cells ⟨3, u, y⟩) rfl rfl (chg_at W.drew.drew ⟨3, u, y⟩ _) (chg_one ⟨3, u, y⟩) (by unfold maxLen; omega) (by omega) (by simp; omega) ?_
                          intro v' w1 hown' hgrow
                          have hk1 := Lib.hid (((Kept.refl (book (kpP w.heap.size (s + 1) (s + 2)) W0.heap.size) W).drew.drew.alloc _).grown hgrow (fun r hr hb' => by have := owns_row Hown.out r hr; have := Hkp.out r hb'; omega))
                          have hu1 := Lib.hid ((Hu.out.drew.drew.alloc _).grown hgrow (fun r hr => by have := owns_row Hown.out r hr; omega))
                          have hz1 : s + 5 ≤ w1.heap.size := by have := hgrow.size; simp at this; omega
                          have hv1 : w1.heap[s]? = some (.cells #[v] 37 (0, 0)) := by
                            exact (hgrow.block s (by simp; omega) (fun e => by have := owns_row Hown.out s e.symm; omega)).trans ((Below.heap_alloc W _ s (by omega)).trans Hv.out)
                          obtain ⟨g, cap, rfl, hg5⟩ := owns_slice hown'
                          have hcv1 := cell_of_one hv1
                          have hfv1 := free_of_one hv1
                          have Hv1 := Lib.hid hv1
                          have Hown' := Lib.hid hown'
                          clear hv1 hown' hgrow hcv hfv
                          refine hK _ _ ?_; clear hK K
                          refine wpAny_ready (rs := [10]) (by kernel_rfl) (by simp) ?_
                          refine AllReady.cons rfl (fun K hK => ?_) ?_
                          · go_simp
                            refine hK _ _ ?_; clear hK K
                            refine wpAny_done (by kernel_rfl) ?_ _
                            refine ⟨rfl, ?_⟩
                            gi_wp2_with fail
                            refine ⟨hk1.out.setCell (by intro h; have := Hkp.out _ h; (try simp at this); omega) _, ⟨hu1.out.setCell (by (try simp); omega) _, by (try simp); omega⟩, _, one_setCell Hv1.out, ?_⟩
                            rw [List.map_append, List.flatMap_append, HL.out, chOf_diff _ _ _ _ hE, List.length_append, List.flatMap_append]
                            exact owns_setBlock Hown'.out (a := ⟨s, 0, none⟩) (show s < s + 5 by omega) _
                          exact AllReady.nil
                        exact AllReady.nil
                      exact AllReady.nil
                    refine AllReady.cons rfl (fun K hK => ?_) ?_
                    · go_simp
                      refine hK _ _ ?_; clear hK K
                      refine wpAny_ready (rs := [0]) (by kernel_rfl) (by simp) ?_
                      refine AllReady.cons rfl (fun K hK => ?_) ?_
                      · go_simp
                        refine hK _ _ ?_; clear hK K
                        refine wpAny_ready (rs := [9]) (by kernel_rfl) (by simp) ?_
                        refine AllReady.cons rfl (fun K hK => ?_) ?_
                        · skip
                          refine step_append_own rfl _ _ 37 rfl (s + 5) 44 i0 (Ch.val ⟨0, Ln.zero, Ln.zero⟩) 23 88 Tryz.underlying37 Hi.out Hy0.out Hy1.out Hy2.out rfl (by decide) _ _ _ rfl (owns_up Hown.out ((Up.refl W).drew.drew.alloc _)) ⟨W.heap.size, 0, none⟩ 1 1 (Ch.cells ⟨3, u, y⟩) rfl rfl (chg_at W.drew.drew ⟨3, u, y⟩ _) (chg_one ⟨3, u, y⟩) (by unfold maxLen; omega) (by omega) (by simp; omega) ?_
                          intro v' w1 hown' hgrow
                          have hk1 := Lib.hid (((Kept.refl (book (kpP w.heap.size (s + 1) (s + 2)) W0.heap.size) W).drew.drew.alloc _).grown hgrow (fun r hr hb' => by have := owns_row Hown.out r hr; have := Hkp.out r hb'; omega))
                          have hu1 := Lib.hid ((Hu.out.drew.drew.alloc _).grown hgrow (fun r hr => by have := owns_row Hown.out r hr; omega))
                          have hz1 : s + 5 ≤ w1.heap.size := by have := hgrow.size; simp at this; omega
                          have hv1 : w1.heap[s]? = some (.cells #[v] 37 (0, 0)) := by
                            exact (hgrow.block s (by simp; omega) (fun e => by have := owns_row Hown.out s e.symm; omega)).trans ((Below.heap_alloc W _ s (by omega)).trans Hv.out)
                          obtain ⟨g, cap, rfl, hg5⟩ := owns_slice hown'
                          have hcv1 := cell_of_one hv1
                          have hfv1 := free_of_one hv1
                          have Hv1 := Lib.hid hv1
                          have Hown' := Lib.hid hown'
                          clear hv1 hown' hgrow hcv hfv
                          refine hK _ _ ?_; clear hK K
                          refine wpAny_ready (rs := [10]) (by kernel_rfl) (by simp) ?_
                          refine AllReady.cons rfl (fun K hK => ?_) ?_
                          · go_simp
                            refine hK _ _ ?_; clear hK K
                            refine wpAny_done (by kernel_rfl) ?_ _
                            refine ⟨rfl, ?_⟩
                            gi_wp2_with fail
                            refine ⟨hk1.out.setCell (by intro h; have := Hkp.out _ h; (try simp at this); omega) _, ⟨hu1.out.setCell (by (try simp); omega) _, by (try simp); omega⟩, _, one_setCell Hv1.out, ?_⟩
                            rw [List.map_append, List.flatMap_append, HL.out, chOf_diff _ _ _ _ hE, List.length_append, List.flatMap_append]
                            exact owns_setBlock Hown'.out (a := ⟨s, 0, none⟩) (show s < s + 5 by omega) _
                          exact AllReady.nil
                        exact AllReady.nil
                      exact AllReady.nil
                    exact AllReady.nil
                  exact AllReady.nil
                refine AllReady.cons rfl (fun K hK => ?_) ?_
                · go_simp
                  refine hK _ _ ?_; clear hK K
                  refine wpAny_ready (rs := [0, 3]) (by kernel_rfl) (by simp) ?_
                  refine AllReady.cons rfl (fun K hK => ?_) ?_
                  · go_simp
                    refine hK _ _ ?_; clear hK K
                    refine wpAny_ready (rs := [3]) (by kernel_rfl) (by simp) ?_
                    refine AllReady.cons rfl (fun K hK => ?_) ?_
                    · go_simp
                      refine hK _ _ ?_; clear hK K
                      refine any_take (i := 7) (v := ?v31) rfl (by kernel_rfl) (by kernel_rfl) (by kernel_rfl) (Or.inl ⟨by rfl, ?hy31⟩) ?rest31
                      case hy31 => (intro w; go_simp; (try with_reducible rfl))
                      refine wpAny_ready (rs := [8]) (by kernel_rfl) (by simp) ?_
                      refine AllReady.cons rfl (fun K hK => ?_) ?_
                      · go_simp
                        refine hK _ _ ?_; clear hK K
                        refine wpAny_ready (rs := [9]) (by kernel_rfl) (by simp) ?_
                        refine AllReady.cons rfl (fun K hK => ?_) ?_
                        · skip
                          refine step_append_own rfl _ _ 37 rfl (s + 5) 44 i0 (Ch.val ⟨0, Ln.zero, Ln.zero⟩) 23 88 Tryz.underlying37 Hi.out Hy0.out Hy1.out Hy2.out rfl (by decide) _ _ _ rfl (owns_up Hown.out ((Up.refl W).drew.drew.alloc _)) ⟨W.heap.size, 0, none⟩ 1 1 (Ch.cells ⟨3, u, y⟩) rfl rfl (chg_at W.drew.drew ⟨3, u, y⟩ _) (chg_one ⟨3, u, y⟩) (by unfold maxLen; omega) (by omega) (by simp; omega) ?_
                          intro v' w1 hown' hgrow
                          have hk1 := Lib.hid (((Kept.refl (book (kpP w.heap.size (s + 1) (s + 2)) W0.heap.size) W).drew.drew.alloc _).grown hgrow (fun r hr hb' => by have := owns_row Hown.out r hr; have := Hkp.out r hb'; omega))
                          have hu1 := Lib.hid ((Hu.out.drew.drew.alloc _).grown hgrow (fun r hr => by have := owns_row Hown.out r hr; omega))
                          have hz1 : s + 5 ≤ w1.heap.size := by have := hgrow.size; simp at this; omega
                          have hv1 : w1.heap[s]? = some (.cells #[v] 37 (0, 0)) := by
                            exact (hgrow.block s (by simp; omega) (fun e => by have := owns_row Hown.out s e.symm; omega)).trans ((Below.heap_alloc W _ s (by omega)).trans Hv.out)
                          obtain ⟨g, cap, rfl, hg5⟩ := owns_slice hown'
                          have hcv1 := cell_of_one hv1
                          have hfv1 := free_of_one hv1
                          have Hv1 := Lib.hid hv1
                          have Hown' := Lib.hid hown'
                          clear hv1 hown' hgrow hcv hfv
                          refine hK _ _ ?_; clear hK K
                          refine wpAny_ready (rs := [10]) (by kernel_rfl) (by simp) ?_
                          refine AllReady.cons rfl (fun K hK => ?_) ?_
                          · go_simp
                            refine hK _ _ ?_; clear hK K
                            refine wpAny_done (by kernel_rfl) ?_ _
                            refine ⟨rfl, ?_⟩
                            gi_wp2_with fail
                            refine ⟨hk1.out.setCell (by intro h; have := Hkp.out _ h; (try simp at this); omega) _, ⟨hu1.out.setCell (by (try simp); omega) _, by (try simp); omega⟩, _, one_setCell Hv1.out, ?_⟩
                            rw [List.map_append, List.flatMap_append, HL.out, chOf_diff _ _ _ _ hE, List.length_append, List.flatMap_append]
                            exact owns_setBlock Hown'.out (a := ⟨s, 0, none⟩) (show s < s + 5 by omega) _
                          exact AllReady.nil
                        exact AllReady.nil
                      exact AllReady.nil
                    exact AllReady.nil
                  refine AllReady.cons rfl (fun K hK => ?_) ?_
                  · go_simp
                    refine hK _ _ ?_; clear hK K
                    refine any_take (i := 7) (v := ?v32) rfl (by kernel_rfl) (by kernel_rfl) (by kernel_rfl) (Or.inl ⟨by rfl, ?hy32⟩) ?rest32
                    case hy32 => (intro w; go_simp; (try with_reducible rfl))
                    refine wpAny_ready (rs := [0, 8]) (by kernel_rfl) (by simp) ?_
                    refine AllReady.cons rfl (fun K hK => ?_) ?_
                    · go_simp
                      refine hK _ _ ?_; clear hK K
                      refine wpAny_ready (rs := [8]) (by kernel_rfl) (by simp) ?_
                      refine AllReady.cons rfl (fun K hK => ?_) ?_
                      · go_simp
                        refine hK _ _ ?_; clear hK K
                        refine wpAny_ready (rs := [9]) (by kernel_rfl) (by simp) ?_
                        refine AllReady.cons rfl (fun K hK => ?_) ?_
                        · skip
                          refine step_append_own rfl _ _ 37 rfl (s + 5) 44 i0 (Ch.val ⟨0, Ln.zero, Ln.zero⟩) 23 88 Tryz.underlying37 Hi.out Hy0.out Hy1.out Hy2.out rfl (by decide) _ _ _ rfl (owns_up Hown.out ((Up.refl W).drew.drew.alloc _)) ⟨W.heap.size, 0, none⟩ 1 1 (Ch.cells ⟨3, u, y⟩) rfl rfl (chg_at W.drew.drew ⟨3, u, y⟩ _) (chg_one ⟨3, u, y⟩) (by unfold maxLen; omega) (by omega) (by simp; omega) ?_
                          intro v' w1 hown' hgrow
                          have hk1 := Lib.hid (((Kept.refl (book (kpP w.heap.size (s + 1) (s + 2)) W0.heap.size) W).drew.drew.alloc _).grown hgrow (fun r hr hb' => by have := owns_row Hown.out r hr; have := Hkp.out r hb'; omega))
                          have hu1 := Lib.hid ((Hu.out.drew.drew.alloc _).grown hgrow (fun r hr => by have := owns_row Hown.out r hr; omega))
                          have hz1 : s + 5 ≤ w1.heap.size := by have := hgrow.size; simp at this; omega
                          have hv1 : w1.heap[s]? = some (.cells #[v] 37 (0, 0)) := by
                            exact (hgrow.block s (by simp; omega) (fun e => by have := owns_row Hown.out s e.symm; omega)).trans ((Below.heap_alloc W _ s (by omega)).trans Hv.out)
                          obtain ⟨g, cap, rfl, hg5⟩ := owns_slice hown'
                          have hcv1 := cell_of_one hv1
                          have hfv1 := free_of_one hv1
                          have Hv1 := Lib.hid hv1
                          have Hown' := Lib.hid hown'
                          clear hv1 hown' hgrow hcv hfv
                          refine hK _ _ ?_; clear hK K
                          refine wpAny_ready (rs := [10]) (by kernel_rfl) (by simp) ?_
                          refine AllReady.cons rfl (fun K hK => ?_) ?_
                          · go_simp
                            refine hK _ _ ?_; clear hK K
                            refine wpAny_done (by kernel_rfl) ?_ _
                            refine ⟨rfl, ?_⟩
                            gi_wp2_with fail
                            refine ⟨hk1.out.setCell (by intro h; have := Hkp.out _ h; (try simp at this); omega) _, ⟨hu1.out.setCell (by (try simp); omega) _, by (try simp); omega⟩, _, one_setCell Hv1.out, ?_⟩
                            rw [List.map_append, List.flatMap_append, HL.out, chOf_diff _ _ _ _ hE, List.length_append, List.flatMap_append]
                            exact owns_setBlock Hown'.out (a := ⟨s, 0, none⟩) (show s < s + 5 by omega) _
                          exact AllReady.nil
                        exact AllReady.nil
                      exact AllReady.nil
                    refine AllReady.cons rfl (fun K hK => ?_) ?_
                    · go_simp
                      refine hK _ _ ?_; clear hK K
                      refine wpAny_ready (rs := [0]) (by kernel_rfl) (by simp) ?_
                      refine AllReady.cons rfl (fun K hK => ?_) ?_
                      · go_simp
                        refine hK _ _ ?_; clear hK K
                        refine wpAny_ready (rs := [9]) (by kernel_rfl) (by simp) ?_
                        refine AllReady.cons rfl (fun K hK => ?_) ?_
                        · skip
                          refine step_append_own rfl _ _ 37 rfl (s + 5) 44 i0 (Ch.val ⟨0, Ln.zero, Ln.zero⟩) 23 88 Tryz.underlying37 Hi.out Hy0.out Hy1.out Hy2.out rfl (by decide) _ _ _ rfl (owns_up Hown.out ((Up.refl W).drew.drew.alloc _)) ⟨W.heap.size, 0, none⟩ 1 1 (Ch.cells ⟨3, u, y⟩) rfl rfl (chg_at W.drew.drew ⟨3, u, y⟩ _) (chg_one ⟨3, u, y⟩) (by unfold maxLen; omega) (by omega) (by simp; omega) ?_
                          intro v' w1 hown' hgrow
                          have hk1 := Lib.hid (((Kept.refl (book (kpP w.heap.size (s + 1) (s + 2)) W0.heap.size) W).drew.drew.alloc _).grown hgrow (fun r hr hb' => by have := owns_row Hown.out r hr; have := Hkp.out r hb'; omega))
                          have hu1 := Lib.hid ((Hu.out.drew.drew.alloc _).grown hgrow (fun r hr => by have := owns_row Hown.out r hr; omega))
                          have hz1 : s + 5 ≤ w1.heap.size := by have := hgrow.size; simp at this; omega
                          have hv1 : w1.heap[s]? = some (.cells #[v] 37 (0, 0)) := by
                            exact (hgrow.block s (by simp; omega) (fun e => by have := owns_row Hown.out s e.symm; omega)).trans ((Below.heap_alloc W _ s (by omega)).trans Hv.out)
                          obtain ⟨g, cap, rfl, hg5⟩ := owns_slice hown'
                          have hcv1 := cell_of_one hv1
                          have hfv1 := free_of_one hv1
                          have Hv1 := Lib.hid hv1
                          have Hown' := Lib.hid hown'
                          clear hv1 hown' hgrow hcv hfv
                          refine hK _ _ ?_; clear hK K
                          refine wpAny_ready (rs := [10]) (by kernel_rfl) (by simp) ?_
                          refine AllReady.cons rfl (fun K hK => ?_) ?_
                          · go_simp
                            refine hK _ _ ?_; clear hK K
                            refine wpAny_done (by kernel_rfl) ?_ _
                            refine ⟨rfl, ?_⟩
                            gi_wp2_with fail
                            refine ⟨hk1.out.setCell (by intro h; have := Hkp.out _ h; (try simp at this); omega) _, ⟨hu1.out.setCell (by (try simp); omega) _, by (try simp); omega⟩, _, one_setCell Hv1.out, ?_⟩
                            rw [List.map_append, List.flatMap_append, HL.out, chOf_diff _ _ _ _ hE, List.length_append, List.flatMap_append]
                            exact owns_setBlock Hown'.out (a := ⟨s, 0, none⟩) (show s < s + 5 by omega) _
                          exact AllReady.nil
                        exact AllReady.nil
                      exact AllReady.nil
                    exact AllReady.nil
                  exact AllReady.nil
                exact AllReady.nil
              exact AllReady.nil
            exact AllReady.nil
          exact AllReady.nil
  case done =>
    rintro xs W rfl ⟨⟨hu, hz⟩, v, hv, hown⟩ hD
    have hcv := cell_of_one hv
    rw [← HD.out] at hown
    have Hown := Lib.hid hown
    have HD2 := Lib.hid hD
    have Hbk := Lib.hid hbk
    have Hv := Lib.hid hv
    clear hown hD hbk hkp hv c1 c2 f1 f2 o1 hu0 hi hy0 hy1 hy2
    go_wp2_with fail
    refine ⟨by simp, .inl ⟨_, _, rfl, run_takeDeferred HD2.out, ?_⟩⟩
    have ht : Turn (fun k => k = W0.heap.size) W (W.putObj W0.heap.size (.deferred none)) := turn_putObj _ _ _ rfl
    exact ⟨_, results_tmp2 rfl _ _ _, v, rfl, owns_base (owns_turn ht Hown.out (fun k hk => by omega)) (by omega), (ht.up hu (fun k hk => by omega)).mk⟩
  case stop => intro c pre W h _; exact h.elim
end Go.Proofs.YtlbbepgfjigjpaaGreatDoor
