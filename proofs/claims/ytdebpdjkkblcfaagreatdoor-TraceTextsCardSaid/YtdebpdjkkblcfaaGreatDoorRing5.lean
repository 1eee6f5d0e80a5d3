/- The events that a ring keeps, as an iterator. -/
import Derived.Test.YtdebpdjkkblcfaaGreatDoorRing4
import Derived.Test.YtdebpdjkkblcfaaGreatDoorRange
import Derived.Test.YtdebpdjkkblcfaaGreatDoorCover
namespace Go.Ab
open Go.RowKit
/-- Events with their numbers. -/
def numbered (n : Nat) : List Ev → List (Nat × Ev)
  | [] => []
  | e :: t => (n, e) :: numbered (n + 1) t
/-- The events that a ring keeps, with their numbers. -/
def keptL (l : List Ev) (size : Nat) : List (Nat × Ev) := numbered (l.length - min l.length size) (l.drop (l.length - min l.length size))
theorem numbered_step (l : List Ev) (n : Nat) (e : Ev) (h : l[n]? = some e) : numbered n (l.drop n) = (n, e) :: numbered (n + 1) (l.drop (n + 1)) := by
  obtain ⟨hn, rfl⟩ := List.getElem?_eq_some_iff.1 h
  rw [List.drop_eq_getElem_cons hn]; rfl
theorem numbered_end (l : List Ev) (n : Nat) (h : l.length ≤ n) : numbered n (l.drop n) = [] := by
  rw [List.drop_eq_nil_of_le h]; rfl
theorem numbered_length (l : List Ev) : ∀ n, (numbered n l).length = l.length := by
  induction l with
  | nil => intro n; rfl
  | cons e t ih => intro n; simp [numbered, ih]
theorem keptL_length (l : List Ev) (size : Nat) : (keptL l size).length ≤ l.length := by
  unfold keptL; rw [numbered_length]; simp
def keptOwn (bk R G : Nat) (_ : Nat) (b : Nat) : Prop := b = bk ∨ b = R ∨ b = G
def encEv (p : Nat × Ev) : Array Value := #[.int .i64 (p.1 : Int), p.2.val]
def noOwn (_ : Nat) (_ : Nat) : Prop := False
theorem RingIs.kept {w W : World} {te tr : TypeId} {R G size : Nat} {l : List Ev} {p : Nat → Prop} (h : RingIs w te tr R G size l) (k : Kept p w W) (hR : p R) (hG : p G) : RingIs W te tr R G size l := by
  refine ⟨h.s0, h.s1, h.len, h.ne, k.at h.ring hR, ?_⟩
  obtain ⟨cs, hc, r⟩ := h.evs
  exact ⟨cs, k.at hc hG, r⟩
end Go.Ab
namespace Go.Proofs.YtdebpdjkkblcfaaGreatDoor
open Go.RowKit Go.Ab
attribute [local go_sem] Oper.semAt_some
set_option maxHeartbeats 8000000 in
set_option maxRecDepth 100000 in
theorem kept_seq (bk R G size : Nat) (l0 : List Ev) :
    SeqUpK Tryz.prog 60 #[.pointer (some ⟨bk, 0, none⟩)] encEv (fun xs => xs = keptL l0 size) (fun pre => pre <+: keptL l0 size) noOwn (keptOwn bk R G)
      (fun W => W.cell? ⟨bk, 0, none⟩ = some (.pointer (some ⟨R, 0, none⟩)) ∧ Ring W R G size l0) := by
  intro l J Jx W hK hJ hJx hY h0
  obtain ⟨hc1, hr1⟩ := hK
  have ll := hr1.len
  have htot : ∀ w0 w', Ring w0 R G size l0 → UpI w0 w' → Gives Tryz.prog 14 #[.pointer (some ⟨R, 0, none⟩)] w' (.int .i64 (l0.length : Int)) := fun w0 w' h hu => ring_total w' R G size l0 (h.up hu.up)
  have hlen : ∀ w0 w', Ring w0 R G size l0 → UpI w0 w' → Gives Tryz.prog 15 #[.pointer (some ⟨R, 0, none⟩)] w' (.int .i64 ((min l0.length size : Nat) : Int)) := fun w0 w' h hu => ring_len w' R G size l0 (h.up hu.up)
  haveI : LtSize bk W := ⟨cell_lt' hc1⟩
  obtain ⟨t, ht⟩ : ∃ t, l0.length = t := ⟨_, rfl⟩
  obtain ⟨m, hm⟩ : ∃ m, min l0.length size = m := ⟨_, rfl⟩
  have hmt : m ≤ t := by omega
  have hms : t ≤ t - m + size := by omega
  rw [ht] at htot ll
  rw [hm] at hlen
  have KL := Lib.hid (show keptL l0 size = numbered (t - m) (l0.drop (t - m)) by unfold keptL; rw [hm, ht])
  have HT := Lib.hid ht
  clear ht hm
  have tm : ((t : Int) - (m : Int)) = ((t - m : Nat) : Int) := by omega
  have tm0 : (0 : Int) ≤ ((t - m : Nat) : Int) := by omega
  go_enter Tryz.func60, Tryz.ntmps60
  go_wp2_with fail
  (refine wp_region_ext (by kernel_rfl) (by kernel_rfl) ?_; (repeat (go_big_quiet_step ((first
    | (go_at_call 14; exact (htot W _ hr1 inferInstance).ext)
    | (go_at_call 15; exact (hlen W _ hr1 inferInstance).ext))))); refine wpQuiet_nil ?_; rintro _ ⟨y, rfl⟩)
  go_wp2_with fail
  have cy : y.w.cell? ⟨bk, 0, none⟩ = some (.pointer (some ⟨R, 0, none⟩)) := y.up.cell_some' hc1
  have ry := hr1.up y.up
  have jy := hJ _ _ _ h0 (Turn.of_up y.up)
  have tm2 : t - m ≤ t := by omega
  generalize ha : t - m = a at *
  go_loopw [3] (fun i wr => ∃ (n : Nat) (pre : List (Nat × Ev)), a ≤ n ∧ n ≤ t ∧ i = .int .i64 (n : Int) ∧ Hid (pre ++ numbered n (l0.drop n) = keptL l0 size) ∧ J pre wr ∧ wr.cell? ⟨bk, 0, none⟩ = some (.pointer (some ⟨R, 0, none⟩)) ∧ Ring wr R G size l0) (fun i _ => t - (intOf i).toNat)
  case atStart => exact ⟨a, [], by omega, tm2, rfl, Lib.hid (by rw [KL.out]; rfl), jy, cy, ry⟩
  case round =>
    clear cy ry jy y
    obtain ⟨n, pre, n0, n1, rfl, Hk, hj, c1, r1⟩ := hrel
    haveI : LtSize bk wr := ⟨cell_lt' c1⟩
    haveI : LtSize R wr := ⟨r1.ltR⟩
    haveI : LtSize G wr := ⟨r1.ltG⟩
    by_cases hlt : n < t
    · have hlt' : (n : Int) < (t : Int) := by omega
      obtain ⟨e, he⟩ : ∃ e, l0[n]? = some e := ⟨_, List.getElem?_eq_getElem (by rw [HT.out]; exact hlt)⟩
      have hev := r1.ev n e he (by rw [HT.out]; omega)
      have b0 := hev 0 _ rfl; have b1 := hev 1 _ rfl; have b2 := hev 2 _ rfl; have b3 := hev 3 _ rfl; have b4 := hev 4 _ rfl; have b5 := hev 5 _ rfl; have b6 := hev 6 _ rfl; have b7 := hev 7 _ rfl
      clear hev
      have hat : ∀ w', UpI wr w' → Gives Tryz.prog 35 #[.pointer (some ⟨R, 0, none⟩), .int .i64 (n : Int)] w' (.pointer (some ⟨G, n % size * 8, none⟩)) := fun w' hu => ring_at w' R G size l0 n (r1.up hu.up) (by omega)
      generalize n % size * 8 = g at *
      rw [Nat.add_zero] at b0
      have Hst := Lib.hid (numbered_step l0 n e he)
      have Hpre : Hid ((pre ++ [(n, e)]) <+: keptL l0 size) := by unfold Hid; rw [← Hk.out, Hst.out]; exact ⟨_, by rw [List.append_assoc]; rfl⟩
      clear he
      go_upto_region 3 with (first
        | (go_at_call 14; refine (htot wr _ r1 inferInstance).mono ?_; rintro e w' ⟨rfl, x, rfl⟩))
      refine (wpIn_wide (n := 0)).1 ?_
      gi_wp2_with fail
      refine ⟨trivial, rfl, (callsIn_wide.2 (hat _ inferInstance)).mono ?_⟩
      rintro e' w' ⟨rfl, x2, rfl⟩
      have cz : x2.w.cell? ⟨bk, 0, none⟩ = some (.pointer (some ⟨R, 0, none⟩)) := (x.up.ext x2).cell_some' c1
      have rz := r1.up (x.up.ext x2)
      obtain ⟨fn, tmps, assign, body, hy, hR⟩ := hY pre (n, e) x2.w (hJ _ _ _ hj (Turn.of_up (x.up.ext x2))) Hpre.out
      change (Instr.yield l #[.int .i64 (n : Int), .agg #[.int .i64 e.n, .int .u8 e.sd, .int .u8 e.r, .int .u8 e.pr, .int .u32 e.s, .int .u32 e.d, .int .u16 e.sp, .int .u16 e.dp]]).run Tryz.prog x2.w = _ at hy
      have Hy := Lib.hid hy
      have HR := Lib.hid hR
      clear hR hY hat
      gi_wp2_with fail
      refine ⟨rfl, HR.out.mono ?_⟩
      rintro e' W' (⟨rfl, hJ', hk⟩ | ⟨rfl, hJx'⟩)
      · have cw := hk.cell cz (.inl rfl)
        have rw' := rz.kept hk (.inr (.inl rfl)) (.inr (.inr rfl))
        gi_wp2_with fail
        go_wp2_with fail
        exact ⟨⟨n + 1, pre ++ [(n, e)], by omega, by omega, by rw [Int.natCast_add]; rfl, by unfold Hid; rw [← Hk.out, Hst.out]; simp, hJ', cw, rw'⟩, by simp [intOf]; omega⟩
      · gi_wp2_with fail
        go_wp2_with fail
        (try simp only [Exit.inBlock, Exit.then])
        refine bodyPost_ret (results_none rfl _ _ _) rfl ?_
        exact ⟨⟨_, rfl⟩, .inr ⟨_, hJx'⟩⟩
    · have hb : decide ((n : Int) < (t : Int)) = false := by simp; omega
      have Hend := Lib.hid (numbered_end l0 n (by rw [HT.out]; omega))
      go_wp2_with (first
        | (go_at_call 14; refine (htot wr _ r1 inferInstance).mono ?_; rintro e w' ⟨rfl, x, rfl⟩))
      go_end0
      exact ⟨⟨_, rfl⟩, .inl ⟨pre, by rw [← Hk.out, Hend.out]; simp, hJ _ _ _ hj (Turn.of_up x.up)⟩⟩
theorem kept_any (R : Nat) (w : World) :
    Calls Tryz.prog 37 #[.pointer (some ⟨R, 0, none⟩)] w fun e w' =>
      e = .returned (.func (.func 60) #[] #[.pointer (some ⟨w.heap.size, 0, none⟩)]) ∧ w.alloc (.cells #[.pointer (some ⟨R, 0, none⟩)] 40) = w' := by
  go_enter Tryz.func37, Tryz.ntmps37
  go_wp2
  go_ret
  exact ⟨rfl, rfl⟩
end Go.Proofs.YtdebpdjkkblcfaaGreatDoor
namespace Go.Ab
open Go.RowKit
def evCells (l : List Ev) : List Value := l.flatMap Ev.cells
theorem evCells_snoc (l : List Ev) (e : Ev) : evCells (l ++ [e]) = evCells l ++ e.cells := by simp [evCells]
/-- The events from a number on. -/
def sinceL (number : Int) (l : List (Nat × Ev)) : List Ev := (l.filter fun p => decide (number ≤ (p.1 : Int))).map Prod.snd
theorem sinceL_snoc (number : Int) (l : List (Nat × Ev)) (p : Nat × Ev) : sinceL number (l ++ [p]) = sinceL number l ++ (if number ≤ (p.1 : Int) then [p.2] else []) := by
  unfold sinceL
  rw [List.filter_append, List.map_append]
  by_cases h : number ≤ (p.1 : Int) <;> simp [h]
theorem sinceL_length (number : Int) (l : List (Nat × Ev)) : (sinceL number l).length ≤ l.length := by
  unfold sinceL; rw [List.length_map]; exact List.length_filter_le _ _
theorem numbered_snd (l : List Ev) : ∀ n, (numbered n l).map Prod.snd = l := by
  induction l with
  | nil => intro n; rfl
  | cons e t ih => intro n; simp [numbered, ih]
theorem sinceL_zero (l : List (Nat × Ev)) : sinceL 0 l = l.map Prod.snd := by
  unfold sinceL
  rw [List.filter_eq_self.2 (fun p _ => by simp)]
/-- The events that a ring keeps. -/
def lastL (l : List Ev) (size : Nat) : List Ev := l.drop (l.length - min l.length size)
theorem since_zero (l : List Ev) (size : Nat) : sinceL 0 (keptL l size) = lastL l size := by
  rw [sinceL_zero]; exact numbered_snd _ _
end Go.Ab
namespace Go.Proofs.YtdebpdjkkblcfaaGreatDoor
open Go.RowKit Go.Ab
attribute [local go_sem] Oper.semAt_some
set_option maxHeartbeats 8000000 in
set_option maxRecDepth 100000 in
theorem ring_since (w : World) (R G size : Nat) (l : List Ev) (h : Ring w R G size l) (number : Int) :
    Calls Tryz.prog 18 #[.pointer (some ⟨R, 0, none⟩), .int .i64 number] w fun e w' =>
      ∃ v, e = .returned v ∧ w'.ownsRow w.heap.size 27 8 v (sinceL number (keptL l size)).length (evCells (sinceL number (keptL l size))) ∧ ∃ x : Ext w, w' = x.w := by
  refine (callsIn_wide (n := 0)).1 (callsIn_of_wp_marks Tryz.func18 rfl trivial ?_ rfl)
  refine (wpIn_wide (n := 0)).2 ?_
  simp only [Tryz.ntmps18, List.size_toArray, List.length_cons, List.length_nil, Nat.reduceAdd, Nat.reduceSub, Array.replicate_succ, Array.replicate_zero, List.push_toArray, List.append_toArray, List.nil_append, List.cons_append]
  go_wp2_with (go_at_call 37; refine (kept_any R _).mono ?_; rintro e w' ⟨rfl, rfl⟩)
  obtain ⟨s, hs⟩ : ∃ s, s = w.heap.size := ⟨_, rfl⟩
  obtain ⟨W0, hW0⟩ : ∃ W0, W0 = ((w.alloc (.cells #[.int .i64 number] 3)).alloc (.cells #[.slice none 0 0] 30)).alloc (.cells #[.pointer (some ⟨R, 0, none⟩)] 40) := ⟨_, rfl⟩
  have hz0 : W0.heap.size = s + 3 := by rw [hW0, hs]; simp
  have hu0 : Up w W0 := by rw [hW0]; exact (by repeat (with_reducible first | exact Up.refl _ | refine Up.ext ?_ _ | refine Up.drew ?_ | refine Up.alloc ?_ _ | refine Up.setCell ?_ (by simp) _))
  have c2 : W0.cell? ⟨s + 2, 0, none⟩ = some (.pointer (some ⟨R, 0, none⟩)) := by rw [hW0, hs]; simp [go_sem]
  have o0 : W0.heap[s]? = some (.cells #[.int .i64 number] 3 (0, 0)) := by
    rw [hW0, hs, Below.heap_alloc _ _ _ (by simp; omega), Below.heap_alloc _ _ _ (by simp), World.alloc_heap_new]
  have o1 : W0.heap[s + 1]? = some (.cells #[.slice none 0 0] 30 (0, 0)) := by
    rw [hW0, hs, Below.heap_alloc _ _ _ (by simp)]
    have := World.alloc_heap_new (w.alloc (.cells #[.int .i64 number] 3)) (.cells #[.slice none 0 0] 30)
    rwa [World.size_alloc] at this
  rw [← hW0, ← hs]
  clear hW0
  have hRs : R < s := by rw [hs]; exact h.ltR
  have hGs : G < s := by rw [hs]; exact h.ltG
  have hl := h.len
  have hbk : ∀ k, book noOwn W0.heap.size k → s + 3 ≤ k ∧ k < s + 5 := by
    intro k hk
    rw [hz0] at hk
    rcases hk with hk | rfl | rfl
    · exact hk.elim
    · omega
    · omega
  have hkp : ∀ k, book (keptOwn (s + 2) R G) W0.heap.size k → k < s ∨ s + 2 ≤ k ∧ k < s + 5 := by
    intro k hk
    rw [hz0] at hk
    rcases hk with (rfl | rfl | rfl) | rfl | rfl <;> omega
  have hsw : w.heap.size ≤ s := by omega
  have hsw2 : s ≤ w.heap.size := by omega
  have Hs := Lib.hid hs
  clear hs
  obtain ⟨i0, hi, hy0, hy1, hy2⟩ := info_parts infoEvent
  refine wp_rangeFunc_upK (α := Nat × Ev) (gf := 60) (lb := #[.pointer (some ⟨s + 2, 0, none⟩)]) rfl (enters Tryz.func60 (by kernel_rfl) rfl)
    (kept_seq (s + 2) R G size l) (fun _ => rfl) ?hK0 ?hown ?hkp'
    (fun pre W => (Up w W ∧ s + 5 ≤ W.heap.size) ∧ W.heap[s]? = some (.cells #[.int .i64 number] 3 (0, 0)) ∧ ∃ v, W.heap[s + 1]? = some (.cells #[v] 30 (0, 0)) ∧ W.ownsRow (s + 5) 27 8 v (sinceL number pre).length (evCells (sinceL number pre)))
    (fun _ _ _ => False)
    (fun pre x a1 W => (Up w W ∧ s + 5 ≤ W.heap.size) ∧ (W.heap[s]? = some (.cells #[.int .i64 number] 3 (0, 0)) ∧ ∃ v, W.heap[s + 1]? = some (.cells #[v] 30 (0, 0)) ∧ W.ownsRow (s + 5) 27 8 v (sinceL number pre).length (evCells (sinceL number pre))) ∧
      ∃ bp, s + 5 ≤ bp ∧ W.heap[bp]? = some (.cells x.2.cells.toArray 27 (0, 0)) ∧
      a1 = { tmps := #[.pointer (some ⟨R, 0, none⟩), .int .i64 number, undef, .pointer (some ⟨s, 0, none⟩), .slice none 0 0, .pointer (some ⟨s + 1, 0, none⟩), .int .i64 (x.1 : Int), .pointer (some ⟨bp, 0, none⟩), .pointer (some ⟨R, 0, none⟩),
        .func (.func 60) #[] #[.pointer (some ⟨s + 1 + 1, 0, none⟩)], .int .i64 (x.1 : Int), x.2.val, undef, undef, undef, undef, undef, undef, undef, undef], defers := [] })
    ?hI ?hIx ?hA ?h0 ?assign ?body ?done ?stop
  case hK0 =>
    intro W1 hu hsz
    exact ⟨hu.cell_some' c2, h.up (hu0.trans hu)⟩
  case hown => intro k hk; exact hk.elim
  case hkp' =>
    intro k hk
    rw [hz0]
    rcases hk with rfl | rfl | rfl <;> omega
  case hI =>
    rintro pre X Y ⟨⟨hu, hz⟩, hn, v, hv, hown⟩ ht
    exact ⟨⟨ht.up hu (fun k hk => by have := hbk k hk; omega), Nat.le_trans hz ht.size⟩, ht.same hn (fun hk => by have := hbk _ hk; omega), v, ht.same hv (fun hk => by have := hbk _ hk; omega), owns_turn ht hown (fun k hk => (hbk k hk).2)⟩
  case hIx => intro c pre X Y h _; exact h
  case hA =>
    rintro pre x a1 X Y ⟨⟨hu, hz⟩, ⟨hn, v, hv, hown⟩, bp, hb5, hb, rfl⟩ ht
    exact ⟨⟨ht.up hu (fun k hk => by have := hbk k hk; omega), Nat.le_trans hz ht.size⟩, ⟨ht.same hn (fun hk => by have := hbk _ hk; omega), v, ht.same hv (fun hk => by have := hbk _ hk; omega), owns_turn ht hown (fun k hk => (hbk k hk).2)⟩,
      bp, hb5, ht.same hb (fun hk => by have := hbk _ hk; omega), rfl⟩
  case h0 =>
    intro W1 hu hsz
    exact ⟨⟨hu0.trans hu, by omega⟩, (hu.block s (by omega)).trans o0, _, (hu.block (s + 1) (by omega)).trans o1, World.ownsRow_nil _ _ _ _⟩
  case assign =>
    rintro l' pre ⟨n, e⟩ W ⟨⟨hu, hz⟩, hn, v, hv, hown⟩ _
    have Hv := Lib.hid hv
    have Hn := Lib.hid hn
    have Hown := Lib.hid hown
    have Hbk := Lib.hid hbk
    have Hkp := Lib.hid hkp
    clear hv hown hbk hkp hi hy0 hy1 hy2 c2 o0 o1 hu0 hn h
    rw [show encEv (n, e) = #[.int .i64 (n : Int), e.val] from rfl, foldl_two]
    unfold Ev.val
    show Code.wpIn (Fence.wide.inRound l') 0 Tryz.prog _ _ { tmps := #[.pointer (some ⟨R, 0, none⟩), .int .i64 number, undef, .pointer (some ⟨s, 0, none⟩), .slice none 0 0, .pointer (some ⟨s + 1, 0, none⟩), undef, undef, .pointer (some ⟨R, 0, none⟩),
        .func (.func 60) #[] #[.pointer (some ⟨s + 1 + 1, 0, none⟩)], .int .i64 (n : Int), .agg #[.int .i64 e.n, .int .u8 e.sd, .int .u8 e.r, .int .u8 e.pr, .int .u32 e.s, .int .u32 e.d, .int .u16 e.sp, .int .u16 e.dp], undef, undef, undef, undef, undef, undef, undef, undef], defers := [] } W
    gi_wp2
    exact ⟨(Kept.refl _ _).alloc _, ⟨hu.alloc _, by simp; omega⟩, ⟨(Below.heap_alloc _ _ _ (by omega)).trans Hn.out, v, (Below.heap_alloc _ _ _ (by omega)).trans Hv.out, owns_up Hown.out ((Up.refl W).alloc _)⟩, W.heap.size, hz, World.alloc_heap_new _ _, rfl⟩
  case body =>
    rintro l' pre ⟨n, e⟩ a1 W ⟨⟨hu, hz⟩, ⟨hn, v, hv, hown⟩, bp, hb5, hb, rfl⟩ hp
    have hlen : (sinceL number pre).length + 1 ≤ 4294967296 := by
      have h1 := hp.length_le
      have h2 := keptL_length l size
      have h3 := sinceL_length number pre
      simp at h1; omega
    have hcn := cell_of_one hn
    have hcv := cell_of_one hv
    have hfv := free_of_one hv
    have hp0 : W.cell? ⟨bp, 0, none⟩ = some (.int .i64 e.n) := by simp [World.cell?, hb, Ev.cells]
    have hp1 : W.cell? ⟨bp, 1, none⟩ = some (.int .u8 e.sd) := by simp [World.cell?, hb, Ev.cells]
    have hp2 : W.cell? ⟨bp, 2, none⟩ = some (.int .u8 e.r) := by simp [World.cell?, hb, Ev.cells]
    have hp3 : W.cell? ⟨bp, 3, none⟩ = some (.int .u8 e.pr) := by simp [World.cell?, hb, Ev.cells]
    have hp4 : W.cell? ⟨bp, 4, none⟩ = some (.int .u32 e.s) := by simp [World.cell?, hb, Ev.cells]
    have hp5 : W.cell? ⟨bp, 5, none⟩ = some (.int .u32 e.d) := by simp [World.cell?, hb, Ev.cells]
    have hp6 : W.cell? ⟨bp, 6, none⟩ = some (.int .u16 e.sp) := by simp [World.cell?, hb, Ev.cells]
    have hp7 : W.cell? ⟨bp, 7, none⟩ = some (.int .u16 e.dp) := by simp [World.cell?, hb, Ev.cells]
    have Hv := Lib.hid hv
    have Hn := Lib.hid hn
    have Hown := Lib.hid hown
    have Hbk := Lib.hid hbk
    have Hkp := Lib.hid hkp
    have Hi := Lib.hid hi; have Hy0 := Lib.hid hy0; have Hy1 := Lib.hid hy1; have Hy2 := Lib.hid hy2
    clear hv hown hbk hkp hi hy0 hy1 hy2 c2 o0 o1 hu0 hp hb hn h
    unfold Ev.val
    by_cases hge : number ≤ (n : Int)
    · gi_wp2_with (gi_at_builtin; refine wpListIn_append_own _ rfl _ _ 30 rfl (s + 5) 27 i0 Ev.zero.val 8 32 Tryz.underlying30 Hi.out Hy0.out Hy1.out Hy2.out rfl (by decide) _ _ _ rfl (owns_up Hown.out ((Up.refl W).alloc _)) ⟨W.heap.size, 0, none⟩ 1 1 e.cells rfl rfl ?c1 ?c2 ?c3 ?c4 ?c5 ?_)
      case c1 =>
        intro j u hj
        have hj8 : j < 8 := (List.getElem?_eq_some_iff.1 hj).1
        rcases (by omega : j = 0 ∨ j = 1 ∨ j = 2 ∨ j = 3 ∨ j = 4 ∨ j = 5 ∨ j = 6 ∨ j = 7) with rfl | rfl | rfl | rfl | rfl | rfl | rfl | rfl
        all_goals (simp [Ev.cells] at hj; subst hj; simp [Addr.add, go_sem])
      case c2 =>
        intro u hu
        simp [Ev.cells] at hu
        rcases hu with rfl | rfl | rfl | rfl | rfl | rfl | rfl | rfl <;> rfl
      case c3 => unfold maxLen; omega
      case c4 => omega
      case c5 => simp; omega
      intro v' w1 hown' hgrow _
      have hk1 : Hid (Kept (book (keptOwn (s + 2) R G) W0.heap.size) W w1) := ((Kept.refl _ _).alloc _).grown hgrow (fun r hr hb' => by have := owns_row Hown.out r hr; have := Hkp.out r hb'; omega)
      have hu1 : Up w w1 := (hu.alloc _).grown hgrow (fun r hr => by have := owns_row Hown.out r hr; omega)
      have hz1 : s + 5 ≤ w1.heap.size := by have := hgrow.size; simp at this; omega
      have hv1 : w1.heap[s + 1]? = some (.cells #[v] 30 (0, 0)) := by
        rw [hgrow.block (s + 1) (by simp; omega) (fun e => by have := owns_row Hown.out (s + 1) e.symm; omega), Below.heap_alloc _ _ _ (by omega)]; exact Hv.out
      have hn1 : w1.heap[s]? = some (.cells #[.int .i64 number] 3 (0, 0)) := by
        rw [hgrow.block s (by simp; omega) (fun e => by have := owns_row Hown.out s e.symm; omega), Below.heap_alloc _ _ _ (by omega)]; exact Hn.out
      obtain ⟨g, cap, rfl, hg5⟩ := owns_slice hown'
      have hcv1 := cell_of_one hv1
      have hfv1 := free_of_one hv1
      have Hv1 := Lib.hid hv1
      have Hn1 := Lib.hid hn1
      have Hown' := Lib.hid hown'
      clear hv1 hn1 hown' hgrow hcv hfv hcn hp0 hp1 hp2 hp3 hp4 hp5 hp6 hp7 hu
      gi_wp2_with fail
      refine ⟨hk1.out.setCell (by intro h; have := Hkp.out _ h; simp at this; omega) _, ⟨hu1.setCell (by simp; omega) _, by simp; omega⟩, (Below.heap_setCell _ _ _ _ (by simp)).trans Hn1.out, _, one_setCell Hv1.out, ?_⟩
      rw [sinceL_snoc, if_pos hge, List.length_append, evCells_snoc]
      exact owns_setBlock Hown'.out (by simp) _
    · gi_wp2_with fail
      refine ⟨Kept.refl _ _, ⟨hu, hz⟩, Hn.out, v, Hv.out, ?_⟩
      rw [sinceL_snoc, if_neg (by omega), List.append_nil]
      exact Hown.out
  case done =>
    rintro xs W rfl ⟨⟨hu, hz⟩, hn, v, hv, hown⟩ hD
    have hcv := cell_of_one hv
    have Hown := Lib.hid hown
    have HD := Lib.hid hD
    have Hbk := Lib.hid hbk
    have Hv := Lib.hid hv
    clear hown hD hbk hv c2 o0 o1 hu0 hi hy0 hy1 hy2 hn
    go_wp2_with fail
    refine ⟨by simp, .inl ⟨_, _, rfl, run_takeDeferred HD.out, ?_⟩⟩
    have ht : Turn (fun k => k = W0.heap.size) W (W.putObj W0.heap.size (.deferred none)) := turn_putObj _ _ _ rfl
    exact ⟨_, results_tmp rfl _ _ _, v, rfl, owns_base (owns_turn ht Hown.out (fun k hk => by omega)) (by omega), (ht.up hu (fun k hk => by omega)).mk⟩
  case stop => intro c pre W h _; exact h.elim
set_option maxHeartbeats 4000000 in
theorem ring_list (w : World) (R G size : Nat) (l : List Ev) (h : Ring w R G size l) :
    Calls Tryz.prog 17 #[.pointer (some ⟨R, 0, none⟩)] w fun e w' =>
      ∃ v, e = .returned v ∧ w'.ownsRow w.heap.size 27 8 v (lastL l size).length (evCells (lastL l size)) ∧ ∃ x : Ext w, w' = x.w := by
  have hs := ring_since w R G size l h 0
  rw [since_zero] at hs
  go_enter Tryz.func17, Tryz.ntmps17
  go_wp2_with (go_at_call 18; refine hs.mono ?_; rintro e w' ⟨v, rfl, hown, x, rfl⟩)
  go_ret
  exact ⟨v, rfl, hown, mkI⟩
end Go.Proofs.YtdebpdjkkblcfaaGreatDoor
namespace Go.Ab
open Go.RowKit
def intCells (l : List Nat) : List Value := l.map fun n : Nat => .int .i64 (n : Int)
theorem intCells_snoc (l : List Nat) (n : Nat) : intCells (l ++ [n]) = intCells l ++ [.int .i64 (n : Int)] := by simp [intCells]
/-- The numbers of the events of a reason. -/
def whereL (reason : Int) (l : List (Nat × Ev)) : List Nat := (l.filter fun p => decide (p.2.r = reason)).map Prod.fst
theorem whereL_snoc (reason : Int) (l : List (Nat × Ev)) (p : Nat × Ev) : whereL reason (l ++ [p]) = whereL reason l ++ (if p.2.r = reason then [p.1] else []) := by
  unfold whereL
  rw [List.filter_append, List.map_append]
  by_cases h : p.2.r = reason <;> simp [h]
theorem whereL_length (reason : Int) (l : List (Nat × Ev)) : (whereL reason l).length ≤ l.length := by
  unfold whereL; rw [List.length_map]; exact List.length_filter_le _ _
end Go.Ab
namespace Go.Proofs.YtdebpdjkkblcfaaGreatDoor
open Go.RowKit Go.Ab
theorem infoInt : (Tryz.prog.info? 3).map (fun i => (i.zero, i.size, i.bytes)) = some (some (.int .i64 0), 1, 8) := by kernel_rfl
attribute [local go_sem] Oper.semAt_some
set_option maxHeartbeats 8000000 in
set_option maxRecDepth 100000 in
theorem ring_where (w : World) (R G size : Nat) (l : List Ev) (h : Ring w R G size l) (reason : Int) :
    Calls Tryz.prog 19 #[.pointer (some ⟨R, 0, none⟩), .int .u8 reason] w fun e w' =>
      ∃ v, e = .returned v ∧ w'.ownsRow w.heap.size 3 1 v (whereL reason (keptL l size)).length (intCells (whereL reason (keptL l size))) ∧ ∃ x : Ext w, w' = x.w := by
  refine (callsIn_wide (n := 0)).1 (callsIn_of_wp_marks Tryz.func19 rfl trivial ?_ rfl)
  refine (wpIn_wide (n := 0)).2 ?_
  simp only [Tryz.ntmps19, List.size_toArray, List.length_cons, List.length_nil, Nat.reduceAdd, Nat.reduceSub, Array.replicate_succ, Array.replicate_zero, List.push_toArray, List.append_toArray, List.nil_append, List.cons_append]
  go_wp2_with (go_at_call 37; refine (kept_any R _).mono ?_; rintro e w' ⟨rfl, rfl⟩)
  obtain ⟨s, hs⟩ : ∃ s, s = w.heap.size := ⟨_, rfl⟩
  obtain ⟨W0, hW0⟩ : ∃ W0, W0 = ((w.alloc (.cells #[.int .u8 reason] 5)).alloc (.cells #[.slice none 0 0] 34)).alloc (.cells #[.pointer (some ⟨R, 0, none⟩)] 40) := ⟨_, rfl⟩
  have hz0 : W0.heap.size = s + 3 := by rw [hW0, hs]; simp
  have hu0 : Up w W0 := by rw [hW0]; exact (by repeat (with_reducible first | exact Up.refl _ | refine Up.ext ?_ _ | refine Up.drew ?_ | refine Up.alloc ?_ _ | refine Up.setCell ?_ (by simp) _))
  have c2 : W0.cell? ⟨s + 2, 0, none⟩ = some (.pointer (some ⟨R, 0, none⟩)) := by rw [hW0, hs]; simp [go_sem]
  have o0 : W0.heap[s]? = some (.cells #[.int .u8 reason] 5 (0, 0)) := by
    rw [hW0, hs, Below.heap_alloc _ _ _ (by simp; omega), Below.heap_alloc _ _ _ (by simp), World.alloc_heap_new]
  have o1 : W0.heap[s + 1]? = some (.cells #[.slice none 0 0] 34 (0, 0)) := by
    rw [hW0, hs, Below.heap_alloc _ _ _ (by simp)]
    have := World.alloc_heap_new (w.alloc (.cells #[.int .u8 reason] 5)) (.cells #[.slice none 0 0] 34)
    rwa [World.size_alloc] at this
  rw [← hW0, ← hs]
  clear hW0
  have hRs : R < s := by rw [hs]; exact h.ltR
  have hGs : G < s := by rw [hs]; exact h.ltG
  have hl := h.len
  have hbk : ∀ k, book noOwn W0.heap.size k → s + 3 ≤ k ∧ k < s + 5 := by
    intro k hk
    rw [hz0] at hk
    rcases hk with hk | rfl | rfl
    · exact hk.elim
    · omega
    · omega
  have hkp : ∀ k, book (keptOwn (s + 2) R G) W0.heap.size k → k < s ∨ s + 2 ≤ k ∧ k < s + 5 := by
    intro k hk
    rw [hz0] at hk
    rcases hk with (rfl | rfl | rfl) | rfl | rfl <;> omega
  have hsw : w.heap.size ≤ s := by omega
  have hsw2 : s ≤ w.heap.size := by omega
  have Hs := Lib.hid hs
  clear hs
  obtain ⟨i0, hi, hy0, hy1, hy2⟩ := info_parts infoInt
  refine wp_rangeFunc_upK (α := Nat × Ev) (gf := 60) (lb := #[.pointer (some ⟨s + 2, 0, none⟩)]) rfl (enters Tryz.func60 (by kernel_rfl) rfl)
    (kept_seq (s + 2) R G size l) (fun _ => rfl) ?hK0 ?hown ?hkp'
    (fun pre W => (Up w W ∧ s + 5 ≤ W.heap.size) ∧ W.heap[s]? = some (.cells #[.int .u8 reason] 5 (0, 0)) ∧ ∃ v, W.heap[s + 1]? = some (.cells #[v] 34 (0, 0)) ∧ W.ownsRow (s + 5) 3 1 v (whereL reason pre).length (intCells (whereL reason pre)))
    (fun _ _ _ => False)
    (fun pre x a1 W => (Up w W ∧ s + 5 ≤ W.heap.size) ∧ (W.heap[s]? = some (.cells #[.int .u8 reason] 5 (0, 0)) ∧ ∃ v, W.heap[s + 1]? = some (.cells #[v] 34 (0, 0)) ∧ W.ownsRow (s + 5) 3 1 v (whereL reason pre).length (intCells (whereL reason pre))) ∧
      ∃ bp, s + 5 ≤ bp ∧ W.heap[bp]? = some (.cells x.2.cells.toArray 27 (0, 0)) ∧
      a1 = { tmps := #[.pointer (some ⟨R, 0, none⟩), .int .u8 reason, undef, .pointer (some ⟨s, 0, none⟩), .slice none 0 0, .pointer (some ⟨s + 1, 0, none⟩), .int .i64 (x.1 : Int), .pointer (some ⟨bp, 0, none⟩), .pointer (some ⟨R, 0, none⟩),
        .func (.func 60) #[] #[.pointer (some ⟨s + 1 + 1, 0, none⟩)], .int .i64 (x.1 : Int), x.2.val, undef, undef, undef, undef, undef, undef, undef, undef, undef], defers := [] })
    ?hI ?hIx ?hA ?h0 ?assign ?body ?done ?stop
  case hK0 =>
    intro W1 hu hsz
    exact ⟨hu.cell_some' c2, h.up (hu0.trans hu)⟩
  case hown => intro k hk; exact hk.elim
  case hkp' =>
    intro k hk
    rw [hz0]
    rcases hk with rfl | rfl | rfl <;> omega
  case hI =>
    rintro pre X Y ⟨⟨hu, hz⟩, hn, v, hv, hown⟩ ht
    exact ⟨⟨ht.up hu (fun k hk => by have := hbk k hk; omega), Nat.le_trans hz ht.size⟩, ht.same hn (fun hk => by have := hbk _ hk; omega), v, ht.same hv (fun hk => by have := hbk _ hk; omega), owns_turn ht hown (fun k hk => (hbk k hk).2)⟩
  case hIx => intro c pre X Y h _; exact h
  case hA =>
    rintro pre x a1 X Y ⟨⟨hu, hz⟩, ⟨hn, v, hv, hown⟩, bp, hb5, hb, rfl⟩ ht
    exact ⟨⟨ht.up hu (fun k hk => by have := hbk k hk; omega), Nat.le_trans hz ht.size⟩, ⟨ht.same hn (fun hk => by have := hbk _ hk; omega), v, ht.same hv (fun hk => by have := hbk _ hk; omega), owns_turn ht hown (fun k hk => (hbk k hk).2)⟩,
      bp, hb5, ht.same hb (fun hk => by have := hbk _ hk; omega), rfl⟩
  case h0 =>
    intro W1 hu hsz
    exact ⟨⟨hu0.trans hu, by omega⟩, (hu.block s (by omega)).trans o0, _, (hu.block (s + 1) (by omega)).trans o1, World.ownsRow_nil _ _ _ _⟩
  case assign =>
    rintro l' pre ⟨n, e⟩ W ⟨⟨hu, hz⟩, hn, v, hv, hown⟩ _
    have Hv := Lib.hid hv
    have Hn := Lib.hid hn
    have Hown := Lib.hid hown
    have Hbk := Lib.hid hbk
    have Hkp := Lib.hid hkp
    clear hv hown hbk hkp hi hy0 hy1 hy2 c2 o0 o1 hu0 hn h
    rw [show encEv (n, e) = #[.int .i64 (n : Int), e.val] from rfl, foldl_two]
    unfold Ev.val
    show Code.wpIn (Fence.wide.inRound l') 0 Tryz.prog _ _ { tmps := #[.pointer (some ⟨R, 0, none⟩), .int .u8 reason, undef, .pointer (some ⟨s, 0, none⟩), .slice none 0 0, .pointer (some ⟨s + 1, 0, none⟩), undef, undef, .pointer (some ⟨R, 0, none⟩),
        .func (.func 60) #[] #[.pointer (some ⟨s + 1 + 1, 0, none⟩)], .int .i64 (n : Int), .agg #[.int .i64 e.n, .int .u8 e.sd, .int .u8 e.r, .int .u8 e.pr, .int .u32 e.s, .int .u32 e.d, .int .u16 e.sp, .int .u16 e.dp], undef, undef, undef, undef, undef, undef, undef, undef, undef], defers := [] } W
    gi_wp2
    exact ⟨(Kept.refl _ _).alloc _, ⟨hu.alloc _, by simp; omega⟩, ⟨(Below.heap_alloc _ _ _ (by omega)).trans Hn.out, v, (Below.heap_alloc _ _ _ (by omega)).trans Hv.out, owns_up Hown.out ((Up.refl W).alloc _)⟩, W.heap.size, hz, World.alloc_heap_new _ _, rfl⟩
  case body =>
    rintro l' pre ⟨n, e⟩ a1 W ⟨⟨hu, hz⟩, ⟨hn, v, hv, hown⟩, bp, hb5, hb, rfl⟩ hp
    have hlen : (whereL reason pre).length + 1 ≤ 4294967296 := by
      have h1 := hp.length_le
      have h2 := keptL_length l size
      have h3 := whereL_length reason pre
      simp at h1; omega
    have hcn := cell_of_one hn
    have hcv := cell_of_one hv
    have hfv := free_of_one hv
    have hp0 : W.cell? ⟨bp, 0, none⟩ = some (.int .i64 e.n) := by simp [World.cell?, hb, Ev.cells]
    have hp1 : W.cell? ⟨bp, 1, none⟩ = some (.int .u8 e.sd) := by simp [World.cell?, hb, Ev.cells]
    have hp2 : W.cell? ⟨bp, 2, none⟩ = some (.int .u8 e.r) := by simp [World.cell?, hb, Ev.cells]
    have hp3 : W.cell? ⟨bp, 3, none⟩ = some (.int .u8 e.pr) := by simp [World.cell?, hb, Ev.cells]
    have hp4 : W.cell? ⟨bp, 4, none⟩ = some (.int .u32 e.s) := by simp [World.cell?, hb, Ev.cells]
    have hp5 : W.cell? ⟨bp, 5, none⟩ = some (.int .u32 e.d) := by simp [World.cell?, hb, Ev.cells]
    have hp6 : W.cell? ⟨bp, 6, none⟩ = some (.int .u16 e.sp) := by simp [World.cell?, hb, Ev.cells]
    have hp7 : W.cell? ⟨bp, 7, none⟩ = some (.int .u16 e.dp) := by simp [World.cell?, hb, Ev.cells]
    have Hv := Lib.hid hv
    have Hn := Lib.hid hn
    have Hown := Lib.hid hown
    have Hbk := Lib.hid hbk
    have Hkp := Lib.hid hkp
    have Hi := Lib.hid hi; have Hy0 := Lib.hid hy0; have Hy1 := Lib.hid hy1; have Hy2 := Lib.hid hy2
    clear hv hown hbk hkp hi hy0 hy1 hy2 c2 o0 o1 hu0 hp hb hn h
    unfold Ev.val
    by_cases hge : e.r = reason
    · gi_wp2_with (gi_at_builtin; refine wpListIn_append_own _ rfl _ _ 34 rfl (s + 5) 3 i0 (.int .i64 0) 1 8 Tryz.underlying34 Hi.out Hy0.out Hy1.out Hy2.out rfl (by decide) _ _ _ rfl (owns_up Hown.out ((Up.refl W).alloc _)) ⟨W.heap.size, 0, none⟩ 1 1 [.int .i64 (n : Int)] rfl rfl ?c1 ?c2 ?c3 ?c4 ?c5 ?_)
      case c1 =>
        intro j u hj
        rcases j with _ | j
        · simp at hj; subst hj; simp [Addr.add, go_sem]
        · simp at hj
      case c2 =>
        intro u hu
        simp at hu
        subst hu; rfl
      case c3 => unfold maxLen; omega
      case c4 => omega
      case c5 => simp; omega
      intro v' w1 hown' hgrow _
      have hk1 : Hid (Kept (book (keptOwn (s + 2) R G) W0.heap.size) W w1) := ((Kept.refl _ _).alloc _).grown hgrow (fun r hr hb' => by have := owns_row Hown.out r hr; have := Hkp.out r hb'; omega)
      have hu1 : Up w w1 := (hu.alloc _).grown hgrow (fun r hr => by have := owns_row Hown.out r hr; omega)
      have hz1 : s + 5 ≤ w1.heap.size := by have := hgrow.size; simp at this; omega
      have hv1 : w1.heap[s + 1]? = some (.cells #[v] 34 (0, 0)) := by
        rw [hgrow.block (s + 1) (by simp; omega) (fun e => by have := owns_row Hown.out (s + 1) e.symm; omega), Below.heap_alloc _ _ _ (by omega)]; exact Hv.out
      have hn1 : w1.heap[s]? = some (.cells #[.int .u8 reason] 5 (0, 0)) := by
        rw [hgrow.block s (by simp; omega) (fun e => by have := owns_row Hown.out s e.symm; omega), Below.heap_alloc _ _ _ (by omega)]; exact Hn.out
      obtain ⟨g, cap, rfl, hg5⟩ := owns_slice hown'
      have hcv1 := cell_of_one hv1
      have hfv1 := free_of_one hv1
      have Hv1 := Lib.hid hv1
      have Hn1 := Lib.hid hn1
      have Hown' := Lib.hid hown'
      clear hv1 hn1 hown' hgrow hcv hfv hcn hp0 hp1 hp2 hp3 hp4 hp5 hp6 hp7 hu
      gi_wp2_with fail
      refine ⟨hk1.out.setCell (by intro h; have := Hkp.out _ h; simp at this; omega) _, ⟨hu1.setCell (by simp; omega) _, by simp; omega⟩, (Below.heap_setCell _ _ _ _ (by simp)).trans Hn1.out, _, one_setCell Hv1.out, ?_⟩
      rw [whereL_snoc, if_pos hge, List.length_append, intCells_snoc]
      exact owns_setBlock Hown'.out (by simp) _
    · gi_wp2_with fail
      refine ⟨Kept.refl _ _, ⟨hu, hz⟩, Hn.out, v, Hv.out, ?_⟩
      rw [whereL_snoc, if_neg hge, List.append_nil]
      exact Hown.out
  case done =>
    rintro xs W rfl ⟨⟨hu, hz⟩, hn, v, hv, hown⟩ hD
    have hcv := cell_of_one hv
    have Hown := Lib.hid hown
    have HD := Lib.hid hD
    have Hbk := Lib.hid hbk
    have Hv := Lib.hid hv
    clear hown hD hbk hv c2 o0 o1 hu0 hi hy0 hy1 hy2 hn
    go_wp2_with fail
    refine ⟨by simp, .inl ⟨_, _, rfl, run_takeDeferred HD.out, ?_⟩⟩
    have ht : Turn (fun k => k = W0.heap.size) W (W.putObj W0.heap.size (.deferred none)) := turn_putObj _ _ _ rfl
    exact ⟨_, results_tmp rfl _ _ _, v, rfl, owns_base (owns_turn ht Hown.out (fun k hk => by omega)) (by omega), (ht.up hu (fun k hk => by omega)).mk⟩
  case stop => intro c pre W h _; exact h.elim
end Go.Proofs.YtdebpdjkkblcfaaGreatDoor
