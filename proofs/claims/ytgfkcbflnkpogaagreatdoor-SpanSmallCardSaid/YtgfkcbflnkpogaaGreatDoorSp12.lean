/- Package span: what Read returns. -/
import Derived.Test.YtgfkcbflnkpogaaGreatDoorSpq
import Derived.Test.YtgfkcbflnkpogaaGreatDoorSp6
set_option linter.unusedSimpArgs false
set_option linter.unusedVariables false
namespace Go.Ab
open Go.RowKit
theorem foldR_app : ∀ (pre rest : List (List UInt8)) (o : List Sp), foldR o (pre ++ rest) = match foldR o pre with | none => none | some s => foldR s rest
  | [], _, _ => rfl
  | p :: pre, rest, o => by
    rw [List.cons_append, foldR, foldR]
    split
    · exact foldR_app pre rest _
    · rfl
theorem foldR_yes {pre : List (List UInt8)} {x : List UInt8} {o : List Sp} (h : foldR [] pre = some o) (hx : partOk (partV x) = true) (ho : o.length ≤ 4096) : foldR [] (pre ++ [x]) = some (o ++ [partV x]) := by
  rw [foldR_app, h]
  simp only
  rw [foldR, if_pos ⟨hx, ho⟩, foldR]
theorem foldR_no {pre : List (List UInt8)} {x : List UInt8} {o : List Sp} (h : foldR [] pre = some o) (hx : ¬ (partOk (partV x) = true ∧ o.length ≤ 4096)) : foldR [] (pre ++ [x]) = none := by
  rw [foldR_app, h]
  simp only
  rw [foldR, if_neg hx]
theorem foldR_len : ∀ {pre : List (List UInt8)} {o s : List Sp}, foldR o pre = some s → s.length = o.length + pre.length
  | [], o, s, h => by cases h; simp
  | p :: pre, o, s, h => by
    rw [foldR] at h
    split at h
    · rw [foldR_len h]; simp; omega
    · cases h
theorem foldR_le : ∀ {pre : List (List UInt8)} {o s : List Sp}, o.length ≤ 4097 → foldR o pre = some s → s.length ≤ 4097
  | [], o, s, h, e => by cases e; exact h
  | p :: pre, o, s, h, e => by
    rw [foldR] at e
    split at e
    · rename_i hc; exact foldR_le (by simp; omega) e
    · cases e
theorem readS_none {t : List UInt8} {pre rest : List (List UInt8)} (hne : t ≠ []) (h : foldR [] pre = none) (hp : pre ++ rest = splitC 44 t) : readS t = none := by
  unfold readS
  rw [if_neg hne, ← hp, foldR_app, h]
theorem readS_eq {t : List UInt8} {s : List Sp} (hne : t ≠ []) (h : foldR [] (splitC 44 t) = some s) : readS t = if wrongL s = 0 ∧ textS s = t then some s else none := by
  unfold readS
  rw [if_neg hne, h]
theorem partV_two {x : List UInt8} (h : (cutC 45 x).2.2 = true) : partV x = (atoiV (cutC 45 x).1, atoiV (cutC 45 x).2.1) := by unfold partV; rw [if_pos h]
theorem partV_one {x : List UInt8} (h : (cutC 45 x).2.2 = false) : partV x = (atoiV (cutC 45 x).1, atoiV (cutC 45 x).1) := by unfold partV; rw [if_neg (by rw [h]; simp)]
end Go.Ab
namespace Go.Proofs.YtgfkcbflnkpogaaGreatDoor
open Go.RowKit Go.Ab
attribute [local go_sem] Oper.semAt_some
attribute [local go_sem high] wrapI64 wrapK64
theorem results_cells2 {P : Program} {fn : Func} {tmps : Array Value} {w : World} (p q : Nat) (t u : TypeId) (hres : fn.results = #[.cell p t, .cell q u]) (b c : Nat) (hp : tmps.getD p undef = .pointer (some ⟨b, 0, none⟩)) (hq : tmps.getD q undef = .pointer (some ⟨c, 0, none⟩)) (x y : Value)
    (hx : (loadVar t ⟨b, 0, none⟩).run P w = .ok x w) (hy : (loadVar u ⟨c, 0, none⟩).run P w = .ok y w) : (results fn tmps).run P w = .ok (.tuple #[x, y]) w := by
  have hp' : (tmps[p]?).getD undef = .pointer (some ⟨b, 0, none⟩) := by rw [← Array.getD_eq_getD_getElem?]; exact hp
  have hq' : (tmps[q]?).getD undef = .pointer (some ⟨c, 0, none⟩) := by rw [← Array.getD_eq_getD_getElem?]; exact hq
  unfold results
  rw [hres]
  simp [hp', hq', asAddr, Sem.run_bind, hx, hy]
theorem ld_set (w : World) (b : Nat) (v : Value) (h : w.cell? ⟨b, 0, none⟩ = some v) : (loadVar 25 ⟨b, 0, none⟩).run Tryz.prog w = .ok v w := by
  simp [loadVar, go_sem, h]
theorem ld_errno (w : World) (b : Nat) (v : Value) (h : w.cell? ⟨b, 0, none⟩ = some v) : (loadVar 27 ⟨b, 0, none⟩).run Tryz.prog w = .ok v w := by
  simp [loadVar, go_sem, h]
theorem atoi_val (l : List UInt8) (w : World) (g : Good w) (hs : l.length ≤ 281474976710656) :
    Calls Tryz.prog 64 #[.string ⟨l.toArray⟩] w fun e w' => ∃ ev, e = .returned (.tuple #[.int .i64 (atoiV l), ev]) ∧ ∃ x : Ext w, w' = x.w := by
  cases h : atoiOk l
  · exact (atoi_bad l w g hs h).mono fun _ _ ⟨N, he, hx⟩ => ⟨_, he, hx⟩
  · exact Calls.mono (atoi_ok l w hs h) fun _ _ ⟨he, hx⟩ => ⟨_, he, hx⟩
set_option maxHeartbeats 8000000 in
theorem splitseq0_any (l : List UInt8) (c : UInt8) (w : World) :
    Calls Tryz.prog 93 #[.string ⟨l.toArray⟩, .string ⟨#[c]⟩, .int .i64 0] w fun e w' => e = .returned (.func (.func 120) #[] #[.pointer (some ⟨w.heap.size + 1, 0, none⟩), .pointer (some ⟨w.heap.size, 0, none⟩), .pointer (some ⟨w.heap.size + 1 + 1, 0, none⟩)]) ∧ w' = ((w.alloc (.cells #[.string ⟨l.toArray⟩] 9)).alloc (.cells #[.string ⟨#[c]⟩] 9)).alloc (.cells #[.int .i64 0] 3) := by
  go_enter Tryz.func93, Tryz.ntmps93
  go_wp2
  go_ret
  exact ⟨rfl, rfl⟩
set_option maxHeartbeats 8000000 in
theorem splitseq_any (l : List UInt8) (c : UInt8) (w : World) :
    Calls Tryz.prog 62 #[.string ⟨l.toArray⟩, .string ⟨#[c]⟩] w fun e w' => e = .returned (.func (.func 120) #[] #[.pointer (some ⟨w.heap.size + 1, 0, none⟩), .pointer (some ⟨w.heap.size, 0, none⟩), .pointer (some ⟨w.heap.size + 1 + 1, 0, none⟩)]) ∧ w' = ((w.alloc (.cells #[.string ⟨l.toArray⟩] 9)).alloc (.cells #[.string ⟨#[c]⟩] 9)).alloc (.cells #[.int .i64 0] 3) := by
  go_enter Tryz.func62, Tryz.ntmps62
  go_wp2_with (go_at_call 93; refine (splitseq0_any l c _).mono ?_; rintro e w' ⟨rfl, rfl⟩)
  go_ret
  exact ⟨rfl, rfl⟩
theorem _root_.Go.Ab.Up.frozen_lt {w W : World} (h : Up w W) {b o : Nat} (hb : b < w.heap.size) : W.frozen? ⟨b, o, none⟩ = w.frozen? ⟨b, o, none⟩ := Below.frozen h hb
theorem alloc_get (w : World) (o : Obj) (k : Nat) : (w.alloc o).heap[k]? = if k = w.heap.size then some o else w.heap[k]? := by
  show (w.heap.push o)[k]? = _
  rw [Array.getElem?_push]
def ReadPost (t : List UInt8) (base : Nat) (e : Ending) (w' : World) : Prop := match readS t with
  | none => e = .returned (.tuple #[.slice none 0 0, .int .i64 40])
  | some s => ∃ u, e = .returned (.tuple #[u, .int .i64 0]) ∧ w'.ownsRow base 39 2 u s.length (s.flatMap spCells)
theorem ReadPost.none {t : List UInt8} {base : Nat} {w' : World} (h : readS t = none) : ReadPost t base (.returned (.tuple #[.slice none 0 0, .int .i64 40])) w' := by unfold ReadPost; rw [h]
theorem ReadPost.some {t : List UInt8} {base : Nat} {u : Value} {w' : World} {s : List Sp} (h : readS t = some s) (k : w'.ownsRow base 39 2 u s.length (s.flatMap spCells)) : ReadPost t base (.returned (.tuple #[u, .int .i64 0])) w' := by unfold ReadPost; rw [h]; exact ⟨u, rfl, k⟩
set_option maxHeartbeats 8000000 in
set_option maxRecDepth 100000 in
theorem spread_empty (w : World) : Gives Tryz.prog 28 #[.string ⟨#[]⟩] w (.tuple #[.slice none 0 0, .int .i64 0]) := by
  unfold Gives
  go_enter Tryz.func28, Tryz.ntmps28
  go_wp2_with fail
  exact bodyPost_ret (results_cells2 2 3 25 27 Tryz.results28 w.heap.size (w.heap.size + 1) rfl rfl _ _ (ld_set _ _ _ (by simp [go_sem])) (ld_errno _ _ _ (by simp [go_sem]))) rfl ⟨rfl, mkI⟩
set_option maxHeartbeats 32000000 in
set_option maxRecDepth 100000 in
theorem spread_some (t : List UInt8) (hne : t ≠ []) (w : World) (g : Good w) (hs : t.length < 4294967281) :
    Calls Tryz.prog 28 #[.string ⟨t.toArray⟩] w fun e w' => ReadPost t w.heap.size e w' ∧ ∃ x : Ext w, w' = x.w := by
  have hz : t.isEmpty = false := by cases t with | nil => exact absurd rfl hne | cons _ _ => rfl
  obtain ⟨mx, hmx⟩ := g.maxLen
  refine (callsIn_wide (n := 0)).1 (callsIn_of_wp_marks Tryz.func28 rfl trivial ?_ rfl)
  refine (wpIn_wide (n := 0)).2 ?_
  simp only [Tryz.ntmps28, List.size_toArray, List.length_cons, List.length_nil, Nat.reduceAdd, Nat.reduceSub, Array.replicate_succ, Array.replicate_zero, List.push_toArray, List.append_toArray, List.nil_append, List.cons_append]
  go_wp2_with (first
    | (go_at_call 62; refine (splitseq_any t 44 _).mono ?_; rintro e w' ⟨rfl, rfl⟩))
  obtain ⟨s, hsz⟩ : ∃ s, w.heap.size = s := ⟨_, rfl⟩
  refine wp_letterS (fun Z => Z.heap.size = s + 6 ∧ Up w Z ∧ Z.heap[s]? = some (.cells #[.slice none 0 0] 25 (0, 0)) ∧ Z.heap[s + 1]? = some (.cells #[.int .i64 0] 27 (0, 0)) ∧ Z.heap[s + 2]? = some (.cells #[.slice none 0 0] 25 (0, 0)) ∧ Z.heap[s + 3]? = some (.cells #[.string ⟨t.toArray⟩] 9 (0, 0)) ∧ Z.cell? ⟨s + 4, 0, none⟩ = some (.string ⟨#[44]⟩) ∧ Z.cell? ⟨s + 5, 0, none⟩ = some (.int .i64 0)) ?hst ?_
  case hst =>
    subst hsz
    refine ⟨by simp, (((((((Up.refl w).alloc _).alloc _).alloc _).alloc _).alloc _).alloc _), ?_, ?_, ?_, ?_, ?_, ?_⟩
    · rw [alloc_get, if_neg (by simp only [World.size_alloc]; omega)]; rw [alloc_get, if_neg (by simp only [World.size_alloc]; omega)]; rw [alloc_get, if_neg (by simp only [World.size_alloc]; omega)]; rw [alloc_get, if_neg (by simp only [World.size_alloc]; omega)]; rw [alloc_get, if_neg (by simp only [World.size_alloc]; omega)]; rw [alloc_get, if_pos (by simp only [World.size_alloc])]
    · rw [alloc_get, if_neg (by simp only [World.size_alloc]; omega)]; rw [alloc_get, if_neg (by simp only [World.size_alloc]; omega)]; rw [alloc_get, if_neg (by simp only [World.size_alloc]; omega)]; rw [alloc_get, if_neg (by simp only [World.size_alloc]; omega)]; rw [alloc_get, if_pos (by simp only [World.size_alloc])]
    · rw [alloc_get, if_neg (by simp only [World.size_alloc]; omega)]; rw [alloc_get, if_neg (by simp only [World.size_alloc]; omega)]; rw [alloc_get, if_neg (by simp only [World.size_alloc]; omega)]; rw [alloc_get, if_pos (by simp only [World.size_alloc])]
    · rw [alloc_get, if_neg (by simp only [World.size_alloc]; omega)]; rw [alloc_get, if_neg (by simp only [World.size_alloc]; omega)]; rw [alloc_get, if_pos (by simp only [World.size_alloc])]
    · simp [go_sem]
    · simp [go_sem]
  rw [hsz]
  rintro W0 ⟨hz0, hu0, o0, o1, o2, o3, c4, c5⟩
  have hbk : ∀ k, book (fun _ k => k = s + 1 + 1 + 1) W0.heap.size k → k = s + 3 ∨ k = s + 6 ∨ k = s + 7 := by
    intro k hk
    rw [hz0] at hk
    rcases hk with h | rfl | rfl <;> omega
  have hkp : ∀ k, book (fun _ k => k < w.heap.size ∨ k = s + 1 + 1 + 1 ∨ k = s + 1 + 1 + 1 + 1 ∨ k = s + 1 + 1 + 1 + 1 + 1) W0.heap.size k → k < s ∨ s + 3 ≤ k ∧ k < s + 8 := by
    intro k hk
    rw [hz0, hsz] at hk
    rcases hk with (h | h | h | h) | rfl | rfl <;> omega
  refine wp_rangeFunc_upB (α := List UInt8) (gf := 120) (lb := #[.pointer (some ⟨s + 1 + 1 + 1 + 1, 0, none⟩), .pointer (some ⟨s + 1 + 1 + 1, 0, none⟩), .pointer (some ⟨s + 1 + 1 + 1 + 1 + 1, 0, none⟩)]) rfl (enters Tryz.func120 (by kernel_rfl) rfl)
    (splitseq_seq w.heap.size (s + 1 + 1 + 1) (s + 1 + 1 + 1 + 1) (s + 1 + 1 + 1 + 1 + 1) 44 t mx hs (by omega) (by omega) (by omega) (by omega) (by omega) (cell_lt' hmx)) (fun _ => rfl) ?hK0 ?hown ?hkp'
    (fun pre W => ((Up w W ∧ s + 8 ≤ W.heap.size) ∧ W.heap[s]? = some (.cells #[.slice none 0 0] 25 (0, 0)) ∧ W.heap[s + 1]? = some (.cells #[.int .i64 0] 27 (0, 0))) ∧ ∃ o vv, foldR [] pre = some o ∧ W.heap[s + 2]? = some (.cells #[vv] 25 (0, 0)) ∧ W.ownsRow (s + 8) 39 2 vv o.length (o.flatMap spCells))
    (fun c pre W => c = .ret ∧ ((Up w W ∧ s + 8 ≤ W.heap.size) ∧ W.heap[s]? = some (.cells #[.slice none 0 0] 25 (0, 0)) ∧ W.heap[s + 1]? = some (.cells #[.int .i64 40] 27 (0, 0))) ∧ foldR [] pre = none ∧ pre <+: splitC 44 t)
    (fun pre x a1 W => (((Up w W ∧ s + 8 ≤ W.heap.size) ∧ W.heap[s]? = some (.cells #[.slice none 0 0] 25 (0, 0)) ∧ W.heap[s + 1]? = some (.cells #[.int .i64 0] 27 (0, 0))) ∧ ∃ o vv, foldR [] pre = some o ∧ W.heap[s + 2]? = some (.cells #[vv] 25 (0, 0)) ∧ W.ownsRow (s + 8) 39 2 vv o.length (o.flatMap spCells)) ∧ a1 = { tmps := #[.string ⟨t.toArray⟩, undef, .pointer (some ⟨s, 0, none⟩), .pointer (some ⟨s + 1, 0, none⟩), .pointer (some ⟨s + 1 + 1, 0, none⟩), .string ⟨x.toArray⟩, undef, undef, undef, undef, undef, undef, undef, undef, undef, .string ⟨t.toArray⟩, .bool false, undef, .string ⟨t.toArray⟩, .func (.func 120) #[] #[.pointer (some ⟨s + 1 + 1 + 1 + 1, 0, none⟩), .pointer (some ⟨s + 1 + 1 + 1, 0, none⟩), .pointer (some ⟨s + 1 + 1 + 1 + 1 + 1, 0, none⟩)], .string ⟨x.toArray⟩, undef, undef, undef, undef, undef, undef, undef, undef, undef, undef, undef, undef, undef, undef, undef, undef, undef, undef, undef, undef, undef, undef, undef, undef, undef, undef, undef, undef, undef, undef, undef, undef, undef, undef, undef, undef, undef, undef, undef, undef, undef, undef, undef, undef, undef, undef, undef, undef, undef, undef, undef, undef, undef, undef, undef, undef, undef, undef, undef], defers := [] })
    ?hI ?hIx ?hA ?h0 ?assign ?body ?done ?stop
  case hK0 =>
    intro W1 hu hsz1
    exact ⟨(hu.block _ (by omega)).trans o3, hu.cell_some c4, hu.cell_some c5, (hu0.trans hu).cell_some hmx⟩
  case hown => intro k hk; rw [hz0] at *; omega
  case hkp' => intro k hk; rw [hz0] at *; omega
  case hI =>
    rintro pre X Y ⟨⟨⟨hu, hz⟩, h1, h2⟩, o, vv, hf, hv, hown⟩ ht
    exact ⟨⟨⟨ht.up hu (fun k hk => by have := hbk k hk; omega), Nat.le_trans hz ht.size⟩, ht.same h1 (fun hk => by have := hbk _ hk; omega), ht.same h2 (fun hk => by have := hbk _ hk; omega)⟩, o, vv, hf, ht.same hv (fun hk => by have := hbk _ hk; omega), owns_turn ht hown (fun k hk => by have := hbk k hk; omega)⟩
  case hIx =>
    rintro c pre X Y ⟨hc, ⟨⟨hu, hz⟩, h1, h2⟩, hf, hp⟩ ht
    exact ⟨hc, ⟨⟨ht.up hu (fun k hk => by have := hbk k hk; omega), Nat.le_trans hz ht.size⟩, ht.same h1 (fun hk => by have := hbk _ hk; omega), ht.same h2 (fun hk => by have := hbk _ hk; omega)⟩, hf, hp⟩
  case hA =>
    rintro pre x a1 X o' ⟨⟨⟨⟨hu, hz⟩, h1, h2⟩, o, vv, hf, hv, hown⟩, rfl⟩
    have ht : Turn (fun k => k = s + 7) X (X.putObj (W0.heap.size + 1) o') := turn_putObj _ _ _ (by omega)
    exact ⟨⟨⟨⟨ht.up hu (fun k hk => by omega), Nat.le_trans hz ht.size⟩, ht.same h1 (fun hk => by omega), ht.same h2 (fun hk => by omega)⟩, o, vv, hf, ht.same hv (fun hk => by omega), owns_turn ht hown (fun k hk => by omega)⟩, rfl⟩
  case h0 =>
    intro W1 hu hsz1
    exact ⟨⟨⟨hu0.trans hu, by omega⟩, (hu.block _ (by omega)).trans o0, (hu.block _ (by omega)).trans o1⟩, [], _, rfl, (hu.block _ (by omega)).trans o2, World.ownsRow_nil _ _ _ _⟩
  case assign =>
    rintro l' pre x W hi _
    have HI := Lib.hid hi
    clear hi hbk hkp o0 o1 o2 o3 c4 c5 hu0
    rw [show encStr1 x = #[.string ⟨x.toArray⟩] from rfl, foldl_one]
    show Code.wpIn (Fence.wide.inRound l') 0 Tryz.prog _ _ { tmps := #[.string ⟨t.toArray⟩, undef, .pointer (some ⟨s, 0, none⟩), .pointer (some ⟨s + 1, 0, none⟩), .pointer (some ⟨s + 1 + 1, 0, none⟩), undef, undef, undef, undef, undef, undef, undef, undef, undef, undef, .string ⟨t.toArray⟩, .bool false, undef, .string ⟨t.toArray⟩, .func (.func 120) #[] #[.pointer (some ⟨s + 1 + 1 + 1 + 1, 0, none⟩), .pointer (some ⟨s + 1 + 1 + 1, 0, none⟩), .pointer (some ⟨s + 1 + 1 + 1 + 1 + 1, 0, none⟩)], .string ⟨x.toArray⟩, undef, undef, undef, undef, undef, undef, undef, undef, undef, undef, undef, undef, undef, undef, undef, undef, undef, undef, undef, undef, undef, undef, undef, undef, undef, undef, undef, undef, undef, undef, undef, undef, undef, undef, undef, undef, undef, undef, undef, undef, undef, undef, undef, undef, undef, undef, undef, undef, undef, undef, undef, undef, undef, undef, undef, undef, undef, undef, undef], defers := [] } W
    gi_wp2_with fail
    exact ⟨Kept.refl _ _, HI.out, trivial⟩
  case body =>
    rintro l' pre x a1 W ⟨⟨⟨⟨hu, hz2⟩, h1, h2⟩, o, vv, hf, hv, hown⟩, rfl⟩ hpre
    obtain ⟨n, hn⟩ : ∃ n, o.length = n := ⟨_, rfl⟩
    rw [hn] at hown
    obtain ⟨pv, cv, rfl⟩ := owns_sliceN hown
    have gW : Good W := g.up hu
    have hxl : x.length ≤ t.length := splitC_len 44 t x (hpre.subset (by simp))
    have hcl := cutC_len 45 x
    obtain ⟨b10, b11⟩ := atoiV_bounds (cutC 45 x).1
    obtain ⟨b20, b21⟩ := atoiV_bounds (cutC 45 x).2.1
    have cR := cell_of_one h1; have fR := free_of_one h1
    have cE := cell_of_one h2; have fE := free_of_one h2
    have cS := cell_of_one hv; have fS := free_of_one hv
    haveI : LtSize s W := ⟨heap_lt h1⟩
    haveI : LtSize (s + 1) W := ⟨heap_lt h2⟩
    haveI : LtSize (s + 2) W := ⟨heap_lt hv⟩
    have H1 := Lib.hid h1; have H2 := Lib.hid h2; have Hv := Lib.hid hv; have Hown := Lib.hid hown; have Hkp := Lib.hid hkp; have Hu := Lib.hid hu
    have Hf := Lib.hid hf
    have Hpre := Lib.hid hpre
    have kc := fun W (g : Good W) => scut1_any x 45 W g (by omega)
    have ka := fun W (g : Good W) => atoi_val (cutC 45 x).1 W g (by omega)
    have kb := fun W (g : Good W) => atoi_val (cutC 45 x).2.1 W g (by omega)
    clear h1 h2 hv hkp hbk o0 o1 o2 o3 c4 c5 hu0 hu hpre hf hown
    gi_wp2_with fail
    refine ⟨trivial, rfl, ?_⟩
    refine (CallsIn.inRound l' (callsIn_wide.2 (kc W gW))).mono ?_
    clear kc
    rintro e w' ⟨rfl, y, rfl⟩
    cases htwo : (cutC 45 x).2.2
    · have hpv := partV_one htwo
      gi_wp2_with fail
      refine ⟨trivial, rfl, ?_⟩
      refine (CallsIn.inRound l' (callsIn_wide.2 (ka y.w (gW.up y.up)))).mono ?_
      rintro e w' ⟨e1, rfl, y1, rfl⟩
      gi_wp2_with fail
      refine ⟨trivial, rfl, ?_⟩
      refine (CallsIn.inRound l' (callsIn_wide.2 (ka y1.w ((gW.up y.up).up y1.up)))).mono ?_
      clear ka kb
      rintro e w' ⟨e2, rfl, y2, rfl⟩
      generalize hv1 : atoiV (cutC 45 x).1 = v1 at *
      have u : Up W y2.w := upI
      have HU := Lib.hid u
      have cS2 := u.cell_some cS
      have fS2 : y2.w.frozen? ⟨s + 2, 0, none⟩ = false := (u.frozen_lt (heap_lt Hv.out)).trans fS
      have cR2 := u.cell_some cR
      have fR2 : y2.w.frozen? ⟨s, 0, none⟩ = false := (u.frozen_lt (heap_lt H1.out)).trans fR
      have cE2 := u.cell_some cE
      have fE2 : y2.w.frozen? ⟨s + 1, 0, none⟩ = false := (u.frozen_lt (heap_lt H2.out)).trans fE
      haveI : LtSize s y2.w := ⟨cell_lt' cR2⟩
      haveI : LtSize (s + 1) y2.w := ⟨cell_lt' cE2⟩
      haveI : LtSize (s + 2) y2.w := ⟨cell_lt' cS2⟩
      have HP := Lib.hid hpv
      clear cS fS cR fR cE fE hpv u b20 b21
      generalize y2.w = Z at *
      by_cases a1 : v1 < 0
      · have HNo := Lib.hid (foldR_no (x := x) Hf.out (by rw [HP.out]; rintro ⟨h1, h2⟩; have h3 := partOk_iff.1 h1; have := h3.f0; have := h3.f1; have := h3.t0; have := h3.t1; simp only at *; omega))
        clear gW hcl hxl Hown Hv
        gi_wp2_with fail
        refine ⟨(((Kept.refl _ W).up HU.out).setCell (by intro h; have := Hkp.out _ h; simp at this; omega) _).setCell (by intro h; have := Hkp.out _ h; simp at this; omega) _, rfl, ⟨⟨((Hu.out.trans HU.out).setCell (by simp; omega) _).setCell (by simp; omega) _, by have := HU.out.size; simp; omega⟩, (heap_setCell_other _ ⟨s + 1, 0, none⟩ s _ (by simp)).trans (one_setCell ((HU.out.block s (heap_lt H1.out)).trans H1.out)), one_setCell ((heap_setCell_other _ ⟨s, 0, none⟩ (s + 1) _ (by simp)).trans ((HU.out.block _ (heap_lt H2.out)).trans H2.out))⟩, HNo.out, Hpre.out⟩
      by_cases a2 : 4294967296 ≤ v1
      · have HNo := Lib.hid (foldR_no (x := x) Hf.out (by rw [HP.out]; rintro ⟨h1, h2⟩; have h3 := partOk_iff.1 h1; have := h3.f0; have := h3.f1; have := h3.t0; have := h3.t1; simp only at *; omega))
        clear gW hcl hxl Hown Hv
        gi_wp2_with fail
        refine ⟨(((Kept.refl _ W).up HU.out).setCell (by intro h; have := Hkp.out _ h; simp at this; omega) _).setCell (by intro h; have := Hkp.out _ h; simp at this; omega) _, rfl, ⟨⟨((Hu.out.trans HU.out).setCell (by simp; omega) _).setCell (by simp; omega) _, by have := HU.out.size; simp; omega⟩, (heap_setCell_other _ ⟨s + 1, 0, none⟩ s _ (by simp)).trans (one_setCell ((HU.out.block s (heap_lt H1.out)).trans H1.out)), one_setCell ((heap_setCell_other _ ⟨s, 0, none⟩ (s + 1) _ (by simp)).trans ((HU.out.block _ (heap_lt H2.out)).trans H2.out))⟩, HNo.out, Hpre.out⟩
      by_cases a5 : 4096 < (n : Int)
      · have HNo := Lib.hid (foldR_no (x := x) Hf.out (by rw [HP.out]; rintro ⟨h1, h2⟩; have h3 := partOk_iff.1 h1; have := h3.f0; have := h3.f1; have := h3.t0; have := h3.t1; simp only at *; omega))
        clear gW hcl hxl Hown Hv
        gi_wp2_with fail
        refine ⟨(((Kept.refl _ W).up HU.out).setCell (by intro h; have := Hkp.out _ h; simp at this; omega) _).setCell (by intro h; have := Hkp.out _ h; simp at this; omega) _, rfl, ⟨⟨((Hu.out.trans HU.out).setCell (by simp; omega) _).setCell (by simp; omega) _, by have := HU.out.size; simp; omega⟩, (heap_setCell_other _ ⟨s + 1, 0, none⟩ s _ (by simp)).trans (one_setCell ((HU.out.block s (heap_lt H1.out)).trans H1.out)), one_setCell ((heap_setCell_other _ ⟨s, 0, none⟩ (s + 1) _ (by simp)).trans ((HU.out.block _ (heap_lt H2.out)).trans H2.out))⟩, HNo.out, Hpre.out⟩
      have hy := Lib.hid (foldR_yes (x := x) Hf.out (by rw [HP.out]; exact partOk_iff.2 ⟨by simp only; omega, by simp only; omega, by simp only; omega, by simp only; omega⟩) (by omega))
      obtain ⟨i0, hi, hy0, hy1, hy2⟩ := info_parts infoSpan
      have Hi := Lib.hid hi; have Hy0 := Lib.hid hy0; have Hy1 := Lib.hid hy1; have Hy2 := Lib.hid hy2
      have HF := Lib.hid (show (o ++ [(v1, v1)]).flatMap spCells = o.flatMap spCells ++ spCells (v1, v1) by simp)
      have HL := Lib.hid (show (o ++ [(v1, v1)]).length = n + 1 by rw [List.length_append, hn]; rfl)
      have hzs : s + 8 ≤ Z.heap.size := Nat.le_trans hz2 HU.out.size
      rw [HP.out] at hy
      clear hi hy0 hy1 hy2 gW hcl hxl hn
      gi_wp2_with (gi_at_builtin; refine wpListIn_append_own _ rfl _ _ 25 rfl (s + 8) 39 i0 (.agg #[.int .u32 0, .int .u32 0]) 2 8 Tryz.underlying25 Hi.out Hy0.out Hy1.out Hy2.out rfl (by decide) _ _ _ rfl (owns_up (owns_up Hown.out HU.out) ((Up.refl Z).alloc _)) ⟨Z.heap.size, 0, none⟩ 1 1 (spCells (v1, v1)) rfl rfl (sp_atM Z (v1, v1) _) (sp_one (v1, v1)) (by unfold maxLen; omega) (by omega) (by simp; omega) ?_; intro v' w1 hown' hgrow _; have hw1 : w1.heap[s + 2]? = some (.cells #[_] 25 (0, 0)) := (hgrow.block (s + 2) (lt_alloc _ (cell_lt' cS2)) (fun e => by have := owns_row Hown.out (s + 2) e.symm; omega)).trans ((Below.heap_alloc Z _ (s + 2) (cell_lt' cS2)).trans ((HU.out.block _ (heap_lt Hv.out)).trans Hv.out)); obtain ⟨g1, cap1, rfl, hg1⟩ := owns_slice hown'; have cB1 := cell_of_one hw1; have fB1 := free_of_one hw1; have HW1 := Lib.hid hw1; have HO1 := Lib.hid hown'; have HG := Lib.hid hgrow; haveI : LtSize (s + 2) w1 := ⟨cell_lt' cB1⟩; clear hw1 hown' hgrow cS2 fS2)
      have hg2 : ∀ k, k < Z.heap.size → k < s + 8 → w1.heap[k]? = Z.heap[k]? := fun k h1 h2 => (HG.out.block k (lt_alloc _ h1) (fun e => by have := owns_row Hown.out k e.symm; omega)).trans (Below.heap_alloc Z _ k h1)
      have hzw : Z.heap.size ≤ w1.heap.size := by have := HG.out.size; rw [World.size_alloc] at this; omega
      have hW1 : Up w w1 := ⟨HG.out.os.trans (Hu.out.trans HU.out).os, HG.out.tape.trans (Hu.out.trans HU.out).tape, HG.out.output.trans (Hu.out.trans HU.out).output, Nat.le_trans (Hu.out.trans HU.out).size hzw, fun k hk => (hg2 k (Nat.lt_of_lt_of_le hk (Hu.out.trans HU.out).size) (by omega)).trans ((Hu.out.trans HU.out).block k hk)⟩
      refine ⟨Kept.setCell (show Kept _ W w1 from ⟨Nat.le_trans HU.out.size hzw, fun k hk hl => (hg2 k (Nat.lt_of_lt_of_le hl HU.out.size) (by have := Hkp.out k hk; omega)).trans (HU.out.block k hl)⟩) (by intro h; have := Hkp.out _ h; simp at this; omega) _, ⟨⟨hW1.setCell (by simp; omega) _, by simp; omega⟩, ?_, ?_⟩, _, _, hy.out, one_setCell HW1.out, ?_⟩
      · exact (heap_setCell_other _ ⟨s + 2, 0, none⟩ s _ (by simp)).trans ((hg2 s (cell_lt' cR2) (by omega)).trans ((HU.out.block s (heap_lt H1.out)).trans H1.out))
      · exact (heap_setCell_other _ ⟨s + 2, 0, none⟩ (s + 1) _ (by simp)).trans ((hg2 (s + 1) (cell_lt' cE2) (by omega)).trans ((HU.out.block (s + 1) (heap_lt H2.out)).trans H2.out))
      · rw [HL.out, HF.out]
        exact owns_setBlock HO1.out (a := ⟨s + 2, 0, none⟩) (show s + 2 < s + 8 by omega) _
    · have hpv := partV_two htwo
      gi_wp2_with fail
      refine ⟨trivial, rfl, ?_⟩
      refine (CallsIn.inRound l' (callsIn_wide.2 (ka y.w (gW.up y.up)))).mono ?_
      clear ka
      rintro e w' ⟨e1, rfl, y1, rfl⟩
      gi_wp2_with fail
      refine ⟨trivial, rfl, ?_⟩
      refine (CallsIn.inRound l' (callsIn_wide.2 (kb y1.w ((gW.up y.up).up y1.up)))).mono ?_
      clear kb
      rintro e w' ⟨e2, rfl, y2, rfl⟩
      generalize hv1 : atoiV (cutC 45 x).1 = v1 at *
      generalize hv2 : atoiV (cutC 45 x).2.1 = v2 at *
      have u : Up W y2.w := upI
      have HU := Lib.hid u
      have cS2 := u.cell_some cS
      have fS2 : y2.w.frozen? ⟨s + 2, 0, none⟩ = false := (u.frozen_lt (heap_lt Hv.out)).trans fS
      have cR2 := u.cell_some cR
      have fR2 : y2.w.frozen? ⟨s, 0, none⟩ = false := (u.frozen_lt (heap_lt H1.out)).trans fR
      have cE2 := u.cell_some cE
      have fE2 : y2.w.frozen? ⟨s + 1, 0, none⟩ = false := (u.frozen_lt (heap_lt H2.out)).trans fE
      haveI : LtSize s y2.w := ⟨cell_lt' cR2⟩
      haveI : LtSize (s + 1) y2.w := ⟨cell_lt' cE2⟩
      haveI : LtSize (s + 2) y2.w := ⟨cell_lt' cS2⟩
      have HP := Lib.hid hpv
      clear cS fS cR fR cE fE hpv u
      generalize y2.w = Z at *
      by_cases a1 : v1 < 0
      · have HNo := Lib.hid (foldR_no (x := x) Hf.out (by rw [HP.out]; rintro ⟨h1, h2⟩; have h3 := partOk_iff.1 h1; have := h3.f0; have := h3.f1; have := h3.t0; have := h3.t1; simp only at *; omega))
        clear gW hcl hxl Hown Hv
        gi_wp2_with fail
        refine ⟨(((Kept.refl _ W).up HU.out).setCell (by intro h; have := Hkp.out _ h; simp at this; omega) _).setCell (by intro h; have := Hkp.out _ h; simp at this; omega) _, rfl, ⟨⟨((Hu.out.trans HU.out).setCell (by simp; omega) _).setCell (by simp; omega) _, by have := HU.out.size; simp; omega⟩, (heap_setCell_other _ ⟨s + 1, 0, none⟩ s _ (by simp)).trans (one_setCell ((HU.out.block s (heap_lt H1.out)).trans H1.out)), one_setCell ((heap_setCell_other _ ⟨s, 0, none⟩ (s + 1) _ (by simp)).trans ((HU.out.block _ (heap_lt H2.out)).trans H2.out))⟩, HNo.out, Hpre.out⟩
      by_cases a2 : 4294967296 ≤ v1
      · have HNo := Lib.hid (foldR_no (x := x) Hf.out (by rw [HP.out]; rintro ⟨h1, h2⟩; have h3 := partOk_iff.1 h1; have := h3.f0; have := h3.f1; have := h3.t0; have := h3.t1; simp only at *; omega))
        clear gW hcl hxl Hown Hv
        gi_wp2_with fail
        refine ⟨(((Kept.refl _ W).up HU.out).setCell (by intro h; have := Hkp.out _ h; simp at this; omega) _).setCell (by intro h; have := Hkp.out _ h; simp at this; omega) _, rfl, ⟨⟨((Hu.out.trans HU.out).setCell (by simp; omega) _).setCell (by simp; omega) _, by have := HU.out.size; simp; omega⟩, (heap_setCell_other _ ⟨s + 1, 0, none⟩ s _ (by simp)).trans (one_setCell ((HU.out.block s (heap_lt H1.out)).trans H1.out)), one_setCell ((heap_setCell_other _ ⟨s, 0, none⟩ (s + 1) _ (by simp)).trans ((HU.out.block _ (heap_lt H2.out)).trans H2.out))⟩, HNo.out, Hpre.out⟩
      by_cases a3 : v2 < 0
      · have HNo := Lib.hid (foldR_no (x := x) Hf.out (by rw [HP.out]; rintro ⟨h1, h2⟩; have h3 := partOk_iff.1 h1; have := h3.f0; have := h3.f1; have := h3.t0; have := h3.t1; simp only at *; omega))
        clear gW hcl hxl Hown Hv
        gi_wp2_with fail
        refine ⟨(((Kept.refl _ W).up HU.out).setCell (by intro h; have := Hkp.out _ h; simp at this; omega) _).setCell (by intro h; have := Hkp.out _ h; simp at this; omega) _, rfl, ⟨⟨((Hu.out.trans HU.out).setCell (by simp; omega) _).setCell (by simp; omega) _, by have := HU.out.size; simp; omega⟩, (heap_setCell_other _ ⟨s + 1, 0, none⟩ s _ (by simp)).trans (one_setCell ((HU.out.block s (heap_lt H1.out)).trans H1.out)), one_setCell ((heap_setCell_other _ ⟨s, 0, none⟩ (s + 1) _ (by simp)).trans ((HU.out.block _ (heap_lt H2.out)).trans H2.out))⟩, HNo.out, Hpre.out⟩
      by_cases a4 : 4294967296 ≤ v2
      · have HNo := Lib.hid (foldR_no (x := x) Hf.out (by rw [HP.out]; rintro ⟨h1, h2⟩; have h3 := partOk_iff.1 h1; have := h3.f0; have := h3.f1; have := h3.t0; have := h3.t1; simp only at *; omega))
        clear gW hcl hxl Hown Hv
        gi_wp2_with fail
        refine ⟨(((Kept.refl _ W).up HU.out).setCell (by intro h; have := Hkp.out _ h; simp at this; omega) _).setCell (by intro h; have := Hkp.out _ h; simp at this; omega) _, rfl, ⟨⟨((Hu.out.trans HU.out).setCell (by simp; omega) _).setCell (by simp; omega) _, by have := HU.out.size; simp; omega⟩, (heap_setCell_other _ ⟨s + 1, 0, none⟩ s _ (by simp)).trans (one_setCell ((HU.out.block s (heap_lt H1.out)).trans H1.out)), one_setCell ((heap_setCell_other _ ⟨s, 0, none⟩ (s + 1) _ (by simp)).trans ((HU.out.block _ (heap_lt H2.out)).trans H2.out))⟩, HNo.out, Hpre.out⟩
      by_cases a5 : 4096 < (n : Int)
      · have HNo := Lib.hid (foldR_no (x := x) Hf.out (by rw [HP.out]; rintro ⟨h1, h2⟩; have h3 := partOk_iff.1 h1; have := h3.f0; have := h3.f1; have := h3.t0; have := h3.t1; simp only at *; omega))
        clear gW hcl hxl Hown Hv
        gi_wp2_with fail
        refine ⟨(((Kept.refl _ W).up HU.out).setCell (by intro h; have := Hkp.out _ h; simp at this; omega) _).setCell (by intro h; have := Hkp.out _ h; simp at this; omega) _, rfl, ⟨⟨((Hu.out.trans HU.out).setCell (by simp; omega) _).setCell (by simp; omega) _, by have := HU.out.size; simp; omega⟩, (heap_setCell_other _ ⟨s + 1, 0, none⟩ s _ (by simp)).trans (one_setCell ((HU.out.block s (heap_lt H1.out)).trans H1.out)), one_setCell ((heap_setCell_other _ ⟨s, 0, none⟩ (s + 1) _ (by simp)).trans ((HU.out.block _ (heap_lt H2.out)).trans H2.out))⟩, HNo.out, Hpre.out⟩
      have hy := Lib.hid (foldR_yes (x := x) Hf.out (by rw [HP.out]; exact partOk_iff.2 ⟨by simp only; omega, by simp only; omega, by simp only; omega, by simp only; omega⟩) (by omega))
      obtain ⟨i0, hi, hy0, hy1, hy2⟩ := info_parts infoSpan
      have Hi := Lib.hid hi; have Hy0 := Lib.hid hy0; have Hy1 := Lib.hid hy1; have Hy2 := Lib.hid hy2
      have HF := Lib.hid (show (o ++ [(v1, v2)]).flatMap spCells = o.flatMap spCells ++ spCells (v1, v2) by simp)
      have HL := Lib.hid (show (o ++ [(v1, v2)]).length = n + 1 by rw [List.length_append, hn]; rfl)
      have hzs : s + 8 ≤ Z.heap.size := Nat.le_trans hz2 HU.out.size
      rw [HP.out] at hy
      clear hi hy0 hy1 hy2 gW hcl hxl hn
      gi_wp2_with (gi_at_builtin; refine wpListIn_append_own _ rfl _ _ 25 rfl (s + 8) 39 i0 (.agg #[.int .u32 0, .int .u32 0]) 2 8 Tryz.underlying25 Hi.out Hy0.out Hy1.out Hy2.out rfl (by decide) _ _ _ rfl (owns_up (owns_up Hown.out HU.out) ((Up.refl Z).alloc _)) ⟨Z.heap.size, 0, none⟩ 1 1 (spCells (v1, v2)) rfl rfl (sp_atM Z (v1, v2) _) (sp_one (v1, v2)) (by unfold maxLen; omega) (by omega) (by simp; omega) ?_; intro v' w1 hown' hgrow _; have hw1 : w1.heap[s + 2]? = some (.cells #[_] 25 (0, 0)) := (hgrow.block (s + 2) (lt_alloc _ (cell_lt' cS2)) (fun e => by have := owns_row Hown.out (s + 2) e.symm; omega)).trans ((Below.heap_alloc Z _ (s + 2) (cell_lt' cS2)).trans ((HU.out.block _ (heap_lt Hv.out)).trans Hv.out)); obtain ⟨g1, cap1, rfl, hg1⟩ := owns_slice hown'; have cB1 := cell_of_one hw1; have fB1 := free_of_one hw1; have HW1 := Lib.hid hw1; have HO1 := Lib.hid hown'; have HG := Lib.hid hgrow; haveI : LtSize (s + 2) w1 := ⟨cell_lt' cB1⟩; clear hw1 hown' hgrow cS2 fS2)
      have hg2 : ∀ k, k < Z.heap.size → k < s + 8 → w1.heap[k]? = Z.heap[k]? := fun k h1 h2 => (HG.out.block k (lt_alloc _ h1) (fun e => by have := owns_row Hown.out k e.symm; omega)).trans (Below.heap_alloc Z _ k h1)
      have hzw : Z.heap.size ≤ w1.heap.size := by have := HG.out.size; rw [World.size_alloc] at this; omega
      have hW1 : Up w w1 := ⟨HG.out.os.trans (Hu.out.trans HU.out).os, HG.out.tape.trans (Hu.out.trans HU.out).tape, HG.out.output.trans (Hu.out.trans HU.out).output, Nat.le_trans (Hu.out.trans HU.out).size hzw, fun k hk => (hg2 k (Nat.lt_of_lt_of_le hk (Hu.out.trans HU.out).size) (by omega)).trans ((Hu.out.trans HU.out).block k hk)⟩
      refine ⟨Kept.setCell (show Kept _ W w1 from ⟨Nat.le_trans HU.out.size hzw, fun k hk hl => (hg2 k (Nat.lt_of_lt_of_le hl HU.out.size) (by have := Hkp.out k hk; omega)).trans (HU.out.block k hl)⟩) (by intro h; have := Hkp.out _ h; simp at this; omega) _, ⟨⟨hW1.setCell (by simp; omega) _, by simp; omega⟩, ?_, ?_⟩, _, _, hy.out, one_setCell HW1.out, ?_⟩
      · exact (heap_setCell_other _ ⟨s + 2, 0, none⟩ s _ (by simp)).trans ((hg2 s (cell_lt' cR2) (by omega)).trans ((HU.out.block s (heap_lt H1.out)).trans H1.out))
      · exact (heap_setCell_other _ ⟨s + 2, 0, none⟩ (s + 1) _ (by simp)).trans ((hg2 (s + 1) (cell_lt' cE2) (by omega)).trans ((HU.out.block (s + 1) (heap_lt H2.out)).trans H2.out))
      · rw [HL.out, HF.out]
        exact owns_setBlock HO1.out (a := ⟨s + 2, 0, none⟩) (show s + 2 < s + 8 by omega) _
  case done =>
    rintro xs W rfl ⟨⟨⟨hu, hz2⟩, h1, h2⟩, o, vv, hf, hv, hown⟩ hD
    obtain ⟨pv, cv, rfl⟩ := owns_sliceN hown
    rw [hz0] at hD
    have gW : Good W := g.up hu
    have hob := foldR_bd _ _ _ (fun x h => by cases h) hf
    have hol := foldR_le (by simp) hf
    have hre := readS_eq hne hf
    have hrow : SpRow W (.slice pv o.length cv) o := RowOf.of_owns (cells := spCells) (k := 2) (t := 39) (fun x => rfl) (base := s + 8) hown
    have cR := cell_of_one h1; have fR := free_of_one h1
    have cE := cell_of_one h2; have fE := free_of_one h2
    have cS := cell_of_one hv
    haveI : LtSize s W := ⟨heap_lt h1⟩
    haveI : LtSize (s + 1) W := ⟨heap_lt h2⟩
    haveI : LtSize (s + 2) W := ⟨heap_lt hv⟩
    have HD := Lib.hid hD
    have H1 := Lib.hid h1; have H2 := Lib.hid h2; have Hv := Lib.hid hv; have Hown := Lib.hid hown; have Hu := Lib.hid hu
    by_cases hw : wrongL o = 0
    · obtain ⟨hor, hol2⟩ : rightS o = true ∧ o.length ≤ 4096 := by
        rcases wrongL_cases o with h | h | ⟨_, h⟩
        · rw [h] at hw; cases hw
        · rw [h] at hw; cases hw
        · exact h
      have htx := fun (Z : World) (u : UpI W Z) => sptext_yes o (.slice pv o.length cv) Z (gW.up u.up) (hrow.up u.up) hob hor hol2
      by_cases ht : textS o = t
      · have heq : (textS o == t) = true := by simpa using ht
        have hrr := Lib.hid (show readS t = some o by rw [hre, if_pos ⟨hw, ht⟩])
        clear hf hre hrow hob hol hv hown hD h1 h2 hbk hkp o0 o1 o2 o3 c4 c5 hu0 hu hor hol2 ht
        go_wp2_with (go_at_call 21; refine (htx _ inferInstance).mono ?_; clear htx; rintro e w' ⟨rfl, y, rfl⟩)
        have h1z : ((y.w.setCell ⟨s, 0, none⟩ (.slice pv o.length cv)).setCell ⟨s + 1, 0, none⟩ (.int .i64 0)).heap[s]? = some (.cells #[.slice pv o.length cv] 25 (0, 0)) := (heap_setCell_other _ ⟨s + 1, 0, none⟩ s _ (by simp)).trans (one_setCell ((y.up.block s (heap_lt H1.out)).trans H1.out))
        have h2z : ((y.w.setCell ⟨s, 0, none⟩ (.slice pv o.length cv)).setCell ⟨s + 1, 0, none⟩ (.int .i64 0)).heap[s + 1]? = some (.cells #[.int .i64 0] 27 (0, 0)) := one_setCell ((heap_setCell_other _ ⟨s, 0, none⟩ (s + 1) _ (by simp)).trans ((y.up.block _ (heap_lt H2.out)).trans H2.out))
        have hDz : ((y.w.setCell ⟨s, 0, none⟩ (.slice pv o.length cv)).setCell ⟨s + 1, 0, none⟩ (.int .i64 0)).heap[s + 6]? = some (.deferred (some [])) := (heap_setCell_other _ ⟨s + 1, 0, none⟩ _ _ (by simp <;> omega)).trans ((heap_setCell_other _ ⟨s, 0, none⟩ _ _ (by simp <;> omega)).trans ((y.up.block _ (heap_lt HD.out)).trans HD.out))
        refine ⟨by simp, .inl ⟨_, _, rfl, run_takeDeferred hDz, ?_⟩⟩
        generalize hZ : (y.w.setCell ⟨s, 0, none⟩ (.slice pv o.length cv)).setCell ⟨s + 1, 0, none⟩ (.int .i64 0) = Z at *
        have ht : Turn (fun k => k = (s + 6)) Z (Z.putObj (s + 6) (.deferred none)) := turn_putObj _ _ _ rfl
        have huZ : Up w Z := by rw [← hZ]; exact ((Hu.out.trans y.up).setCell (by simp; omega) _).setCell (by simp; omega) _
        exact ⟨_, results_cells2 2 3 25 27 Tryz.results28 s (s + 1) rfl rfl _ _ (ld_set _ _ _ (cell_of_one (ht.same h1z (by omega)))) (ld_errno _ _ _ (cell_of_one (ht.same h2z (by omega)))), ReadPost.some hrr.out (owns_base (owns_turn (base := s + 8) ht (by rw [← hZ]; exact owns_setBlock (owns_setBlock (owns_up Hown.out y.up) (a := ⟨s, 0, none⟩) (show s < s + 8 by omega) _) (a := ⟨s + 1, 0, none⟩) (show s + 1 < s + 8 by omega) _) (fun k hk => by omega)) (by omega)), (ht.up huZ (fun k hk => by omega)).mk⟩
      · have heq : (textS o == t) = false := by simpa using ht
        have hrr := Lib.hid (show readS t = none by rw [hre, if_neg (fun h => ht h.2)])
        clear hf hre hrow hob hol hv hown hD h1 h2 hbk hkp o0 o1 o2 o3 c4 c5 hu0 hu hor hol2 ht
        go_wp2_with (go_at_call 21; refine (htx _ inferInstance).mono ?_; clear htx; rintro e w' ⟨rfl, y, rfl⟩)
        have h1z : ((y.w.setCell ⟨s, 0, none⟩ (.slice none 0 0)).setCell ⟨s + 1, 0, none⟩ (.int .i64 40)).heap[s]? = some (.cells #[.slice none 0 0] 25 (0, 0)) := (heap_setCell_other _ ⟨s + 1, 0, none⟩ s _ (by simp)).trans (one_setCell ((y.up.block s (heap_lt H1.out)).trans H1.out))
        have h2z : ((y.w.setCell ⟨s, 0, none⟩ (.slice none 0 0)).setCell ⟨s + 1, 0, none⟩ (.int .i64 40)).heap[s + 1]? = some (.cells #[.int .i64 40] 27 (0, 0)) := one_setCell ((heap_setCell_other _ ⟨s, 0, none⟩ (s + 1) _ (by simp)).trans ((y.up.block _ (heap_lt H2.out)).trans H2.out))
        have hDz : ((y.w.setCell ⟨s, 0, none⟩ (.slice none 0 0)).setCell ⟨s + 1, 0, none⟩ (.int .i64 40)).heap[s + 6]? = some (.deferred (some [])) := (heap_setCell_other _ ⟨s + 1, 0, none⟩ _ _ (by simp <;> omega)).trans ((heap_setCell_other _ ⟨s, 0, none⟩ _ _ (by simp <;> omega)).trans ((y.up.block _ (heap_lt HD.out)).trans HD.out))
        refine ⟨by simp, .inl ⟨_, _, rfl, run_takeDeferred hDz, ?_⟩⟩
        generalize hZ : (y.w.setCell ⟨s, 0, none⟩ (.slice none 0 0)).setCell ⟨s + 1, 0, none⟩ (.int .i64 40) = Z at *
        have ht : Turn (fun k => k = (s + 6)) Z (Z.putObj (s + 6) (.deferred none)) := turn_putObj _ _ _ rfl
        have huZ : Up w Z := by rw [← hZ]; exact ((Hu.out.trans y.up).setCell (by simp; omega) _).setCell (by simp; omega) _
        exact ⟨_, results_cells2 2 3 25 27 Tryz.results28 s (s + 1) rfl rfl _ _ (ld_set _ _ _ (cell_of_one (ht.same h1z (by omega)))) (ld_errno _ _ _ (cell_of_one (ht.same h2z (by omega)))), ReadPost.none hrr.out, (ht.up huZ (fun k hk => by omega)).mk⟩
    · have hz0' : (wrongL o != 0) = true := by simpa using hw
      have htx := fun (Z : World) (u : UpI W Z) => sptext_no o (.slice pv o.length cv) Z (hrow.up u.up) hob (by omega) (wrongL o) rfl hz0'
      have hrr := Lib.hid (show readS t = none by rw [hre, if_neg (fun h => hw h.1)])
      · clear hf hre hrow hob hol hv hown hD h1 h2 hbk hkp o0 o1 o2 o3 c4 c5 hu0 hu
        generalize wrongL o = we at *
        go_wp2_with (go_at_call 21; refine (htx _ inferInstance).mono ?_; clear htx; rintro e w' ⟨rfl, y, rfl⟩)
        have h1z : ((y.w.setCell ⟨s, 0, none⟩ (.slice none 0 0)).setCell ⟨s + 1, 0, none⟩ (.int .i64 40)).heap[s]? = some (.cells #[.slice none 0 0] 25 (0, 0)) := (heap_setCell_other _ ⟨s + 1, 0, none⟩ s _ (by simp)).trans (one_setCell ((y.up.block s (heap_lt H1.out)).trans H1.out))
        have h2z : ((y.w.setCell ⟨s, 0, none⟩ (.slice none 0 0)).setCell ⟨s + 1, 0, none⟩ (.int .i64 40)).heap[s + 1]? = some (.cells #[.int .i64 40] 27 (0, 0)) := one_setCell ((heap_setCell_other _ ⟨s, 0, none⟩ (s + 1) _ (by simp)).trans ((y.up.block _ (heap_lt H2.out)).trans H2.out))
        have hDz : ((y.w.setCell ⟨s, 0, none⟩ (.slice none 0 0)).setCell ⟨s + 1, 0, none⟩ (.int .i64 40)).heap[s + 6]? = some (.deferred (some [])) := (heap_setCell_other _ ⟨s + 1, 0, none⟩ _ _ (by simp <;> omega)).trans ((heap_setCell_other _ ⟨s, 0, none⟩ _ _ (by simp <;> omega)).trans ((y.up.block _ (heap_lt HD.out)).trans HD.out))
        refine ⟨by simp, .inl ⟨_, _, rfl, run_takeDeferred hDz, ?_⟩⟩
        generalize hZ : (y.w.setCell ⟨s, 0, none⟩ (.slice none 0 0)).setCell ⟨s + 1, 0, none⟩ (.int .i64 40) = Z at *
        have ht : Turn (fun k => k = (s + 6)) Z (Z.putObj (s + 6) (.deferred none)) := turn_putObj _ _ _ rfl
        have huZ : Up w Z := by rw [← hZ]; exact ((Hu.out.trans y.up).setCell (by simp; omega) _).setCell (by simp; omega) _
        exact ⟨_, results_cells2 2 3 25 27 Tryz.results28 s (s + 1) rfl rfl _ _ (ld_set _ _ _ (cell_of_one (ht.same h1z (by omega)))) (ld_errno _ _ _ (cell_of_one (ht.same h2z (by omega)))), ReadPost.none hrr.out, (ht.up huZ (fun k hk => by omega)).mk⟩
  case stop =>
    rintro c pre W ⟨rfl, ⟨⟨hu, hz2⟩, h1, h2⟩, hf, rest, hp⟩ hD
    have hno := Lib.hid (readS_none hne hf hp)
    have HD := Lib.hid hD
    clear hf hp hbk hkp o0 o1 o2 o3 c4 c5 hu0 hD
    go_wp2_with fail
    refine ⟨by simp, .inl ⟨_, _, rfl, run_takeDeferred HD.out, ?_⟩⟩
    have ht : Turn (fun k => k = W0.heap.size) W (W.putObj W0.heap.size (.deferred none)) := turn_putObj _ _ _ rfl
    exact ⟨_, results_cells2 2 3 25 27 Tryz.results28 s (s + 1) rfl rfl _ _ (ld_set _ _ _ (cell_of_one (ht.same h1 (by omega)))) (ld_errno _ _ _ (cell_of_one (ht.same h2 (by omega)))), ReadPost.none hno.out, (ht.up hu (fun k hk => by omega)).mk⟩
end Go.Proofs.YtgfkcbflnkpogaaGreatDoor
