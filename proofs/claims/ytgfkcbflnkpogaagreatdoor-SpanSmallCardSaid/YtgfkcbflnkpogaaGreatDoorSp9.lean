/- Package span: what Of returns. -/
import Derived.Test.YtgfkcbflnkpogaaGreatDoorSp8
set_option linter.unusedSimpArgs false
set_option linter.unusedVariables false
namespace Go.Ab
open Go.RowKit
theorem PutB.up {o : Obj} {W W' : World} (h : PutB W.heap.size (W.heap.size + 1) (W.alloc o) W') : Up W W' :=
  ⟨h.os, h.tape, h.output, by have := h.size; rw [World.size_alloc] at this; omega, fun k hk => (h.block k (by rw [World.size_alloc]; omega) (by omega) (by omega)).trans (Below.heap_alloc _ _ _ hk)⟩
theorem addL_len (o : List Sp) (f t : Int) : (addL o f t).length ≤ o.length + 1 := by
  rcases snoc_or o with rfl | ⟨p, y, rfl⟩
  · rw [addL_nil]; simp
  · by_cases c : f ≤ y.2 + 1
    · rw [addL_in p y f t c]; simp
    · rw [addL_out p y f t c]; simp
theorem ofFold_take {l : List Sp} {k : Nat} {x : Sp} (h : l[k]? = some x) : ofFold (l.take (k + 1)) = addL (ofFold (l.take k)) x.1 x.2 := by
  unfold ofFold
  rw [List.take_add_one, h]
  simp
theorem ofFold_len : ∀ (l o : List Sp), (l.foldl (fun o x => addL o x.1 x.2) o).length ≤ o.length + l.length
  | [], o => by simp
  | x :: l, o => by
    have := ofFold_len l (addL o x.1 x.2)
    have h2 := addL_len o x.1 x.2
    rw [List.foldl_cons, List.length_cons]; omega
theorem ofFold_bd {l : List Sp} (hb : ∀ x ∈ l, SpB x) (hl : ∀ x ∈ l, x.1 ≤ x.2) (hp : l.Pairwise (fun x y => x.1 ≤ y.1)) : ∀ x ∈ ofFold l, SpB x := by
  obtain ⟨h1, h2⟩ := ofFold_ok l [] rfl (fun x hx => ⟨(hb x hx).f0, hl x hx⟩) hp (fun x h => by cases h)
  exact rF_bd h1 (fun n k => hasS_bd hb (by have := h2 n; rw [hasS_nil, Bool.false_or] at this; rw [← this]; exact k))
def badS (l : List Sp) : Bool := l.any fun x => decide (x.2 < x.1)
theorem badS_no {l : List Sp} (h : badS l = false) : ∀ x ∈ l, x.1 ≤ x.2 := fun x hx => by
  have := List.any_eq_false.1 h x hx
  simpa using this
theorem badS_perm {l m : List Sp} (h : l.Perm m) : badS l = badS m := by
  rw [Bool.eq_iff_iff]
  unfold badS
  rw [List.any_eq_true, List.any_eq_true]
  exact ⟨fun ⟨x, hx, k⟩ => ⟨x, h.mem_iff.1 hx, k⟩, fun ⟨x, hx, k⟩ => ⟨x, h.mem_iff.2 hx, k⟩⟩
end Go.Ab
namespace Go.Proofs.YtgfkcbflnkpogaaGreatDoor
open Go.RowKit Go.Ab
attribute [local go_sem high] wrapI64 wrapK64
set_option maxHeartbeats 8000000 in
set_option maxRecDepth 100000 in
theorem spof_many (l : List Sp) (v : Value) (w : World) (hv : SpRow w v l) (hl : 4096 < l.length) : Gives Tryz.prog 22 #[v] w (.tuple #[.slice none 0 0, .int .i64 5]) := by
  obtain ⟨p, cap, rfl⟩ := sp_len hv
  generalize l.length = n at *
  have h : (4096 : Int) < (n : Int) := by omega
  clear hv hl
  unfold Gives
  go_enter Tryz.func22, Tryz.ntmps22
  go_wp2_with fail
  go_ret2
  exact ⟨rfl, mkI⟩
set_option maxHeartbeats 8000000 in
set_option maxRecDepth 100000 in
theorem spof_any (l : List Sp) (v : Value) (w : World) (hv : SpRow w v l) (hb : ∀ x ∈ l, SpB x) (hl : l.length ≤ 4096) :
    Calls Tryz.prog 22 #[v] w fun e w' => (badS l = true ∧ e = .returned (.tuple #[.slice none 0 0, .int .i64 2]) ∨ badS l = false ∧ ∃ u, e = .returned (.tuple #[u, .int .i64 0]) ∧ w'.ownsRow w.heap.size 39 2 u (ofL l).length ((ofL l).flatMap spCells)) ∧ ∃ x : Ext w, w' = x.w := by
  obtain ⟨p, cap, rfl⟩ := sp_len hv
  have hcl := spclone_any l (.slice p l.length cap) w hv (by omega)
  have hln : (l.length : Int) ≤ 4096 := by omega
  have hsrt := fun (u : Value) (W : World) (h : W.ownsRow w.heap.size 39 2 u l.length (l.flatMap spCells)) (up : Up w W) => spsort_any w.heap.size l u W w h (by omega) up (Nat.le_refl _)
  have Hb := Lib.hid hb
  obtain ⟨N, hN⟩ : ∃ N, l.length = N := ⟨_, rfl⟩
  rw [hN] at hcl hln hsrt hl ⊢
  have HN := Lib.hid hN
  clear hv hb hN
  go_enter Tryz.func22, Tryz.ntmps22
  go_wp2_with (first
    | (go_at_call 51; refine hcl.mono ?_; clear hcl; rintro e w' ⟨u, rfl, hown, x, rfl⟩; obtain ⟨pu, cu, rfl⟩ := owns_sliceN hown; have Hown := Lib.hid hown; clear hown)
    | (go_at_call 52; refine (hsrt _ x.w Hown.out x.up).mono ?_; clear hsrt; rintro e w' ⟨rfl, L, hp, hs, hown2, z, rfl⟩))
  obtain ⟨B, hB⟩ : ∃ B, z.w.heap.size = B := ⟨_, rfl⟩
  have hwB : w.heap.size ≤ B := by rw [← hB]; exact z.up.size
  have hLN : L.length = N := hp.length_eq.trans HN.out
  rw [hLN] at hown2
  have hrow : SpRow z.w (.slice pu N cu) L := RowOf.of_owns (cells := spCells) (k := 2) (t := 39) (fun x => rfl) (base := w.heap.size) (by rw [hLN]; exact hown2)
  have HLN := Lib.hid hLN
  have Hrow := Lib.hid hrow
  have Hp := Lib.hid hp
  have Hs := Lib.hid hs
  have HB := Lib.hid hB
  rw [hB]
  clear hown2 Hown hrow hLN hB hp hs
  go_loopw [19] (fun i wr => ∃ (k : Nat) (vv : Value), k ≤ N ∧ i = .int .i64 (k : Int) ∧ wr.heap[B]? = some (.cells #[vv] 91 (0, 0)) ∧ Hid (wr.ownsRow (B + 1) 39 2 vv (ofFold (L.take k)).length ((ofFold (L.take k)).flatMap spCells)) ∧ Hid (PutB B (B + 1) (z.w.alloc (.cells #[.slice none 0 0] 91)) wr) ∧ Hid (∀ (j : Nat) x, j < k → L[j]? = some x → x.1 ≤ x.2)) (fun i _ => N - (intOf i).toNat)
  case atStart => exact ⟨0, _, Nat.zero_le _, rfl, by rw [← HB.out]; exact alloc_at z.w _, Lib.hid (World.ownsRow_nil _ _ _ _), Lib.hid (PutB.of_up (Up.refl _)), Lib.hid (fun j x hj => absurd hj (Nat.not_lt_zero j))⟩
  case round =>
    obtain ⟨k, vv, hk, rfl, hBk, Hown, Hput, Hk⟩ := hrel
    have hup : Up z.w wr := PutB.up (o := .cells #[.slice none 0 0] 91) (by rw [HB.out]; exact Hput.out)
    have hall : ∀ x ∈ L.take k, x.1 ≤ x.2 := fun x hx => by
      obtain ⟨j, hj⟩ := List.getElem?_of_mem hx
      rw [List.getElem?_take] at hj
      split at hj
      · rename_i h; exact Hk.out j x h hj
      · cases hj
    have hLb : ∀ x ∈ L, SpB x := fun x hx => Hb.out x (Hp.out.mem_iff.1 hx)
    haveI : LtSize B wr := ⟨heap_lt hBk⟩
    by_cases hlt : k < N
    · have hlt' : (k : Int) < (N : Int) := by omega
      have k0 : (0 : Int) ≤ (k : Int) := by omega
      obtain ⟨x, hx⟩ : ∃ x, L[k]? = some x := ⟨_, List.getElem?_eq_getElem (by rw [HLN.out]; exact hlt)⟩
      obtain ⟨b, o, hpu, hbw, c0, c1⟩ := sp_at (Hrow.out.up hup) rfl hx
      subst hpu
      haveI : LtSize b wr := ⟨hbw⟩
      obtain ⟨xf0, xf1, xt0, xt1⟩ := hLb x (List.mem_of_getElem? hx)
      by_cases hgt : x.2 < x.1
      · have hd : decide (x.2 < x.1) = true := decide_eq_true hgt
        have E := Lib.hid (show badS l = true by rw [← badS_perm Hp.out]; exact List.any_eq_true.2 ⟨x, List.mem_of_getElem? hx, hd⟩)
        have Hup := Lib.hid (z.up.trans hup)
        haveI : UpI w wr := ⟨Hup.out⟩
        clear hBk hup hall hLb hx
        go_wp2_with fail
        go_ret2
        exact ⟨.inl ⟨E.out, rfl⟩, mkI⟩
      · have hd : decide (x.2 < x.1) = false := decide_eq_false hgt
        have hbd := ofFold_bd (l := L.take k) (fun y hy => hLb y (List.mem_of_mem_take hy)) hall (List.Pairwise.sublist (List.take_sublist _ _) Hs.out)
        have hln : (ofFold (L.take k)).length ≤ 4294967296 := by have := ofFold_len (L.take k) []; unfold ofFold; simp only [List.length_nil, List.length_take] at this; omega
        have hadd := spadd_any (ofFold (L.take k)) x.1 x.2 vv B (B + 1) (wr.alloc (.cells #[.int .u32 x.1, .int .u32 x.2] 39)) (by omega) ((Below.heap_alloc _ _ _ (heap_lt hBk)).trans hBk) (by have := heap_lt hBk; simp; omega) (owns_up Hown.out ((Up.refl wr).alloc _)) hbd xf0 xf1 xt0 xt1 hln
        have HA := Lib.hid hadd
        have HF := Lib.hid (ofFold_take hx)
        have Hk' : Hid (∀ (j : Nat) x, j < k + 1 → L[j]? = some x → x.1 ≤ x.2) := Lib.hid (fun j y hj hy => by
          rcases Nat.lt_or_eq_of_le (Nat.le_of_lt_succ hj) with h | h
          · exact Hk.out j y h hy
          · subst h; rw [hx] at hy; cases hy; omega)
        clear hBk hup hall hLb hx hbd hln hadd Hown Hk
        go_wp2_with (go_at_call 55; refine HA.out.mono ?_; clear HA; rintro e w' ⟨rfl, v', hv', hown', hput⟩)
        go_roundw
        case rel => exact ⟨k + 1, v', by omega, by go_num, hv', by rw [HF.out]; exact Lib.hid hown', Lib.hid ((Hput.out.trans (PutB.of_up ((Up.refl wr).alloc _))).trans hput), Hk'⟩
        case measure => simp [intOf]; omega
    · obtain rfl : k = N := by omega
      have e1 : L.take k = L := List.take_of_length_le (by rw [HLN.out]; exact Nat.le_refl _)
      rw [e1] at Hown hall
      have E := Lib.hid (show badS l = false by
        rw [← badS_perm Hp.out, Bool.eq_false_iff]
        intro h
        obtain ⟨x, hx, h2⟩ := List.any_eq_true.1 h
        have := hall x hx
        have h3 := of_decide_eq_true h2
        omega)
      have EF := Lib.hid (ofFold_of Hp.out Hs.out Hb.out (badS_no E.out))
      have cB := cell_of_one hBk
      have Hup := Lib.hid (z.up.trans hup)
      haveI : UpI w wr := ⟨Hup.out⟩
      clear hBk hup hall hLb e1
      go_wp2_with fail
      go_ret2
      exact ⟨.inr ⟨E.out, _, rfl, owns_base (by rw [← EF.out]; exact Hown.out) (by omega)⟩, mkI⟩
end Go.Proofs.YtgfkcbflnkpogaaGreatDoor
