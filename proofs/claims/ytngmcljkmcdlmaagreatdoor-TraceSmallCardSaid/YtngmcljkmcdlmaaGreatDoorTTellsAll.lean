/- Both rings agree: the walk of agrees, of tells and of TraceTells (layer 41). -/
import Derived.Test.YtngmcljkmcdlmaaGreatDoorRefRing
import Derived.Test.YtngmcljkmcdlmaaGreatDoorAwk3
namespace Go.Ab
open Go.RowKit Go.Proofs.YtngmcljkmcdlmaaGreatDoor
theorem countR_out (l : List Ev) (h : ∀ e ∈ l, e.right = true) (r : Nat) (hr : ¬ (1 ≤ r ∧ r < 30)) : countR l r = 0 := by
  unfold countR
  rw [List.length_eq_zero_iff, List.filter_eq_nil_iff]
  intro e he hre
  have := h e he
  unfold Ev.right rightEv at this
  simp only [Bool.and_eq_true, decide_eq_true_eq] at this
  obtain ⟨_, ⟨_, r1, r30⟩, _⟩ := this
  simp at hre
  omega
theorem lastL_length (l : List Ev) (size : Nat) : (lastL l size).length = min l.length size := by unfold lastL; rw [List.length_drop]; omega
theorem EvRow.shape {w : World} {v : Value} {l : List Ev} (h : EvRow w v l) : ∃ p c, v = .slice p l.length c := by obtain ⟨p, c, rfl, _⟩ := h; exact ⟨p, c, rfl⟩
theorem IntRow.shape {w : World} {v : Value} {l : List Int} (h : IntRow w v l) : ∃ p c, v = .slice p l.length c := by obtain ⟨p, c, rfl, _⟩ := h; exact ⟨p, c, rfl⟩
theorem wpList_clear2 {P : Program} {w : World} {ops : Array Oper} {rest : List Oper} {o : Oper} {a : Act} {Q : Exit → Act → World → Prop} (hgd : o.guard = none) (hd : o.dst = none) (s : Operand) (t : TypeId)
    (ho : o.op = .call { callee := .builtin .clear, args := #[s], argTypes := #[t] })
    (base : Nat) (e : TypeId) (i : TypeInfo) (z : Value) (size : Nat) (ht : P.underlying t = some (.slice e)) (hi : P.info? e = some i) (hz : i.zero = some z)
    (hzs : z.cells.size = size) (hsz : 0 < size) (h1 : ∀ u ∈ z.cells.toList, u.oneCell' = true) (v : Value) (n : Nat) (xs : List Value) (hs : a.eval s = v) (hown : w.ownsRow base e size v n xs)
    (h : ∀ w', w.grownBy w' v.ownBlock → wpList P ops Q rest a w') : wpList P ops Q (o :: rest) a w :=
  wpList_clear_own hgd s t ho base e i z size ht hi hz hzs hsz h1 v n xs hs hown fun w' hg => by rw [hd]; exact h w' hg
theorem owns_apart {w1 w2 : World} {b1 b2 : Nat} {e1 e2 : TypeId} {s1 s2 n1 n2 : Nat} {v1 v2 : Value} {xs1 xs2 : List Value} (h1 : w1.ownsRow b1 e1 s1 v1 n1 xs1) (h2 : w2.ownsRow b2 e2 s2 v2 n2 xs2) (hb : w1.heap.size ≤ b2) : v2.ownBlock = none ∨ v2.ownBlock ≠ v1.ownBlock := by
  cases h : v2.ownBlock with
  | none => exact .inl rfl
  | some k =>
    refine .inr fun he => ?_
    have k1 := (h2.lt k h).1
    have k2 := (h1.lt k he.symm).2
    omega
end Go.Ab
namespace Go.Proofs.YtngmcljkmcdlmaaGreatDoor
open Go.RowKit Go.Ab
theorem got_both (w : World) (R G size : Nat) (E : List Ev) (v : Value) (hr : Ring w R G size E) (hv : EvRow w v E) (hl : E.length ≤ 1000000) (n : Int) (n0 : -9223372036854775808 ≤ n) (n1 : n ≤ 9223372036854775807) :
    ∃ (x : Ev) (b : Bool), (∀ W, UpI w W → Gives Tryz.prog 10 #[.pointer (some ⟨R, 0, none⟩), .int .i64 n] W (.tuple #[x.val, .bool b])) ∧
      (∀ W, UpI w W → Gives Tryz.prog 52 #[.agg #[.int .i64 (size : Int), v], .int .i64 n] W (.tuple #[x.val, .bool b])) := by
  by_cases h : 0 ≤ n ∧ n < (E.length : Int) ∧ (E.length : Int) - n ≤ (size : Int)
  · obtain ⟨k, rfl⟩ := Int.eq_ofNat_of_zero_le h.1
    obtain ⟨e, he⟩ : ∃ e, E[k]? = some e := ⟨_, List.getElem?_eq_getElem (by omega)⟩
    exact ⟨e, true, fun W hu => ring_get W R G size E (hr.up hu.up) k e he (by omega), fun W hu => rget_yes W v size E (hv.up hu.up) hl hr.s1 k e he (by omega)⟩
  · exact ⟨Ev.zero, false, fun W hu => ring_get_no W R G size E (hr.up hu.up) n (by omega) n0 n1, fun W hu => rget_no W v size E (hv.up hu.up) hl hr.s1 n n0 n1 (by omega)⟩
attribute [local go_sem high] revent_eq
set_option maxHeartbeats 64000000 in
set_option maxRecDepth 100000 in
theorem agrees_any (w : World) (R G size : Nat) (E : List Ev) (v : Value) (hr : Ring w R G size E) (hv : EvRow w v E) (hall : ∀ e ∈ E, e.right = true) (hl : E.length ≤ 900000) (number : Int) (nb0 : -9223372036854775808 ≤ number) (nb1 : number ≤ 9223372036854775807) (reason : Int) (r0 : 0 ≤ reason) (r1 : reason < 256) :
    Gives Tryz.prog 30 #[.pointer (some ⟨R, 0, none⟩), .agg #[.int .i64 (size : Int), v], .int .i64 number, .int .u8 reason] w (.bool true) := by
  obtain ⟨reason, rfl⟩ := Int.eq_ofNat_of_zero_le r0
  obtain ⟨x, b, hg1, hg2⟩ := got_both w R G size E v hr hv (by omega) number nb0 nb1
  have hcount : ∀ W, UpI w W → Gives Tryz.prog 13 #[.pointer (some ⟨R, 0, none⟩), .int .u8 (reason : Int)] W (.int .i64 (countR E reason : Int)) := fun W hu => (ring_count W R G size E (hr.up hu.up) reason (by omega)).cast (by
    by_cases h : 1 ≤ reason ∧ reason < 30
    · rw [if_pos h]
    · rw [if_neg h, countR_out E hall reason h]; rfl)
  have hrc := fun W (hu : UpI w W) => rcount_any W v size E (hv.up hu.up) (by omega) reason
  have htot := fun W (hu : UpI w W) => ring_total W R G size E (hr.up hu.up)
  have hlen : ∀ W, UpI w W → Gives Tryz.prog 12 #[.pointer (some ⟨R, 0, none⟩)] W (.int .i64 ((lastL E size).length : Int)) := fun W hu => (ring_len W R G size E (hr.up hu.up)).cast (by rw [lastL_length])
  have hlist := fun W (hu : UpI w W) => ring_list W R G size E (hr.up hu.up)
  have hsince := fun W (hu : UpI w W) => ring_since W R G size E (hr.up hu.up) number
  have hwhere := fun W (hu : UpI w W) => ring_where W R G size E (hr.up hu.up) (reason : Int)
  have rs0 := fun W (hu : UpI w W) => rsince_any W v size E (hv.up hu.up) (by omega) hr.s1 0
  simp only [since_zero] at rs0
  have rsn := fun W (hu : UpI w W) => rsince_any W v size E (hv.up hu.up) (by omega) hr.s1 number
  have rwh := fun W (hu : UpI w W) => rwhere_any W v size E (hv.up hu.up) (by omega) hr.s1 (reason : Int)
  have hk := keptL_length E size
  have hk1 := Lib.hid (show (lastL E size).length ≤ 1000000 by rw [lastL_length]; omega)
  have hk2 := Lib.hid (show (sinceL number (keptL E size)).length ≤ 1000000 by have := sinceL_length number (keptL E size); omega)
  have hk3 := Lib.hid (show ((whereL (reason : Int) (keptL E size)).map fun n : Nat => (n : Int)).length ≤ 1000000 by rw [List.length_map]; have := whereL_length (reason : Int) (keptL E size); omega)
  obtain ⟨i0, hi, hy0, hy1, hy2⟩ := info_parts infoEvent
  obtain ⟨j0, hj, hz0, hz1, hz2⟩ := info_parts infoInt
  have Hi := Lib.hid hi; have Hy0 := Lib.hid hy0
  have Hj := Lib.hid hj; have Hz0 := Lib.hid hz0
  clear hi hy0 hy1 hy2 hj hz0 hz1 hz2 hk
  have hxx : evB x.n x.sd x.r x.pr x.s x.d x.sp x.dp x.n x.sd x.r x.pr x.s x.d x.sp x.dp = true := by rw [evB_eq]; simp
  obtain ⟨p, cap, rfl⟩ := hv.shape
  clear hr hv hall
  unfold Ev.val at hg1 hg2
  unfold Gives
  go_enter Tryz.func30, Tryz.ntmps30
  go_upto_region 1 with fail
  have b0 : (w.alloc (.cells #[.int .i64 (size : Int), .slice p E.length cap] 70)).cell? ⟨w.heap.size, 0, none⟩ = some (.int .i64 (size : Int)) := by simp [go_sem]
  have b1 : (w.alloc (.cells #[.int .i64 (size : Int), .slice p E.length cap] 70)).cell? ⟨w.heap.size, 1, none⟩ = some (.slice p E.length cap) := by simp [go_sem]
  have uw : UpI w (w.alloc (.cells #[.int .i64 (size : Int), .slice p E.length cap] 70)) := inferInstance
  generalize w.alloc (.cells #[.int .i64 (size : Int), .slice p E.length cap] 70) = Wb at *
  obtain ⟨B, hB⟩ : ∃ B, w.heap.size = B := ⟨_, rfl⟩
  rw [hB] at b0 b1 ⊢
  clear hB
  haveI : LtSize B Wb := ⟨cell_lt' b0⟩
  go_upto_region 7 with (first
    | (go_at_call 14; refine (hlist _ inferInstance).mono ?_; rintro e w' ⟨v1, rfl, hv1, z1, rfl⟩; have H1 := Lib.hid hv1; clear hv1)
    | (go_at_call 15; refine (hsince _ inferInstance).mono ?_; rintro e w' ⟨v2, rfl, hv2, z2, rfl⟩; have H2 := Lib.hid hv2; clear hv2)
    | (go_at_call 16; refine (hwhere _ inferInstance).mono ?_; rintro e w' ⟨v3, rfl, hv3, z3, rfl⟩; have H3 := Lib.hid hv3; clear hv3)
    | (go_at_call 10; refine (hg1 _ inferInstance).mono ?_; rintro e w' ⟨rfl, z4, rfl⟩)
    | (go_at_call 52; refine (hg2 _ inferInstance).mono ?_; rintro e w' ⟨rfl, z5, rfl⟩)
    | (go_at_call 53; with_reducible refine (rs0 _ inferInstance).mono ?_; rintro e w' ⟨u6, rfl, hu6, z6, rfl⟩; have R6 := Lib.hid hu6; obtain ⟨p6, c6, rfl⟩ := hu6.shape; clear hu6)
    | (go_at_call 53; refine (rsn _ inferInstance).mono ?_; rintro e w' ⟨u7, rfl, hu7, z7, rfl⟩; have R7 := Lib.hid hu7; clear hu7)
    | (go_at_call 56; refine (rwh _ inferInstance).mono ?_; rintro e w' ⟨u8, rfl, hu8, z8, rfl⟩; have R8 := Lib.hid hu8; clear hu8)
    | (go_at_call 54; refine ((same_any _ _ _ _ _ ((EvRow.of_owns H1.out).up upI) (R6.out.up upI) hk1.out).cast (by rw [decide_eq_true rfl])).mono ?_; rintro e w' ⟨rfl, z9, rfl⟩)
    | (go_at_call 54; refine ((same_any _ _ _ _ _ ((EvRow.of_owns H2.out).up upI) (R7.out.up upI) hk2.out).cast (by rw [decide_eq_true rfl])).mono ?_; rintro e w' ⟨rfl, z10, rfl⟩)
    | (go_at_call 55; refine ((equal_int _ _ _ _ _ ((IntRow.of_owns H3.out).up upI) (R8.out.up upI) hk3.out).cast (by rw [decide_eq_true rfl])).mono ?_; rintro e w' ⟨rfl, z11, rfl⟩))
  clear hlist hsince hwhere hg1 hg2 rs0 rsn rwh R6 R7 R8
  have A12 := Lib.hid (owns_apart H1.out H2.out (upI : Up z1.w _).size)
  have A13 := Lib.hid (owns_apart H1.out H3.out (upI : Up z1.w _).size)
  have A23 := Lib.hid (owns_apart H2.out H3.out (upI : Up z2.w _).size)
  go_upto_region 8 with (first
    | (refine wpList_clear2 rfl rfl (.tmp 69) 31 rfl _ 27 i0 Ev.zero.val 8 Tryz.underlying31 Hi.out Hy0.out rfl (by decide) (ev8_one Ev.zero) _ _ _ rfl (owns_up H1.out upI) ?_; intro w' hgrow; have K2 := Lib.hid ((owns_up H2.out upI).kept hgrow A12.out); have K3 := Lib.hid ((owns_up H3.out upI).kept hgrow A13.out); obtain ⟨y1, rfl⟩ := (Up.grown (upI : Up Wb _) hgrow (fun k hk => Nat.le_trans (upI : Up Wb _).size (owns_row H1.out k hk))).mk; clear hgrow H1))
  have L2 := Lib.hid (fun k hk => Nat.le_trans (upI : Up Wb _).size (owns_row H2.out k hk))
  have L3 := Lib.hid (fun k hk => Nat.le_trans (upI : Up Wb _).size (owns_row H3.out k hk))
  clear H2 H3 A12 A13
  go_upto_region 9 with (first
    | (refine wpList_clear2 rfl rfl (.tmp 70) 31 rfl _ 27 i0 Ev.zero.val 8 Tryz.underlying31 Hi.out Hy0.out rfl (by decide) (ev8_one Ev.zero) _ _ _ rfl (owns_up K2.out upI) ?_; intro w' hgrow; have M3 := Lib.hid ((owns_up K3.out upI).kept hgrow A23.out); obtain ⟨y2, rfl⟩ := (Up.grown (upI : Up Wb _) hgrow L2.out).mk; clear hgrow K2 K3))
  go_upto_region 10 with (first
    | (refine wpList_clear2 rfl rfl (.tmp 71) 30 rfl _ 3 j0 (.int .i64 0) 1 Tryz.underlying30 Hj.out Hz0.out rfl (by decide) (by intro u hu; simp [Value.cells] at hu; subst hu; rfl) _ _ _ rfl (owns_up M3.out upI) ?_; intro w' hgrow; obtain ⟨y3, rfl⟩ := (Up.grown (upI : Up Wb _) hgrow L3.out).mk; clear hgrow M3))
  (refine wp_region_ext (by kernel_rfl) (by kernel_rfl) ?_; (repeat (go_big_quiet_step ((first
    | (go_at_call 11; exact (htot _ inferInstance).ext)
    | (go_at_call 12; exact (hlen _ inferInstance).ext)
    | (go_at_call 13; exact (hcount _ inferInstance).ext)
    | (go_at_call 57; exact (hrc _ inferInstance).ext))))); refine wpQuiet_nil ?_; rintro _ ⟨y4, rfl⟩)
  go_wp2_with fail
  go_ret
  exact ⟨rfl, (upI : Up w _).mk⟩
end Go.Proofs.YtngmcljkmcdlmaaGreatDoor
namespace Go.Ab
open Go.RowKit Go.Proofs.YtngmcljkmcdlmaaGreatDoor
theorem owns_past {w w' : World} {base : Nat} {e : TypeId} {size : Nat} {v : Value} {n : Nat} {xs : List Value} {R G : Nat} (h : w.ownsRow base e size v n xs) (hp : Past (ringOwn R G) w w') (hR : R < base) (hG : G < base) : w'.ownsRow base e size v n xs := by
  obtain ⟨h1, h2⟩ := h
  refine ⟨h1, ?_⟩
  rcases h2 with h2 | ⟨g, cap, cur, hv, hgb, hh, r⟩
  · exact .inl h2
  · refine .inr ⟨g, cap, cur, hv, hgb, ?_, r⟩
    rw [hp.block g (Array.getElem?_eq_some_iff.1 hh).1 (fun e => by rcases e with e | e <;> omega)]
    exact hh
theorem ring_far {w : World} {te tr : TypeId} {R G size : Nat} {l : List Ev} {M o : Nat} {u : Value} (h : RingIs w te tr R G size l) (h1 : M ≠ R) (h2 : M ≠ G) : RingIs (w.setCell ⟨M, o, none⟩ u) te tr R G size l := by
  refine ⟨h.s0, h.s1, h.len, h.ne, (Below.heap_setCell w ⟨M, o, none⟩ u R (by simpa using h1.symm)).trans h.ring, ?_⟩
  obtain ⟨cs, hc, r⟩ := h.evs
  exact ⟨cs, (Below.heap_setCell w ⟨M, o, none⟩ u G (by simpa using h2.symm)).trans hc, r⟩
theorem putE_ok {E : List Ev} {e : Ev} (h : ∀ x ∈ E, EvB x ∧ x.right = true) (he : EvB e) : ∀ x ∈ putE E e, EvB x ∧ x.right = true := by
  intro x hx
  unfold putE at hx
  split at hx
  · rename_i hc
    rcases List.mem_append.1 hx with hx | hx
    · exact h x hx
    · simp only [List.mem_singleton] at hx; subst hx; exact ⟨he, hc.1⟩
  · exact h x hx
theorem putE_len (E : List Ev) (e : Ev) : (putE E e).length ≤ E.length + 1 := by
  unfold putE; split <;> simp
theorem putF_bd (E : List Ev) (e : Ev) : 0 ≤ putF E e ∧ putF E e ≤ 411 := by
  unfold putF
  by_cases h : e.right = true
  · rw [if_pos h]; split <;> omega
  · rw [if_neg h]; omega
end Go.Ab
namespace Go.Proofs.YtngmcljkmcdlmaaGreatDoor
open Go.RowKit Go.Ab
theorem put_all (w : World) (R G size : Nat) (E : List Ev) (h : Ring w R G size E) (e : Ev) (eb : EvB e) (hl : E.length < 900000) :
    Calls Tryz.prog 9 #[.pointer (some ⟨R, 0, none⟩), e.val] w fun en w' => en = .returned (.tuple #[.int .i64 (putA E e), .int .i64 (putF E e)]) ∧ Ring w' R G size (putE E e) ∧ ∃ x : PExt R G w, w' = x.w := by
  by_cases hri : e.right = true
  · by_cases ht : takesB E e = true
    · have hE : putE E e = E ++ [e] := by unfold putE; rw [if_pos ⟨hri, ht⟩]
      have hA : putA E e = (E.length : Int) := by unfold putA; rw [if_pos ⟨hri, ht⟩]
      have hF : putF E e = 0 := by unfold putF; rw [if_pos hri, if_pos ht]
      rw [hE, hA, hF]
      exact (ring_put w R G size E h e eb hri ((takesB_iff E e).1 ht) (by omega)).mono fun _ _ ⟨h1, h2, h3⟩ => ⟨h1, h2, h3.px⟩
    · have hE : putE E e = E := by unfold putE; rw [if_neg (fun h => ht h.2)]
      have hA : putA E e = 0 := by unfold putA; rw [if_neg (fun h => ht h.2)]
      have hF : putF E e = 411 := by unfold putF; rw [if_pos hri, if_neg ht]
      rw [hE, hA, hF]
      obtain ⟨q, hq, hqe⟩ : ∃ q, E.getLast? = some q ∧ e.n < q.n := by
        unfold takesB at ht
        cases h : E.getLast? with
        | none => rw [h] at ht; exact absurd rfl ht
        | some q => rw [h] at ht; exact ⟨q, rfl, by simpa using ht⟩
      refine (put_back w R G size E h e eb hri q hq hqe).mono ?_
      rintro en w' ⟨rfl, x, rfl⟩
      exact ⟨rfl, h.up x.up, (Past.of_up x.up).px⟩
  · have hE : putE E e = E := by unfold putE; rw [if_neg (fun h => hri h.1)]
    have hA : putA E e = 0 := by unfold putA; rw [if_neg (fun h => hri h.1)]
    have hF : putF E e = 2 := by unfold putF; rw [if_neg hri]
    rw [hE, hA, hF]
    refine (put_bad w R G size E h e eb (by simpa using hri)).mono ?_
    rintro en w' ⟨rfl, x, rfl⟩
    exact ⟨rfl, h.up x.up, (Past.of_up x.up).px⟩
theorem rput_all (w : World) (base : Nat) (v : Value) (size : Int) (E : List Ev) (ho : w.ownsRow base 34 8 v E.length (evCells E)) (hnil : E = [] → v = .slice none 0 0) (hb : base ≤ w.heap.size) (e : Ev) (eb : EvB e) (hl : E.length < 900000) :
    Calls Tryz.prog 29 #[.agg #[.int .i64 size, v], e.val] w fun en w' => ∃ p n c, en = .returned (.tuple #[.agg #[.int .i64 size, .slice p n c], .int .i64 (putA E e), .int .i64 (putF E e)]) ∧
      w'.ownsRow base 34 8 (.slice p n c) (putE E e).length (evCells (putE E e)) ∧ (putE E e = [] → (.slice p n c : Value) = .slice none 0 0) ∧ ∃ x : Ext w, w' = x.w := by
  have hv := EvRow.of_owns ho
  obtain ⟨p, c, rfl⟩ := hv.shape
  by_cases hri : e.right = true
  · by_cases ht : takesB E e = true
    · have hE : putE E e = E ++ [e] := by unfold putE; rw [if_pos ⟨hri, ht⟩]
      have hA : putA E e = (E.length : Int) := by unfold putA; rw [if_pos ⟨hri, ht⟩]
      have hF : putF E e = 0 := by unfold putF; rw [if_pos hri, if_pos ht]
      rw [hE, hA, hF, evCells_snoc, List.length_append]
      cases hN : E.length with
      | zero =>
        obtain rfl : E = [] := List.eq_nil_of_length_eq_zero hN
        have he := hnil rfl
        simp only [Value.slice.injEq] at he
        obtain ⟨rfl, _, rfl⟩ := he
        refine (rput_first w size e eb hri).mono ?_
        rintro en w' ⟨u, rfl, hu, x, rfl⟩
        obtain ⟨g, cap, rfl, _⟩ := owns_slice hu
        exact ⟨_, _, _, rfl, by simpa [evCells] using owns_base hu hb, fun h => by simp at h, x, rfl⟩
      | succ t =>
        rw [hN] at ho
        obtain ⟨_, _, hge, _, _, _, _⟩ := owns_cells ho (by omega)
        simp only [Value.slice.injEq] at hge
        obtain ⟨rfl, _, rfl⟩ := hge
        obtain ⟨q, hq⟩ : ∃ q, E[t]? = some q := ⟨_, List.getElem?_eq_getElem (by omega)⟩
        have hqe : q.n ≤ e.n := (takesB_iff E e).1 ht q (by rw [List.getLast?_eq_getElem?, hN]; exact hq)
        refine (rput_more w size base t _ _ E ho hN (by omega) e eb hri q hq hqe).mono ?_
        rintro en w' ⟨u, rfl, hu, x, rfl⟩
        obtain ⟨g, cap, rfl, _⟩ := owns_slice hu
        exact ⟨_, _, _, rfl, owns_base hu hb, fun h => by simp at h, x, rfl⟩
    · have hE : putE E e = E := by unfold putE; rw [if_neg (fun h => ht h.2)]
      have hA : putA E e = 0 := by unfold putA; rw [if_neg (fun h => ht h.2)]
      have hF : putF E e = 411 := by unfold putF; rw [if_pos hri, if_neg ht]
      rw [hE, hA, hF]
      refine (rput_back w _ size E hv (by omega) e eb hri (by simpa using ht)).mono ?_
      rintro en w' ⟨rfl, x, rfl⟩
      exact ⟨_, _, _, rfl, owns_up ho x.up, hnil, x, rfl⟩
  · have hE : putE E e = E := by unfold putE; rw [if_neg (fun h => hri h.1)]
    have hA : putA E e = 0 := by unfold putA; rw [if_neg (fun h => hri h.1)]
    have hF : putF E e = 2 := by unfold putF; rw [if_neg hri]
    rw [hE, hA, hF]
    refine (rput_bad w _ size E hv e eb (by simpa using hri)).mono ?_
    rintro en w' ⟨rfl, x, rfl⟩
    exact ⟨_, _, _, rfl, owns_up ho x.up, hnil, x, rfl⟩
set_option maxHeartbeats 64000000 in
set_option maxRecDepth 100000 in
theorem tells_ok (w : World) (size : Nat) (s0 : 1 ≤ size) (s1 : size ≤ 4096) (l : List Ev) (v : Value) (hv : EvRow w v l) (hb : ∀ e ∈ l, EvB e) (hl : l.length ≤ 80) (number : Int) (nb0 : -9223372036854775808 ≤ number) (nb1 : number ≤ 9223372036854775807) :
    Gives Tryz.prog 7 #[.int .i64 (size : Int), v, .int .i64 number] w (.bool true) := by
  have hq1 : (1 : Int) ≤ (size : Int) := by omega
  have hq2 : (size : Int) ≤ 4096 := by omega
  obtain ⟨p, cap, rfl, hc⟩ := hv
  obtain ⟨N, hN⟩ : ∃ N, l.length = N := ⟨_, rfl⟩
  rw [hN] at hc hl ⊢
  have HN := Lib.hid hN
  clear hN
  unfold Gives
  go_enter Tryz.func7, Tryz.ntmps7
  go_wp2_with (first
    | (go_at_call 27; refine (ring_new size _ s0 s1).mono ?_; rintro e w' ⟨R, G, rfl, hring, hR, hG, y, rfl⟩; have Hring := Lib.hid hring; clear hring)
    | (go_at_call 28; refine (rring_new size _ s0 s1).mono ?_; rintro e w' ⟨rfl, z, rfl⟩))
  have m0 : (z.w.alloc (.cells #[.int .i64 (size : Int), .slice none 0 0] 70)).cell? ⟨z.w.heap.size, 0, none⟩ = some (.int .i64 (size : Int)) := by simp [go_sem]
  have m1 : (z.w.alloc (.cells #[.int .i64 (size : Int), .slice none 0 0] 70)).cell? ⟨z.w.heap.size, 1, none⟩ = some (.slice none 0 0) := by simp [go_sem]
  have f0 : (z.w.alloc (.cells #[.int .i64 (size : Int), .slice none 0 0] 70)).frozen? ⟨z.w.heap.size, 0, none⟩ = false := by simp [go_sem]
  have f1 : (z.w.alloc (.cells #[.int .i64 (size : Int), .slice none 0 0] 70)).frozen? ⟨z.w.heap.size, 1, none⟩ = false := by simp [go_sem]
  have uW : UpI w (z.w.alloc (.cells #[.int .i64 (size : Int), .slice none 0 0] 70)) := inferInstance
  have RW := Lib.hid (Hring.out.up (upI : Up y.w (z.w.alloc (.cells #[.int .i64 (size : Int), .slice none 0 0] 70))))
  have hRM := Nat.lt_of_lt_of_le Hring.out.ltR z.up.size
  have hGM := Nat.lt_of_lt_of_le Hring.out.ltG z.up.size
  have hwM : w.heap.size ≤ z.w.heap.size := (upI : Up w z.w).size
  have hMW : z.w.heap.size < (z.w.alloc (.cells #[.int .i64 (size : Int), .slice none 0 0] 70)).heap.size := by simp
  generalize (z.w.alloc (.cells #[.int .i64 (size : Int), .slice none 0 0] 70)) = W at *
  generalize z.w.heap.size = M at *
  clear Hring
  haveI : GeSize w R := ⟨hR⟩
  haveI : GeSize w G := ⟨hG⟩
  haveI : GeSize w M := ⟨hwM⟩
  haveI : LtB R M := ⟨hRM⟩
  haveI : LtB G M := ⟨hGM⟩
  have HRb := Lib.hid (Nat.lt_trans hRM hMW)
  have HGb := Lib.hid (Nat.lt_trans hGM hMW)
  have HMb := Lib.hid hMW
  have neR := Lib.hid (show M ≠ R by omega)
  have neG := Lib.hid (show M ≠ G by omega)
  have Hb := Lib.hid hb
  clear hMW hwM hR hG hb
  go_loopw [51] (fun i wr => ∃ (k : Nat) (E : List Ev) (u : Value), k ≤ N ∧ i = .int .i64 (k : Int) ∧ Hid (Ring wr R G size E) ∧ Hid (wr.ownsRow W.heap.size 34 8 u E.length (evCells E)) ∧ Hid (E = [] → u = .slice none 0 0) ∧ Hid (∀ x ∈ E, EvB x ∧ x.right = true) ∧ E.length ≤ k ∧
    wr.cell? ⟨M, 0, none⟩ = some (.int .i64 (size : Int)) ∧ wr.cell? ⟨M, 1, none⟩ = some u ∧ wr.frozen? ⟨M, 0, none⟩ = false ∧ wr.frozen? ⟨M, 1, none⟩ = false ∧ Hid (W.heap.size ≤ wr.heap.size) ∧ UpI w wr) (fun i _ => N - (intOf i).toNat)
  case atStart => exact ⟨0, [], _, Nat.zero_le _, rfl, RW, Lib.hid (World.ownsRow_nil _ _ _ _), Lib.hid (fun _ => rfl), Lib.hid (fun x hx => by cases hx), Nat.le_refl _, m0, m1, f0, f1, Lib.hid (Nat.le_refl _), uW⟩
  case round =>
    clear m0 m1 f0 f1 uW RW
    obtain ⟨k, E, u, hk, rfl, HR, HO, HNil, HA, hEk, m0, m1, f0, f1, HW, uwr⟩ := hrel
    haveI := uwr
    haveI : LtSize M wr := ⟨cell_lt' m0⟩
    haveI : LtSize R wr := ⟨HR.out.ltR⟩
    haveI : LtSize G wr := ⟨HR.out.ltG⟩
    obtain ⟨pu, cu, rfl⟩ := (EvRow.of_owns HO.out).shape
    by_cases hlt : k < N
    · have hlt' : (k : Int) < (N : Int) := by omega
      obtain ⟨b, o, rfl, hbw, hcc⟩ := hc k hlt
      obtain ⟨e, he⟩ : ∃ e, l[k]? = some e := ⟨_, List.getElem?_eq_getElem (by rw [HN.out]; exact hlt)⟩
      simp only [he, Option.bind_some] at hcc
      have c0 := uwr.up.cell_some' (hcc 0 _ rfl); have c1 := uwr.up.cell_some' (hcc 1 _ rfl); have c2 := uwr.up.cell_some' (hcc 2 _ rfl); have c3 := uwr.up.cell_some' (hcc 3 _ rfl); have c4 := uwr.up.cell_some' (hcc 4 _ rfl); have c5 := uwr.up.cell_some' (hcc 5 _ rfl); have c6 := uwr.up.cell_some' (hcc 6 _ rfl); have c7 := uwr.up.cell_some' (hcc 7 _ rfl)
      rw [Nat.add_zero] at c0
      haveI : LtSize b wr := ⟨Nat.lt_of_lt_of_le hbw uwr.up.size⟩
      have EB := Lib.hid (Hb.out e (List.mem_of_getElem? he))
      have hE9 : E.length < 900000 := by omega
      have hPl := putE_len E e
      obtain ⟨F, hF⟩ : ∃ F, putF E e = F := ⟨_, rfl⟩
      have hFb := putF_bd E e
      rw [hF] at hFb
      obtain ⟨F0, F1⟩ := hFb
      obtain ⟨A, hA⟩ : ∃ A, putA E e = A := ⟨_, rfl⟩
      have HP := Lib.hid (fun W' (h : Up wr W') => put_all W' R G size E (HR.out.up h) e EB.out hE9)
      have HQ := Lib.hid (fun W' v ho hn hb => rput_all W' W.heap.size v (size : Int) E ho hn hb e EB.out hE9)
      rw [hF, hA] at HP HQ
      unfold Ev.val at HP HQ
      clear hF hA hcc he
      go_wp2_with (first
        | (go_at_call 9; refine (HP.out _ upI).mono ?_; rintro en w' ⟨rfl, hring2, z1, rfl⟩; have HR2 := Lib.hid hring2; have HO2 := Lib.hid (owns_past (owns_up HO.out (upI : Up wr _)) z1.past HRb.out HGb.out); have HW2 := Lib.hid (Nat.le_trans HW.out (Nat.le_trans (upI : Up wr _).size z1.past.size)); clear hring2)
        | (go_at_call 29; refine (HQ.out _ _ (owns_up HO2.out upI) HNil.out (Nat.le_trans HW2.out (upI : Up z1.w _).size)).mono ?_; rintro en w' ⟨p2, n2, q2, rfl, hown2, hnil2, z2, rfl⟩; have HO3 := Lib.hid hown2; have HN3 := Lib.hid hnil2; clear hown2 hnil2)
        | (go_at_call 30; refine (agrees_any _ R G size (putE E e) _ (ring_far (ring_far (HR2.out.up upI) neR.out neG.out) neR.out neG.out) (EvRow.of_owns (owns_setBlock (owns_setBlock HO3.out (a := ⟨M, 0, none⟩) HMb.out _) (a := ⟨M, 1, none⟩) HMb.out _)) (fun x hx => (putE_ok HA.out EB.out x hx).2) (by omega) _ (by omega) (by omega) _ EB.out.r0 EB.out.r1).mono ?_; rintro e w' ⟨rfl, z3, rfl⟩))
      go_roundw
      case rel =>
        exact ⟨k + 1, putE E e, _, by omega, by go_num, Lib.hid ((ring_far (ring_far (HR2.out.up z2.up) neR.out neG.out) neR.out neG.out).up z3.up), Lib.hid (owns_up (owns_setBlock (owns_setBlock HO3.out (a := ⟨M, 0, none⟩) HMb.out _) (a := ⟨M, 1, none⟩) HMb.out _) z3.up), HN3, Lib.hid (putE_ok HA.out EB.out), by omega,
          by simp [go_sem, m0], by simp [go_sem, m1], by simp [go_sem, f0], by simp [go_sem, f1], Lib.hid (Nat.le_trans HW2.out (Nat.le_trans (upI : Up z1.w z2.w).size (by have := z3.up.size; simpa using this))), inferInstance⟩
      case measure => simp [intOf]; omega
    · obtain rfl : k = N := by omega
      have hsz : (E.length : Int) - (size : Int) ≤ 1000 := by omega
      have hsz2 : -10000 ≤ (E.length : Int) - (size : Int) := by omega
      go_wp2_with (first
        | (go_at_call 30; refine (agrees_any _ R G size E _ (HR.out.up upI) ((EvRow.of_owns HO.out).up upI) (fun x hx => (HA.out x hx).2) (by omega) _ (by omega) (by omega) _ (by omega) (by omega)).mono ?_; rintro e w' ⟨rfl, z3, rfl⟩))
      go_ret
      exact ⟨rfl, (upI : Up w _).mk⟩
set_option maxHeartbeats 8000000 in
set_option maxRecDepth 100000 in
theorem put_nil (w : World) (e : Ev) : Gives Tryz.prog 9 #[.pointer none, e.val] w (.tuple #[.int .i64 0, .int .i64 1]) := by
  have hno : ∀ w', Gives Tryz.prog 31 #[.pointer none] w' (.bool true) := fun w' => by
    unfold Gives
    go_enter Tryz.func31, Tryz.ntmps31
    go_wp2_with fail
    go_ret
    exact ⟨rfl, mkI⟩
  unfold Gives Ev.val
  go_enter Tryz.func9, Tryz.ntmps9
  go_wp2_with (first
    | (go_at_call 31; refine (hno _).mono ?_; rintro e w' ⟨rfl, x, rfl⟩))
  go_ret2
  exact ⟨rfl, mkI⟩
set_option maxHeartbeats 8000000 in
set_option maxRecDepth 100000 in
theorem tells_no (w : World) (size : Int) (v : Value) (hs : size < 1 ∨ 4096 < size) (number : Int) :
    Gives Tryz.prog 7 #[.int .i64 size, v, .int .i64 number] w (.bool true) := by
  have hp := fun w => put_nil w Ev.zero
  have h1 := Lib.hid (fun w => ring_new_no size w hs)
  have h2 := Lib.hid (fun w => rring_new_no size w hs)
  unfold Ev.val Ev.zero at hp
  simp only at hp
  clear hs
  unfold Gives
  go_enter Tryz.func7, Tryz.ntmps7
  go_wp2_with (first
    | (go_at_call 27; refine (h1.out _).mono ?_; rintro e w' ⟨rfl, y, rfl⟩)
    | (go_at_call 28; refine (h2.out _).mono ?_; rintro e w' ⟨rfl, z, rfl⟩)
    | (go_at_call 9; refine (hp _).mono ?_; rintro e w' ⟨rfl, x, rfl⟩))
  go_ret
  exact ⟨rfl, mkI⟩
theorem tells_any (w : World) (size : Int) (l : List Ev) (v : Value) (hv : EvRow w v l) (hb : ∀ e ∈ l, EvB e) (hl : l.length ≤ 80) (number : Int) (nb0 : -9223372036854775808 ≤ number) (nb1 : number ≤ 9223372036854775807) :
    Gives Tryz.prog 7 #[.int .i64 size, v, .int .i64 number] w (.bool true) := by
  by_cases h : 1 ≤ size ∧ size ≤ 4096
  · obtain ⟨s, rfl⟩ := Int.eq_ofNat_of_zero_le (show 0 ≤ size by omega)
    exact tells_ok w s (by omega) (by omega) l v hv hb hl number nb0 nb1
  · exact tells_no w size v (by omega) number
end Go.Proofs.YtngmcljkmcdlmaaGreatDoor
