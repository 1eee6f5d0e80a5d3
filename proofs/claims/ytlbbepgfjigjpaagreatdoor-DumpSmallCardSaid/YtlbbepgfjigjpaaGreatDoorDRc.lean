/- slices.Equal at strings. Package dump: counters read. Arrays of 31 numbers: compared with themselves, and part by part. -/
import Derived.Test.YtlbbepgfjigjpaaGreatDoorDEx
import Derived.Laws.Tables
import Derived.ChangeKeysEq
namespace Go.Proofs.YtlbbepgfjigjpaaGreatDoor
open Go.RowKit Go.Ab
set_option maxHeartbeats 8000000 in
set_option maxRecDepth 100000 in
theorem equalstr_any (a b : List (List UInt8)) (va vb : Value) (w : World) (ha : StrRow w va a) (hb : StrRow w vb b) (la : a.length ≤ 1000000) (lb : b.length ≤ 1000000) : Gives Tryz.prog 74 #[va, vb] w (.bool (a == b)) := by
  obtain ⟨p, cap, rfl, hle, hc⟩ := ha
  obtain ⟨q, cap2, rfl, hle2, hd⟩ := hb
  obtain ⟨N, hN⟩ : ∃ N, a.length = N := ⟨_, rfl⟩
  obtain ⟨M, hM⟩ : ∃ M, b.length = M := ⟨_, rfl⟩
  rw [hN] at hle la ⊢
  rw [hM] at hle2 lb ⊢
  have HN := Lib.hid hN
  have HM := Lib.hid hM
  have Hc := Lib.hid hc
  have Hd := Lib.hid hd
  clear hN hM hc hd
  unfold Gives
  by_cases hNM : N = M
  · subst hNM
    go_enter Tryz.func74, Tryz.ntmps74
    go_wp2_with fail
    go_loopw [13] (fun i wr => ∃ k : Nat, k ≤ N ∧ i = .int .i64 (k : Int) ∧ Hid (∀ j, j < k → a[j]? = b[j]?) ∧ ∃ x : Ext w, wr = x.w) (fun i _ => N - (intOf i).toNat)
    case atStart => exact ⟨0, Nat.zero_le _, rfl, Lib.hid (fun j hj => absurd hj (Nat.not_lt_zero j)), (Up.refl w).mk⟩
    case round =>
      obtain ⟨k, hk, rfl, Hk, x0, rfl⟩ := hrel
      by_cases hlt : k < N
      · have hlt' : (k : Int) < (N : Int) := by omega
        have k0 : (0 : Int) ≤ (k : Int) := by omega
        obtain ⟨s, hs⟩ : ∃ s, a[k]? = some s := ⟨_, List.getElem?_eq_getElem (by rw [HN.out]; exact hlt)⟩
        obtain ⟨t, ht⟩ : ∃ t, b[k]? = some t := ⟨_, List.getElem?_eq_getElem (by rw [HM.out]; exact hlt)⟩
        obtain ⟨b1, o1, rfl, hb1, hc1⟩ := Hc.out k s hs
        obtain ⟨b2, o2, rfl, hb2, hc2⟩ := Hd.out k t ht
        have c1 := hc1 0 _ rfl
        have c2 := hc2 0 _ rfl
        rw [Nat.add_zero, Nat.mul_one] at c1 c2
        haveI : LtSize b1 w := ⟨hb1⟩
        haveI : LtSize b2 w := ⟨hb2⟩
        have Hs := Lib.hid hs
        have Ht := Lib.hid ht
        clear hc1 hc2 hs ht
        cases he : (s == t)
        · have E := Lib.hid (list_ne_at Hs.out Ht.out (fun e => by rw [e] at he; simp at he))
          go_wp2_with fail
          (refine wp_region_ext (by kernel_rfl) (by kernel_rfl) ?_; (repeat (go_big_quiet_step (fail))); refine wpQuiet_nil ?_; rintro _ ⟨y, rfl⟩)
          go_wp2_with fail
          go_ret
          exact ⟨ret_bool E.out.symm, mkI⟩
        · have E := Lib.hid (show a[k]? = b[k]? by rw [Hs.out, Ht.out]; simpa using he)
          go_wp2_with fail
          (refine wp_region_ext (by kernel_rfl) (by kernel_rfl) ?_; (repeat (go_big_quiet_step (fail))); refine wpQuiet_nil ?_; rintro _ ⟨y, rfl⟩)
          go_wp2_with fail
          go_roundw
          case rel => exact ⟨k + 1, by omega, by go_num, Lib.hid (fun j hj => by rcases Nat.lt_or_eq_of_le (Nat.le_of_lt_succ hj) with h | h; exact Hk.out j h; rw [h]; exact E.out), mkI⟩
          case measure => simp [intOf]; omega
      · have hlt' : (N : Int) ≤ (k : Int) := by omega
        have E := Lib.hid (show (a == b) = true by
          rw [beq_iff_eq]
          apply List.ext_getElem?
          intro j
          by_cases hj : j < N
          · exact Hk.out j (by omega)
          · rw [List.getElem?_eq_none (by rw [HN.out]; omega), List.getElem?_eq_none (by rw [HM.out]; omega)])
        clear hk hlt
        go_wp2_with fail
        go_ret
        exact ⟨ret_bool E.out.symm, mkI⟩
  · have E := Lib.hid (show (a == b) = false by
      rw [beq_eq_false_iff_ne]
      rintro rfl
      exact hNM (HN.out.symm.trans HM.out))
    have hNM' : ((N : Int) == (M : Int)) = false := by rw [beq_eq_false_iff_ne]; omega
    go_enter Tryz.func74, Tryz.ntmps74
    go_wp2_with fail
    go_ret
    exact ⟨ret_bool E.out.symm, mkI⟩
end Go.Proofs.YtlbbepgfjigjpaaGreatDoor
namespace Go.Ab
open Go.RowKit Go.Proofs.YtlbbepgfjigjpaaGreatDoor
theorem countW_len (r : Nat) (n : Int) : (countW r n).length ≤ 1 := by unfold countW; split <;> simp
theorem countsFrom_len : ∀ (t : List Int) (r : Nat), (countsFrom r t).length ≤ t.length
  | [], _ => Nat.le_refl _
  | n :: t, r => by have h1 := countW_len r n; have h2 := countsFrom_len t (r + 1); rw [countsFrom, List.length_append, List.length_cons]; omega
theorem countsL_len (c : List Int) : (countsL c).length ≤ c.length := countsFrom_len c 0
def rcV (l : List (List UInt8)) : List Int := (readC l).getD zeroC
def rcE (l : List (List UInt8)) : Int := if (readC l).isSome then 0 else 382
def intCellsA (c : List Int) : Array Value := (c.map (Value.int .i64)).toArray
theorem intCellsA_size (c : List Int) : (intCellsA c).size = c.length := by simp [intCellsA]
theorem up_setRow {w W : World} {g : Nat} (h : Up w W) (hg : w.heap.size ≤ g) (cs : Array Value) : Up w (W.setRow g cs) := Below.trans h ⟨rfl, rfl, rfl, by simp [World.setRow], fun k hk => setRow_other W g k cs (by omega)⟩
theorem intCellsA_one (c : List Int) : (intCellsA c).all (·.oneCell') = true := Array.all_eq_true_iff_forall_mem.2 (fun v hv => by simp [intCellsA] at hv; obtain ⟨n, _, rfl⟩ := hv; rfl)
theorem intCellsA_set (c : List Int) (i : Nat) (n : Int) : (intCellsA c).setIfInBounds i (.int .i64 n) = intCellsA (c.set i n) := by simp [intCellsA, List.map_set]
theorem intCellsA_at (c : List Int) (i : Nat) (h : i < c.length) : ∃ u, (intCellsA c)[i]? = some u := ⟨.int .i64 c[i], by simp [intCellsA, h]⟩
theorem foldC_step {c c' : List Int} {l : List (List UInt8)} {k : Nat} {s : List UInt8} (hs : l[k]? = some s) (h : stepC c s = some c') : foldC c (l.drop k) = foldC c' (l.drop (k + 1)) := by
  obtain ⟨hk, rfl⟩ := List.getElem?_eq_some_iff.1 hs
  rw [List.drop_eq_getElem_cons hk, foldC, h]
theorem foldC_stop {c : List Int} {l : List (List UInt8)} {k : Nat} {s : List UInt8} (hs : l[k]? = some s) (h : stepC c s = none) : foldC c (l.drop k) = none := by
  obtain ⟨hk, rfl⟩ := List.getElem?_eq_some_iff.1 hs
  rw [List.drop_eq_getElem_cons hk, foldC, h]
def BdC (c : List Int) : Prop := c.length = 31 ∧ ∀ n ∈ c, -9223372036854775808 ≤ n ∧ n ≤ 9223372036854775807
theorem BdC.zero : BdC zeroC := ⟨rfl, fun n hn => by rw [List.eq_of_mem_replicate hn]; decide⟩
theorem BdC.set {c : List Int} (h : BdC c) (i : Nat) (n : Int) (hn : -9223372036854775808 ≤ n ∧ n ≤ 9223372036854775807) : BdC (c.set i n) :=
  ⟨by rw [List.length_set]; exact h.1, fun m hm => by
    rcases List.mem_or_eq_of_mem_set hm with hm | rfl
    · exact h.2 m hm
    · exact hn⟩
end Go.Ab
namespace Go.Proofs.YtlbbepgfjigjpaaGreatDoor
open Go.RowKit Go.Ab
theorem arrSize : (Tryz.prog.info? 45).map (·.size) = some 31 := by kernel_rfl
set_option maxHeartbeats 16000000 in
set_option maxRecDepth 100000 in
theorem dreadcounts_any (l : List (List UInt8)) (v : Value) (w : World) (g : GoodD w) (hv : StrRow w v l) (hb : ∀ s ∈ l, s.length ≤ 1000000) (hl : l.length ≤ 1000000) :
    Calls Tryz.prog 39 #[v] w fun e w' => e = .returned (.tuple #[.agg (intCellsA (rcV l)), .int .i64 (rcE l)]) ∧ ∃ x : Ext w, w' = x.w := by
  have hv2 := hv
  obtain ⟨p, cap, rfl, hle, hc⟩ := hv
  obtain ⟨N, hN⟩ : ∃ N, l.length = N := ⟨_, rfl⟩
  rw [hN] at hle hl hv2 ⊢
  have HN := Lib.hid hN
  have Hc := Lib.hid hc
  have Hb := Lib.hid hb
  have HV := Lib.hid hv2
  clear hN hc hb hv2
  go_enter Tryz.func39, Tryz.ntmps39
  go_wp2_with fail
  obtain ⟨B, hB⟩ : ∃ B, w.heap.size = B := ⟨_, rfl⟩
  rw [hB]
  go_loopw [18] (fun i wr => ∃ (k : Nat) (c : List Int), k ≤ N ∧ i = .int .i64 (k : Int) ∧ Hid (BdC c ∧ foldC c (l.drop k) = foldC zeroC l) ∧ Up w wr ∧ B + 1 < wr.heap.size ∧ Hid (wr.heap[B + 1]? = some (.cells (intCellsA c) 45 (0, 0))) ∧ Hid (wr.heap[B]? = some (.cells (intCellsA zeroC) 45 (0, 0)))) (fun i _ => N - (intOf i).toNat)
  case atStart => exact ⟨0, zeroC, Nat.zero_le _, rfl, Lib.hid ⟨BdC.zero, by rw [List.drop_zero]⟩, upI, by simp; omega, Lib.hid (alloc_new (by simp [hB])), Lib.hid ((Below.heap_alloc _ _ _ (by simp; omega)).trans (alloc_new hB))⟩
  case round =>
    obtain ⟨k, c, hk, rfl, Hf, hu, hsz, HB1, HB0⟩ := hrel
    haveI : UpI w wr := ⟨hu⟩
    haveI : LtSize (B + 1) wr := ⟨hsz⟩
    haveI : LtSize B wr := ⟨by omega⟩
    by_cases hlt : k < N
    · have hlt' : (k : Int) < (N : Int) := by omega
      have k0 : (0 : Int) ≤ (k : Int) := by omega
      obtain ⟨s, hs⟩ : ∃ s, l[k]? = some s := ⟨_, List.getElem?_eq_getElem (by rw [HN.out]; exact hlt)⟩
      obtain ⟨b1, o1, rfl, hb1, hc1⟩ := Hc.out k s hs
      have c1 := hu.cell_some (hc1 0 _ rfl)
      rw [Nat.add_zero, Nat.mul_one] at c1
      haveI : LtSize b1 wr := ⟨Nat.lt_of_lt_of_le hb1 hu.size⟩
      have sl := Hb.out s (List.mem_of_getElem? hs)
      obtain ⟨l1, l2⟩ := cutC_len 32 s
      have hcut : ∀ W, Go.Proofs.YtlbbepgfjigjpaaGreatDoor.Good W → Gives Tryz.prog 72 #[.string ⟨s.toArray⟩, .string ⟨#[32]⟩] W (.tuple #[.string ⟨(cutC 32 s).1.toArray⟩, .string ⟨(cutC 32 s).2.1.toArray⟩, .bool (cutC 32 s).2.2]) := fun W g => scut1_any s 32 W g (by omega)
      have hat : ∀ W, Go.Proofs.YtlbbepgfjigjpaaGreatDoor.Good W → Calls Tryz.prog 48 #[.string ⟨(cutC 32 s).2.1.toArray⟩] W fun e w' => ∃ ev, e = .returned (.tuple #[.int .i64 (atoiV (cutC 32 s).2.1), ev]) ∧ ∃ x : Ext W, w' = x.w := fun W g => datoi_any _ W g (by omega)
      have hrs : ∀ W, GoodN W → Gives Tryz.prog 73 #[.string ⟨(cutC 32 s).1.toArray⟩] W (.tuple #[.int .u8 (rsN (cutC 32 s).1), .int .i64 (rsE (cutC 32 s).1)]) := fun W g => reason_any _ W g
      by_cases hE : rsE (cutC 32 s).1 = 0
      · obtain ⟨r0, r1⟩ := drs_bd _ hE
        obtain ⟨r, hr⟩ : ∃ r : Nat, rsN (cutC 32 s).1 = (r : Int) := ⟨(rsN (cutC 32 s).1).toNat, by omega⟩
        have hstep : stepC c s = some (c.set r (atoiV (cutC 32 s).2.1)) := by unfold stepC; rw [if_pos hE, hr]; rfl
        rw [hr] at hrs r0 r1
        rw [hE] at hrs
        have Hn := Lib.hid (⟨Hf.out.1.set r _ (atoiV_bounds (cutC 32 s).2.1), (foldC_step hs hstep).symm.trans Hf.out.2⟩ : BdC (c.set r (atoiV (cutC 32 s).2.1)) ∧ foldC (c.set r (atoiV (cutC 32 s).2.1)) (l.drop (k + 1)) = foldC zeroC l)
        obtain ⟨u, hu1⟩ := intCellsA_at c r (by rw [Hf.out.1.1]; omega)
        have rr0 : (0 : Int) ≤ (r : Int) := by omega
        have rr1 : (r : Int) < 31 := by omega
        have cc : wr.cell? ⟨B + 1, r, none⟩ = some u := by rw [cell_of_row wr (B + 1) r _ _ _ HB1.out]; exact hu1
        have cf : wr.frozen? ⟨B + 1, r, none⟩ = false := frozen_of_row wr (B + 1) r _ _ HB1.out
        clear hr hE hstep hu1 l1 l2 hs hc1 sl
        generalize atoiV (cutC 32 s).2.1 = n at *
        generalize (cutC 32 s).2.1 = num at *
        generalize (cutC 32 s).2.2 = fl at *
        generalize (cutC 32 s).1 = nm at *
        go_wp2_with (first
          | (go_at_call 72; refine (hcut _ (g.good.up upI)).mono ?_; rintro e w' ⟨rfl, z1, rfl⟩)
          | (go_at_call 48; refine (hat _ (g.good.up upI)).mono ?_; rintro e w' ⟨ev, rfl, z2, rfl⟩)
          | (go_at_call 73; refine (hrs _ (g.goodN.up upI)).mono ?_; rintro e w' ⟨rfl, z3, rfl⟩))
        have up3 : Up w z3.w := upI
        refine ⟨⟨k + 1, c.set r n, by omega, by go_num, Hn, up3.setCell (show w.heap.size ≤ B + 1 by omega) _, by rw [World.size_setCell]; exact lt_of_size z3.w (B + 1), Lib.hid ?_, Lib.hid ?_⟩, by simp [intOf]; omega⟩
        · rw [heap_setCell_same z3.w (B + 1) r (intCellsA c) _ _ (((upI : Up wr z3.w).block (B + 1) hsz).trans HB1.out), intCellsA_set]
        · exact (Below.heap_setCell _ _ _ _ (by simp)).trans (((upI : Up wr z3.w).block B (by omega)).trans HB0.out)
      · have hR : readC l = none := by
          unfold readC
          rw [← Hf.out.2, foldC_stop hs (by unfold stepC; rw [if_neg hE])]
        have HR := Lib.hid hR
        have hE2 : (rsE (cutC 32 s).1 == 0) = false := by rw [beq_eq_false_iff_ne]; exact hE
        clear hR l1 l2 hs hc1 sl
        generalize rsE (cutC 32 s).1 = er at *
        generalize rsN (cutC 32 s).1 = rn at *
        generalize atoiV (cutC 32 s).2.1 = n at *
        generalize (cutC 32 s).2.1 = num at *
        generalize (cutC 32 s).2.2 = fl at *
        generalize (cutC 32 s).1 = nm at *
        go_upto_region 9 with (first
          | (go_at_call 72; refine (hcut _ (g.good.up upI)).mono ?_; rintro e w' ⟨rfl, z1, rfl⟩)
          | (go_at_call 48; refine (hat _ (g.good.up upI)).mono ?_; rintro e w' ⟨ev, rfl, z2, rfl⟩)
          | (go_at_call 73; refine (hrs _ (g.goodN.up upI)).mono ?_; rintro e w' ⟨rfl, z3, rfl⟩))
        have hz3 := ((upI : Up wr z3.w).block B (by omega)).trans HB0.out
        refine wp_region_lit ?_
        refine wpList_step (fun K hK => ?_)
        go_simp
        refine hK _ _ ?_; clear hK K
        refine wpList_store_row rfl 45 _ _ rfl B (intCellsA zeroC) rfl rfl 45 (intCellsA zeroC) hz3 arrSize rfl (intCellsA_one _) ?_
        have hz4 := setRow_heap z3.w B _ (intCellsA zeroC) _ _ hz3
        go_wp2_with fail
        refine bodyPost_ret (v := .tuple #[.agg (intCellsA zeroC), .int .i64 382]) (by simp [results, Tryz.results39, asAddr, run_loadVar_row _ B 45 45 (intCellsA zeroC) (0, 0) _ hz4 Tryz.underlying45 rfl arrSize]) rfl ?_
        exact ⟨by unfold rcV rcE; rw [HR.out]; rfl, (up_setRow (upI : Up w z3.w) (by omega) _).mk⟩
    · obtain rfl : k = N := by omega
      have hf : foldC zeroC l = some c := by rw [← Hf.out.2, List.drop_of_length_le (by rw [HN.out]; exact Nat.le_refl _)]; rfl
      have hcs : (Tryz.prog.info? 45).map (·.size) = some (intCellsA c).size := by rw [intCellsA_size, Hf.out.1.1]; exact arrSize
      have h31 := Hf.out.1.1
      have hcnt : ∀ W, GoodD W → Calls Tryz.prog 11 #[.agg (intCellsA c)] W fun e w' => countsE c W e w' 9 ∧ ∃ x : Ext W, w' = x.w := fun W g => dcounts_any c W g Hf.out.1.1 Hf.out.1.2
      have hR : readC l = if (c.all fun n => decide (0 ≤ n)) && (countsL c == l) then some c else none := by unfold readC; rw [hf]
      have hL31 := countsL_len c
      clear hlt hk
      cases hall : (c.all fun n => decide (0 ≤ n))
      · rw [hall, Bool.false_and] at hR
        have HR := Lib.hid hR
        clear hR hf hL31
        have hcnt2 : ∀ W, GoodD W → Gives Tryz.prog 11 #[.agg (intCellsA c)] W (.tuple #[.slice none 0 0, .int .i64 2]) := fun W g => (hcnt W g).mono fun e w' ⟨h1, h2⟩ => by
          unfold countsE at h1; rw [hall] at h1; exact ⟨h1, h2⟩
        clear hcnt
        go_upto_region 14 with (first
          | (refine wpList_load_row rfl 45 _ rfl _ rfl 45 (intCellsA c) (0, 0) _ HB1.out Tryz.underlying45 rfl hcs ?_)
          | (go_at_call 11; refine (hcnt2 _ (g.up upI)).mono ?_; rintro e w' ⟨rfl, z1, rfl⟩))
        have hz3 := ((upI : Up wr z1.w).block B (by omega)).trans HB0.out
        refine wp_region_lit ?_
        refine wpList_step (fun K hK => ?_)
        go_simp
        refine hK _ _ ?_; clear hK K
        refine wpList_store_row rfl 45 _ _ rfl B (intCellsA zeroC) rfl rfl 45 (intCellsA zeroC) hz3 arrSize rfl (intCellsA_one _) ?_
        have hz4 := setRow_heap z1.w B _ (intCellsA zeroC) _ _ hz3
        go_wp2_with fail
        refine bodyPost_ret (v := .tuple #[.agg (intCellsA zeroC), .int .i64 382]) (by simp [results, Tryz.results39, asAddr, run_loadVar_row _ B 45 45 (intCellsA zeroC) (0, 0) _ hz4 Tryz.underlying45 rfl arrSize]) rfl ?_
        exact ⟨by unfold rcV rcE; rw [HR.out]; rfl, (up_setRow (upI : Up w z1.w) (by omega) _).mk⟩
      · rw [hall, Bool.true_and] at hR
        have hcnt2 : ∀ W, GoodD W → Calls Tryz.prog 11 #[.agg (intCellsA c)] W fun e w' => ∃ u, e = .returned (.tuple #[u, .int .i64 0]) ∧ StrRow w' u (countsL c) ∧ ∃ x : Ext W, w' = x.w := fun W g => (hcnt W g).mono fun e w' ⟨h1, h2⟩ => by
          unfold countsE at h1; rw [hall] at h1
          obtain ⟨u, h3, h4⟩ := h1
          exact ⟨u, h3, StrRow.of_owns h4, h2⟩
        have hq2 : ∀ W u, UpI w W → StrRow W u (countsL c) → Gives Tryz.prog 74 #[u, .slice p k cap] W (.bool (countsL c == l)) := fun W u hu h => equalstr_any (countsL c) l _ _ W h (HV.out.up hu.up) (by omega) (by rw [HN.out]; exact hl)
        clear hcnt hf
        cases hq : (countsL c == l)
        · rw [hq] at hR hq2
          have HR := Lib.hid hR
          clear hR hL31
          go_upto_region 14 with (first
            | (refine wpList_load_row rfl 45 _ rfl _ rfl 45 (intCellsA c) (0, 0) _ HB1.out Tryz.underlying45 rfl hcs ?_)
            | (go_at_call 11; refine (hcnt2 _ (g.up upI)).mono ?_; rintro e w' ⟨u, rfl, hu2, z1, rfl⟩)
            | (go_at_call 74; refine (hq2 _ _ inferInstance (RowOf.up hu2 upI)).mono ?_; rintro e w' ⟨rfl, z2, rfl⟩))
          have hz3 := ((upI : Up wr z2.w).block B (by omega)).trans HB0.out
          refine wp_region_lit ?_
          refine wpList_step (fun K hK => ?_)
          go_simp
          refine hK _ _ ?_; clear hK K
          refine wpList_store_row rfl 45 _ _ rfl B (intCellsA zeroC) rfl rfl 45 (intCellsA zeroC) hz3 arrSize rfl (intCellsA_one _) ?_
          have hz4 := setRow_heap z2.w B _ (intCellsA zeroC) _ _ hz3
          go_wp2_with fail
          refine bodyPost_ret (v := .tuple #[.agg (intCellsA zeroC), .int .i64 382]) (by simp [results, Tryz.results39, asAddr, run_loadVar_row _ B 45 45 (intCellsA zeroC) (0, 0) _ hz4 Tryz.underlying45 rfl arrSize]) rfl ?_
          exact ⟨by unfold rcV rcE; rw [HR.out]; rfl, (up_setRow (upI : Up w z2.w) (by omega) _).mk⟩
        · rw [hq] at hR hq2
          have HR := Lib.hid hR
          clear hR hL31
          go_upto_region 15 with (first
            | (refine wpList_load_row rfl 45 _ rfl _ rfl 45 (intCellsA c) (0, 0) _ HB1.out Tryz.underlying45 rfl hcs ?_)
            | (go_at_call 11; refine (hcnt2 _ (g.up upI)).mono ?_; rintro e w' ⟨u, rfl, hu2, z1, rfl⟩)
            | (go_at_call 74; refine (hq2 _ _ inferInstance (RowOf.up hu2 upI)).mono ?_; rintro e w' ⟨rfl, z2, rfl⟩))
          have hz1 := ((upI : Up wr z2.w).block (B + 1) hsz).trans HB1.out
          have hz3 := ((upI : Up wr z2.w).block B (by omega)).trans HB0.out
          refine wp_region_lit ?_
          refine wpList_load_row rfl 45 _ rfl _ rfl 45 (intCellsA c) (0, 0) _ hz1 Tryz.underlying45 rfl hcs ?_
          refine wpList_store_row rfl 45 _ _ rfl B (intCellsA c) rfl rfl 45 (intCellsA zeroC) hz3 hcs (by rw [intCellsA_size, intCellsA_size, h31]; rfl) (intCellsA_one _) ?_
          have hz4 := setRow_heap z2.w B _ (intCellsA c) _ _ hz3
          go_wp2_with fail
          refine bodyPost_ret (v := .tuple #[.agg (intCellsA c), .int .i64 0]) (by simp [results, Tryz.results39, asAddr, run_loadVar_row _ B 45 45 (intCellsA c) (0, 0) _ hz4 Tryz.underlying45 rfl hcs]) rfl ?_
          exact ⟨by unfold rcV rcE; rw [HR.out]; rfl, (up_setRow (upI : Up w z2.w) (by omega) _).mk⟩
end Go.Proofs.YtlbbepgfjigjpaaGreatDoor
namespace Go.Ab
open Go.RowKit Go.Proofs.YtlbbepgfjigjpaaGreatDoor
theorem intCellsA_get {c : List Int} {i : Nat} {n : Int} (h : c[i]? = some n) : (intCellsA c)[i]? = some (.int .i64 n) := by
  unfold intCellsA; rw [List.getElem?_toArray, List.getElem?_map, h]; rfl
theorem part1 {P : Program} (w : World) (e : TypeId) (xs : Array Value) (i : Nat) (v : Value) {d : TypeDesc} (hu : P.underlying e = some d) (hd : (match d with | .struct _ | .array _ _ => true | _ => false) = false) (h : xs[i]? = some v) : (part e xs i).run P w = .ok v w := by
  have hagg : (isAgg e).run P w = .ok false w := by
    unfold isAgg
    rw [Sem.run_bind, run_underlying hu w]
    cases d <;> simp_all
  simp [part, Sem.run_bind, hagg, h]
end Go.Ab
namespace Go.Proofs.YtlbbepgfjigjpaaGreatDoor
open Go.RowKit Go.Ab
theorem eqItems_self (w : World) (d : Nat) (c : List Int) : ∀ is : List Nat, (∀ i ∈ is, i < c.length) → (Op.eqItems (d + 1) 3 1 (intCellsA c) (intCellsA c) is).run Tryz.prog w = .ok true w
  | [], _ => by simp [Op.eqItems]
  | i :: is, h => by
    have hi := h i (by simp)
    have p := part1 (P := Tryz.prog) w 3 (intCellsA c) i _ Tryz.underlying3 rfl (intCellsA_get (List.getElem?_eq_getElem hi))
    have e := run_equalIn_int (P := Tryz.prog) w d 3 .i64 .i64 c[i] c[i] Tryz.underlying3
    simp only [Op.eqItems, Sem.run_bind, Nat.mul_one, p, e, Result.andThen_ok]
    simp [eqItems_self w d c is fun j hj => h j (by simp [hj])]
class IArr (cs : Array Value) : Prop where
  ok : ∃ c : List Int, c.length = 31 ∧ cs = intCellsA c
theorem eq_arr (w : World) (cs : Array Value) [h : IArr cs] : (Op.equalIn 10000 45 (.agg cs) (.agg cs)).run Tryz.prog w = .ok true w := by
  obtain ⟨c, hc, rfl⟩ := h.ok
  refine (run_equalIn_array (P := Tryz.prog) (w := w) 9999 (t := 45) (e := 3) (n := 31) (i := (Tryz.prog.info? 3).getD default) _ _ Tryz.underlying45 (by kernel_rfl)).trans ?_
  rw [show Tryz.prog.cellsOf 3 = 1 by kernel_rfl]
  exact eqItems_self w 9998 c _ fun i hi => by rw [hc]; exact List.mem_range.1 hi
end Go.Proofs.YtlbbepgfjigjpaaGreatDoor
