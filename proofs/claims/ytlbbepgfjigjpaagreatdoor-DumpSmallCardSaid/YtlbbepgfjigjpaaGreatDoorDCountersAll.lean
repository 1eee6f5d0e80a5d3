/- DumpCounters, walked: Counts and ReadCounts of package dump against the reference. -/
import Derived.Test.YtlbbepgfjigjpaaGreatDoorRd4
import Derived.Test.YtlbbepgfjigjpaaGreatDoorRfB
import Derived.Test.YtlbbepgfjigjpaaGreatDoorDRc
import Derived.Test.YtlbbepgfjigjpaaGreatDoorDAw
namespace Go.Ab
open Go.RowKit Go.Proofs.YtlbbepgfjigjpaaGreatDoor
theorem stepC_bd2 {c c' : List Int} {s : List UInt8} (h : stepC c s = some c') (hb : BdC c) : BdC c' := by
  unfold stepC at h
  split at h
  · cases h; exact hb.set _ _ (atoiV_bounds _)
  · cases h
theorem foldC_bd2 : ∀ (l : List (List UInt8)) (c c' : List Int), foldC c l = some c' → BdC c → BdC c'
  | [], c, c', h, hb => by rw [foldC] at h; cases h; exact hb
  | s :: t, c, c', h, hb => by
    rw [foldC] at h
    cases hs : stepC c s with
    | none => rw [hs] at h; cases h
    | some c1 => rw [hs] at h; exact foldC_bd2 t c1 c' h (stepC_bd2 hs hb)
theorem readC_bd2 {l : List (List UInt8)} {c : List Int} (h : readC l = some c) : BdC c := by
  unfold readC at h
  split at h
  · cases h
  · rename_i c1 h1
    split at h
    · cases h; exact foldC_bd2 l _ _ h1 BdC.zero
    · cases h
end Go.Ab
namespace Go.Proofs.YtlbbepgfjigjpaaGreatDoor
open Go.RowKit Go.Ab
theorem load_rowG2 {P : Program} {ops : Array Oper} {rest : List Oper} {o : Oper} {a : Act} {w : World} {Q : Exit → Act → World → Prop} (ty : TypeId) (x : Operand) (ho : o.op = .load ty x) (g : Nat) (hx : a.eval x = .pointer (some ⟨g, 0, none⟩)) (hw : Region.wanted o (yielded ops a.tmps) = true) (t : TypeId) (cs : Array Value) (fr : Nat × Nat) (d : TypeDesc) (hg : w.heap[g]? = some (.cells cs t fr))
    (hu : P.underlying ty = some d) (hd : (match d with | .struct _ | .array _ _ => true | _ => false) = true) (hi : (P.info? ty).map (·.size) = some cs.size)
    (h : wpList P ops Q rest (a.put o.dst (.agg cs)) w) : wpList P ops Q (o :: rest) a w :=
  wpList_step fun K hK => by rw [if_pos hw]; exact wp_load_row ty x ho g hx t cs fr d hg hu hd hi (hK _ _ h)
attribute [local go_sem high] eq_arr
set_option maxHeartbeats 32000000 in
set_option maxRecDepth 100000 in
theorem counters_any (c : List Int) (l : List (List UInt8)) (v : Value) (w : World) (g : GoodD w) (hc : c.length = 31) (hb : ∀ n ∈ c, -9223372036854775808 ≤ n ∧ n ≤ 9223372036854775807) (hv : StrRow w v l) (hno : NilOk v) :
    Gives Tryz.prog 12 #[.agg (intCellsA c), v] w (.bool true) := by
  have hv2 := hv
  obtain ⟨p, cap, rfl, hle, hcl⟩ := hv
  obtain ⟨N, hN⟩ : ∃ N, l.length = N := ⟨_, rfl⟩
  rw [hN] at hle hv2 hno ⊢
  have HN := Lib.hid hN
  have Hc := Lib.hid hcl
  have HV := Lib.hid hv2
  have HO := Lib.hid hno
  clear hN hcl hv2 hno
  obtain ⟨cl, ec, hcl31, hE⟩ : ∃ (cl : List (List UInt8)) (ec : Int), cl.length ≤ 31 ∧ ∀ (t : TypeId) (W : World) (e : Ending) (w' : World), countsE c W e w' t → ∃ q n c2, e = .returned (.tuple #[.slice q n c2, .int .i64 ec]) ∧ StrRow w' (.slice q n c2) cl := by
    unfold countsE
    cases c.all fun n => decide (0 ≤ n)
    · exact ⟨[], 2, Nat.zero_le _, fun t W e w' h => ⟨none, 0, 0, h, RowOf.nil _⟩⟩
    · refine ⟨countsL c, 0, by rw [← hc]; exact countsL_len c, fun t W e w' h => ?_⟩
      obtain ⟨u, h1, h2⟩ := h
      have h3 := StrRow.of_owns h2
      have h4 := h3
      obtain ⟨q, c2, rfl, _⟩ := h4
      exact ⟨q, _, c2, h1, h3⟩
  have hcnt : ∀ W, GoodD W → Calls Tryz.prog 11 #[.agg (intCellsA c)] W fun e w' => ∃ q n c2, e = .returned (.tuple #[.slice q n c2, .int .i64 ec]) ∧ StrRow w' (.slice q n c2) cl ∧ ∃ x : Ext W, w' = x.w := fun W g => (dcounts_any c W g hc hb).mono fun e w' ⟨h1, h2⟩ => by
    obtain ⟨q, n, c2, h3, h4⟩ := hE _ _ _ _ h1
    exact ⟨q, n, c2, h3, h4, h2⟩
  have hcntR : ∀ W, Calls Tryz.prog 38 #[.agg (intCellsA c)] W fun e w' => ∃ q n c2, e = .returned (.tuple #[.slice q n c2, .int .i64 ec]) ∧ StrRow w' (.slice q n c2) cl ∧ ∃ x : Ext W, w' = x.w := fun W => (rcounts_any c W hc hb).mono fun e w' ⟨h1, h2⟩ => by
    obtain ⟨q, n, c2, h3, h4⟩ := hE _ _ _ _ h1
    exact ⟨q, n, c2, h3, h4, h2⟩
  have hcs : (Tryz.prog.info? 45).map (·.size) = some (intCellsA c).size := by rw [intCellsA_size, hc]; exact arrSize
  clear hE
  generalize intCellsA c = cs at *
  unfold Gives
  go_enter Tryz.func12, Tryz.ntmps12
  go_upto_region 1 with fail
  obtain ⟨A, hA⟩ : ∃ A, w.heap.size = A := ⟨_, rfl⟩
  rw [hA]
  refine wp_letter (fun W => Up w W ∧ A < W.heap.size ∧ W.heap[A]? = some (.cells cs 45 (0, 0)))
    ⟨upI, by rw [World.size_alloc]; omega, alloc_new hA⟩ ?_
  rintro W ⟨uW, hAW, hrA⟩
  haveI : UpI w W := ⟨uW⟩
  have HrA := Lib.hid hrA
  clear hrA
  by_cases h60 : 60 < N
  · have h60' : (60 : Int) < (N : Int) := by omega
    go_wp2_with fail
    go_ret
    exact ⟨rfl, mkI⟩
  · have h60' : (N : Int) ≤ 60 := by omega
    have hN60 : N ≤ 60 := by omega
    clear h60
    go_upto_region 4 with fail
    go_loopw [21] (fun i wr => ∃ k : Nat, k ≤ N ∧ i = .int .i64 (k : Int) ∧ Hid (∀ (j : Nat) (s : List UInt8), j < k → l[j]? = some s → s.length ≤ 200) ∧ wr = W) (fun i _ => N - (intOf i).toNat)
    case atStart => exact ⟨0, Nat.zero_le _, rfl, Lib.hid (fun j s h => absurd h (Nat.not_lt_zero j)), rfl⟩
    case round =>
      obtain ⟨k, hk, rfl, Hk, hw⟩ := hrel
      rw [hw]
      clear hw
      by_cases hlt : k < N
      · have hlt' : (k : Int) < (N : Int) := by omega
        have k0 : (0 : Int) ≤ (k : Int) := by omega
        obtain ⟨s, hs⟩ : ∃ s, l[k]? = some s := ⟨_, List.getElem?_eq_getElem (by rw [HN.out]; exact hlt)⟩
        obtain ⟨b1, o1, rfl, hb1, hc1⟩ := Hc.out k s hs
        have c1 := uW.cell_some (hc1 0 _ rfl)
        rw [Nat.add_zero, Nat.mul_one] at c1
        haveI : LtSize b1 W := ⟨Nat.lt_of_lt_of_le hb1 uW.size⟩
        have Hs := Lib.hid hs
        clear hs hc1
        by_cases h200 : 200 < s.length
        · have h200' : (200 : Int) < (s.length : Int) := by omega
          go_wp2_with fail
          go_ret
          exact ⟨rfl, mkI⟩
        · have h200' : (s.length : Int) ≤ 200 := by omega
          go_wp2_with fail
          go_roundw
          case rel => exact ⟨k + 1, by omega, by go_num, Lib.hid (fun j s' hj hs' => by rcases Nat.lt_or_eq_of_le (Nat.le_of_lt_succ hj) with h | h; exact Hk.out j s' h hs'; subst h; rw [Hs.out] at hs'; cases hs'; omega), trivial⟩
          case measure => simp [intOf]; omega
      · obtain rfl : k = N := by omega
        have hb200 : ∀ s ∈ l, s.length ≤ 1000000 := fun s hs => by
          obtain ⟨j, hj⟩ := List.getElem?_of_mem hs
          have := Hk.out j s (by rw [← HN.out]; exact (List.getElem?_eq_some_iff.1 hj).1) hj
          omega
        have hl60 : l.length ≤ 100000 := by rw [HN.out]; omega
        obtain ⟨R, hRl, hR1, hR2⟩ : ∃ R : List Int, R.length = 31 ∧ (∀ (v : Value) (W : World), GoodD W → StrRow W v l → Gives Tryz.prog 39 #[v] W (.tuple #[.agg (intCellsA R), .int .i64 (rcE l)])) ∧ (∀ (v : Value) (W : World), StrRow W v l → Gives Tryz.prog 40 #[v] W (.tuple #[.agg (intCellsA R), .int .i64 (rcE l)])) := by
          refine ⟨rcV l, ?_, fun v W g h => dreadcounts_any l v W g h hb200 (by omega), fun v W h => rreadcounts_any l v W h hb200 (by omega)⟩
          unfold rcV
          cases hR : readC l with
          | none => rfl
          | some c' => exact (readC_bd2 hR).1
        have hLent : ∀ W, UpI w W → Calls Tryz.prog 23 #[.slice p k cap] W fun e w' => ∃ g cap2, e = .returned (.slice (some ⟨g, 0, none⟩) k cap2) ∧ k + 12 ≤ cap2 ∧ StrRow w' (.slice (some ⟨g, 0, none⟩) (k + 12) cap2) (l ++ marksL 12) ∧ ∃ x : Ext W, w' = x.w := fun W h => by
          have := lent_any l _ W (HV.out.up h.up) HO.out hl60
          rwa [HN.out] at this
        have hKept : ∀ (g cap2 : Nat) (W : World), UpI w W → k + 12 ≤ cap2 → StrRow W (.slice (some ⟨g, 0, none⟩) (k + 12) cap2) (l ++ marksL 12) → Gives Tryz.prog 31 #[.slice (some ⟨g, 0, none⟩) k cap2, .slice p k cap] W (.bool true) := fun g cap2 W h h1 h2 => kept_any l _ g cap2 k W HN.out (HV.out.up h.up) h2 h1 hl60
        have hpre : ∀ (g cap2 : Nat) (W : World), StrRow W (.slice (some ⟨g, 0, none⟩) (k + 12) cap2) (l ++ marksL 12) → StrRow W (.slice (some ⟨g, 0, none⟩) k cap2) l := fun g cap2 W h => by
          have e : (l ++ marksL 12).length = k + 12 := by rw [List.length_append, HN.out, marksL_len]
          rw [← e] at h
          have := RowOf.take h k (by omega)
          rwa [List.take_left' HN.out] at this
        have hrs : (Tryz.prog.info? 45).map (·.size) = some (intCellsA R).size := by rw [intCellsA_size, hRl]; exact arrSize
        have hsz0 : (intCellsA zeroC).size = (intCellsA R).size := by rw [intCellsA_size, intCellsA_size, hRl]; rfl
        have h1R := intCellsA_one R
        haveI : IArr (intCellsA R) := ⟨R, hRl, rfl⟩
        clear hb200 hk hlt Hk hRl
        generalize intCellsA R = rs at *
        generalize rcE l = er at *
        go_upto_region 10 with (go_at_call 23; refine (hLent _ inferInstance).mono ?_; rintro e w' ⟨g1, cap2, rfl, hcap2, hown, z0, rfl⟩)
        go_upto_region 13 with (first
          | (refine wpList_load_row rfl 45 _ rfl A rfl 45 cs (0, 0) _ ((upI : Up W _).block A hAW |>.trans HrA.out) Tryz.underlying45 rfl hcs ?_)
          | (refine wpList_store_row rfl 45 _ _ rfl _ rs rfl rfl 45 (intCellsA zeroC) (alloc_new rfl) hrs hsz0 h1R ?_)
          | (go_at_call 11; refine (hcnt _ (g.up upI)).mono ?_; rintro e w' ⟨q1, n1, c1, rfl, hq1, z1, rfl⟩)
          | (go_at_call 38; refine (hcntR _).mono ?_; rintro e w' ⟨q2, n2, c2, rfl, hq2, z2, rfl⟩)
          | (go_at_call 39; refine (hR1 _ _ (g.up upI) (hpre _ _ _ (RowOf.up hown upI))).mono ?_; rintro e w' ⟨rfl, z3, rfl⟩))
        obtain ⟨D, hD⟩ : ∃ D, z3.w.heap.size = D := ⟨_, rfl⟩
        rw [hD]
        have hwD : w.heap.size ≤ D := by rw [← hD]; exact (upI : Up w z3.w).size
        refine wp_letter (fun V => UpI w V ∧ D < V.heap.size ∧ V.heap[D]? = some (.cells rs 45 (0, 0)) ∧ StrRow V (.slice (some ⟨g1, 0, none⟩) (k + 12) cap2) (l ++ marksL 12) ∧ StrRow V (.slice q1 n1 c1) cl ∧ StrRow V (.slice q2 n2 c2) cl)
          ⟨⟨up_setRow (upI : Up w _) hwD _⟩, by rw [size_setRow, World.size_alloc]; omega, setRow_heap _ _ _ _ _ _ (alloc_new hD), RowOf.up hown (up_setRow (upI : Up z0.w _) (by rw [← hD]; exact (upI : Up z0.w z3.w).size) _), RowOf.up hq1 (up_setRow (upI : Up z1.w _) (by rw [← hD]; exact (upI : Up z1.w z3.w).size) _), RowOf.up hq2 (up_setRow (upI : Up z2.w _) (by rw [← hD]; exact (upI : Up z2.w z3.w).size) _)⟩ ?_
        clear hD hown hq1 hq2 HrA
        rintro V ⟨uV, hDV, hrD, hown, hq1, hq2⟩
        haveI := uV
        go_upto_region 14 with (first
          | (refine wpList_store_row rfl 45 _ _ rfl _ rs rfl rfl 45 (intCellsA zeroC) (alloc_new rfl) hrs hsz0 h1R ?_)
          | (go_at_call 40; refine (hR2 _ _ (HV.out.up upI)).mono ?_; rintro e w' ⟨rfl, z4, rfl⟩))
        obtain ⟨E, hE⟩ : ∃ E, z4.w.heap.size = E := ⟨_, rfl⟩
        rw [hE]
        have hDE : D < E := by rw [← hE]; exact Nat.lt_of_lt_of_le hDV (upI : Up V z4.w).size
        refine wp_letter (fun X => UpI w X ∧ E < X.heap.size ∧ X.heap[D]? = some (.cells rs 45 (0, 0)) ∧ X.heap[E]? = some (.cells rs 45 (0, 0)) ∧ StrRow X (.slice (some ⟨g1, 0, none⟩) (k + 12) cap2) (l ++ marksL 12) ∧ StrRow X (.slice q1 n1 c1) cl ∧ StrRow X (.slice q2 n2 c2) cl)
          ⟨⟨up_setRow (upI : Up w _) (by omega) _⟩, by rw [size_setRow, World.size_alloc]; omega, (setRow_other _ E D _ (by omega)).trans ((Below.heap_alloc _ _ _ (by omega)).trans (((upI : Up V z4.w).block D hDV).trans hrD)), setRow_heap _ _ _ _ _ _ (alloc_new hE), RowOf.up hown (up_setRow (upI : Up V _) (by rw [← hE]; exact (upI : Up V z4.w).size) _), RowOf.up hq1 (up_setRow (upI : Up V _) (by rw [← hE]; exact (upI : Up V z4.w).size) _), RowOf.up hq2 (up_setRow (upI : Up V _) (by rw [← hE]; exact (upI : Up V z4.w).size) _)⟩ ?_
        clear hE hown hq1 hq2 hrD
        rintro X ⟨uX, hEX, hrD, hrE, hown, hq1, hq2⟩
        haveI := uX
        have hst : ∀ W', UpI X W' → Gives Tryz.prog 41 #[.slice q1 n1 c1, .slice q2 n2 c2] W' (.bool true) := fun W' h => same_row W' _ _ cl (RowOf.up hq1 h.up) (RowOf.up hq2 h.up) (by omega)
        have hkp : ∀ W', UpI X W' → Gives Tryz.prog 31 #[.slice (some ⟨g1, 0, none⟩) k cap2, .slice p k cap] W' (.bool true) := fun W' h => hKept g1 cap2 W' ⟨uX.up.trans h.up⟩ hcap2 (RowOf.up hown h.up)
        clear hLent hKept hpre hR1 hR2 hcnt hcntR hq1 hq2 hown
        go_wp2_with (first
          | (refine load_rowG2 45 _ rfl D rfl (by first | kernel_rfl | rfl) 45 rs (0, 0) _ (((upI : Up X _).block D (by omega)).trans hrD) Tryz.underlying45 rfl hrs ?_)
          | (refine load_rowG2 45 _ rfl E rfl (by first | kernel_rfl | rfl) 45 rs (0, 0) _ (((upI : Up X _).block E (by omega)).trans hrE) Tryz.underlying45 rfl hrs ?_)
          | (go_at_call 41; refine (hst _ inferInstance).mono ?_; rintro e w' ⟨rfl, z5, rfl⟩)
          | (go_at_call 31; refine (hkp _ inferInstance).mono ?_; rintro e w' ⟨rfl, z6, rfl⟩))
        go_ret
        exact ⟨rfl, mkI⟩
end Go.Proofs.YtlbbepgfjigjpaaGreatDoor
