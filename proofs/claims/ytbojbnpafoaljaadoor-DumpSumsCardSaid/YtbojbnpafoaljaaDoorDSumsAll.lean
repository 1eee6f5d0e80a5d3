/- DumpSums, walked. -/
import Derived.Test.YtbojbnpafoaljaaDoorDU
import Derived.Test.YtbojbnpafoaljaaDoorDAw
namespace Go.Ab
open Go.RowKit Go.Proofs.YtbojbnpafoaljaaDoor
def u16A (u : List Int) : Array Value := (u.map (Value.int .u16)).toArray
def modC (u : List Int) : List Int := u.map (· % 1000)
theorem modC_length (u : List Int) : (modC u).length = u.length := List.length_map _
theorem modC_at (u : List Int) (k : Nat) (x : Int) (h : u[k]? = some x) : (modC u)[k]? = some (x % 1000) := by unfold modC; rw [List.getElem?_map, h]; rfl
theorem u16A_at (u : List Int) (k : Nat) (x : Int) (h : u[k]? = some x) : (u16A u)[k]? = some (.int .u16 x) := by unfold u16A; rw [List.getElem?_toArray, List.getElem?_map, h]; rfl
theorem modC_bd (u : List Int) : ∀ n ∈ modC u, 0 ≤ n ∧ n < 1000 := by
  intro n hn
  obtain ⟨x, _, rfl⟩ := List.mem_map.1 hn
  show 0 ≤ x % 1000 ∧ x % 1000 < 1000
  omega
theorem stepC_bd {c c' : List Int} {s : List UInt8} (h : stepC c s = some c') (hb : BdC c) : BdC c' := by
  unfold stepC at h
  split at h
  · cases h; exact hb.set _ _ (atoiV_bounds _)
  · cases h
theorem foldC_bd : ∀ (l : List (List UInt8)) (c c' : List Int), foldC c l = some c' → BdC c → BdC c'
  | [], c, c', h, hb => by rw [foldC] at h; cases h; exact hb
  | s :: t, c, c', h, hb => by
    rw [foldC] at h
    cases hs : stepC c s with
    | none => rw [hs] at h; cases h
    | some c1 => rw [hs] at h; exact foldC_bd t c1 c' h (stepC_bd hs hb)
theorem readC_bd {l : List (List UInt8)} {c : List Int} (h : readC l = some c) : BdC c := by
  unfold readC at h
  split at h
  · cases h
  · rename_i c1 h1
    split at h
    · cases h; exact foldC_bd l _ _ h1 BdC.zero
    · cases h
theorem countW_short (r : Nat) (n : Int) (h0 : -9223372036854775808 ≤ n) (h1 : n ≤ 9223372036854775807) : ∀ s ∈ countW r n, s.length ≤ 1000000 := by
  intro s hs
  unfold countW at hs
  split at hs
  · obtain rfl := List.mem_singleton.1 hs
    rw [show Lib.join [(namesL[r]?).getD [], dec n] [32] = (namesL[r]?).getD [] ++ 32 :: dec n by simp [Lib.join]]
    have hd := dec_length n h0 h1
    have hn : ((namesL[r]?).getD []).length ≤ 8 := by
      cases h : namesL[r]? with
      | none => simp
      | some x => exact names_short _ _ h
    rw [List.length_append, List.length_cons]; omega
  · cases hs
theorem countsFrom_short : ∀ (t : List Int) (r : Nat), (∀ n ∈ t, -9223372036854775808 ≤ n ∧ n ≤ 9223372036854775807) → ∀ s ∈ countsFrom r t, s.length ≤ 1000000
  | [], _, _, s, hs => by cases hs
  | n :: t, r, h, s, hs => by
    rw [countsFrom] at hs
    rcases List.mem_append.1 hs with hs | hs
    · exact countW_short r n (h n (by simp)).1 (h n (by simp)).2 s hs
    · exact countsFrom_short t (r + 1) (fun m hm => h m (by simp [hm])) s hs
theorem countsL_short (c : List Int) (h : ∀ n ∈ c, -9223372036854775808 ≤ n ∧ n ≤ 9223372036854775807) : ∀ s ∈ countsL c, s.length ≤ 1000000 := countsFrom_short c 0 h
end Go.Ab
namespace Go.Proofs.YtbojbnpafoaljaaDoor
open Go.RowKit Go.Ab
theorem index31u (cs : Array Value) (k : Nat) (v : Value) (hk : k < 31) (h : cs[k]? = some v) (w : World) : (Instr.index 23 (.agg cs) (.int .i64 (k : Int))).run Tryd.prog w = .ok v w := by
  have h1 : (0 : Int) ≤ (k : Int) ∧ (k : Int) < ((31 : Nat) : Int) := by omega
  simp [Instr.index, asIntOf, run_underlying Tryd.underlying23, go_sem, part, h, hk]
theorem wpList_load_rowG {P : Program} {ops : Array Oper} {rest : List Oper} {o : Oper} {a : Act} {w : World} {Q : Exit → Act → World → Prop} (ty : TypeId) (x : Operand) (ho : o.op = .load ty x) (g : Nat) (hx : a.eval x = .pointer (some ⟨g, 0, none⟩)) (hw : Region.wanted o (yielded ops a.tmps) = true) (t : TypeId) (cs : Array Value) (fr : Nat × Nat) (d : TypeDesc) (hg : w.heap[g]? = some (.cells cs t fr))
    (hu : P.underlying ty = some d) (hd : (match d with | .struct _ | .array _ _ => true | _ => false) = true) (hi : (P.info? ty).map (·.size) = some cs.size)
    (h : wpList P ops Q rest (a.put o.dst (.agg cs)) w) : wpList P ops Q (o :: rest) a w :=
  wpList_step fun K hK => by rw [if_pos hw]; exact wp_load_row ty x ho g hx t cs fr d hg hu hd hi (hK _ _ h)
theorem eq_zero (w : World) : (Op.equalIn 10000 26 (.agg (intCellsA zeroC)) (.agg #[.int .i64 0, .int .i64 0, .int .i64 0, .int .i64 0, .int .i64 0, .int .i64 0, .int .i64 0, .int .i64 0, .int .i64 0, .int .i64 0, .int .i64 0, .int .i64 0, .int .i64 0, .int .i64 0, .int .i64 0, .int .i64 0, .int .i64 0, .int .i64 0, .int .i64 0, .int .i64 0, .int .i64 0, .int .i64 0, .int .i64 0, .int .i64 0, .int .i64 0, .int .i64 0, .int .i64 0, .int .i64 0, .int .i64 0, .int .i64 0, .int .i64 0])).run Tryd.prog w = .ok true w :=
  @eq_arr w (intCellsA zeroC) ⟨zeroC, rfl, rfl⟩
attribute [local go_sem high] eq_arr eq_zero
theorem arrSizeU : (Tryd.prog.info? 23).map (·.size) = some 31 := by kernel_rfl
set_option maxHeartbeats 32000000 in
set_option maxRecDepth 100000 in
theorem dsums_walk (u : List Int) (l : List (List UInt8)) (v : Value) (w : World) (g : GoodD w) (hu : u.length = 31) (hub : ∀ n ∈ u, 0 ≤ n ∧ n < 65536) (hv : StrRow w v l) :
    Gives Tryd.prog 3 #[.agg (u16A u), v] w (.bool true) := by
  have hv2 := hv
  obtain ⟨p, cap, rfl, hle, hc⟩ := hv
  obtain ⟨N, hN⟩ : ∃ N, l.length = N := ⟨_, rfl⟩
  rw [hN] at hle hv2 ⊢
  have HN := Lib.hid hN
  have Hc := Lib.hid hc
  have HV := Lib.hid hv2
  clear hN hc hv2
  have hat : ∀ k, k < 31 → ∃ n, u[k]? = some n ∧ (u16A u)[k]? = some (.int .u16 n) ∧ 0 ≤ n ∧ n < 65536 := fun k hk => by
    have h1 : u[k]? = some u[k] := List.getElem?_eq_getElem (by omega)
    exact ⟨_, h1, u16A_at u k _ h1, hub _ (List.mem_of_getElem? h1)⟩
  have hus : (Tryd.prog.info? 23).map (·.size) = some (u16A u).size := by rw [arrSizeU]; simp [u16A, hu]
  obtain ⟨C, hC⟩ : ∃ C, modC u = C := ⟨_, rfl⟩
  have hCl : C.length = 31 := by rw [← hC, modC_length, hu]
  have hCb : ∀ n ∈ C, 0 ≤ n ∧ n < 1000 := by rw [← hC]; exact modC_bd u
  have hCat : ∀ (k : Nat) (n : Int), u[k]? = some n → C[k]? = some (n % 1000) := by rw [← hC]; exact modC_at u
  clear hC hub
  generalize u16A u = cs at *
  have Hat := Lib.hid hat; have HCat := Lib.hid hCat; have HCb := Lib.hid hCb
  clear hat hCat hCb
  unfold Gives
  go_enter Tryd.func3, Tryd.ntmps3
  go_upto_region 5 with (first
    | (go_at_call 4; refine (dawake_any _ (g.up upI)).mono ?_; rintro e w' ⟨rfl, xa, rfl⟩))
  obtain ⟨B, hB⟩ : ∃ B, xa.w.heap.size = B := ⟨_, rfl⟩
  have hAB : w.heap.size < B := by have := xa.up.size; rw [World.size_alloc] at this; omega
  obtain ⟨A, hA⟩ : ∃ A, w.heap.size = A := ⟨_, rfl⟩
  rw [hB, hA]
  refine wp_letter (fun W => Up w W ∧ B < W.heap.size ∧ W.heap[A]? = some (.cells cs 23 (0, 0)) ∧ W.heap[B]? = some (.cells (intCellsA zeroC) 26 (0, 0)))
    ⟨upI, by rw [World.size_alloc]; omega, (Below.heap_alloc _ _ _ (by omega)).trans ((xa.up.block A (by rw [World.size_alloc]; omega)).trans (alloc_new hA)), alloc_new hB⟩ ?_
  rintro W ⟨uW, hBW, hrA, hrB⟩
  haveI : UpI w W := ⟨uW⟩
  have HrB := Lib.hid hrB
  clear hrB hB xa
  rw [hA] at hAB
  go_upto_region 6 with (refine wpList_load_row rfl 23 _ rfl _ rfl 23 cs (0, 0) _ hrA Tryd.underlying23 rfl hus ?_)
  go_loopw [6, 20] (fun n i wr => ∃ (k m : Nat), k ≤ 31 ∧ i = .int .i64 (k : Int) ∧ n = .int .i64 (m : Int) ∧ Hid ((countsK C k).length = m) ∧ m ≤ k ∧ Up w wr ∧ B < wr.heap.size ∧ Hid (wr.heap[B]? = some (.cells (intCellsA (upC C k)) 26 (0, 0)))) (fun _ i _ => 31 - (intOf i).toNat)
  case atStart => exact ⟨0, 0, by omega, rfl, rfl, Lib.hid rfl, by omega, uW, hBW, HrB⟩
  case round =>
    clear hrA HrB uW hBW
    obtain ⟨k, m, hk, rfl, rfl, Hm, hmk, hu2, hsz, HB⟩ := hrel
    haveI : UpI w wr := ⟨hu2⟩
    haveI : LtSize B wr := ⟨hsz⟩
    by_cases hlt : k < 31
    · have hlt' : (k : Int) < 31 := by omega
      have k0 : (0 : Int) ≤ (k : Int) := by omega
      obtain ⟨x, hx1, hx2, hx3, hx4⟩ := Hat.out k hlt
      have hc1 := HCat.out k x hx1
      have hix := index31u cs k _ hlt hx2
      have hwx : wrap64 x = x := IntWalk.wrap64_in _ ⟨by omega, by omega⟩
      have ht : x.tmod 1000 = x % 1000 := Int.tmod_eq_emod_of_nonneg hx3
      have cc : wr.cell? ⟨B, k, none⟩ = some (.int .i64 0) := by rw [cell_of_row wr B k _ _ _ HB.out]; exact upC_at C k hCl hlt
      have cf : wr.frozen? ⟨B, k, none⟩ = false := frozen_of_row wr B k _ _ HB.out
      have hS := countsK_succ C k
      rw [show C.getD k 0 = x % 1000 by rw [List.getD_eq_getElem?_getD, hc1]; rfl] at hS
      have y0 : 0 ≤ x % 1000 := by omega
      have y1 : x % 1000 < 1000 := by omega
      generalize hy : x % 1000 = y at *
      have hset : (wr.setCell ⟨B, k, none⟩ (.int .i64 y)).heap[B]? = some (.cells (intCellsA (upC C (k + 1))) 26 (0, 0)) := by
        rw [heap_setCell_same wr B k _ _ _ HB.out, intCellsA_set, upC_set C k y hCl hc1]
      have Hset := Lib.hid hset
      have up2 : Up w (wr.setCell ⟨B, k, none⟩ (.int .i64 y)) := hu2.setCell (show w.heap.size ≤ B by omega) _
      have HU := Lib.hid up2
      clear hset up2 hx1 hx2 hc1
      rcases Nat.eq_zero_or_pos k with hk0 | hk0
      · have hkz : decide (0 < k) = false := decide_eq_false (by omega)
        have HN2 := Lib.hid (show (countsK C (k + 1)).length = m by rw [hS, countW, if_neg (by omega), List.append_nil]; exact Hm.out)
        clear hS hk0 hk
        have hk : k < 31 := hlt
        go_wp2_with fail
        go_roundw
        case rel => exact ⟨k + 1, m, by omega, by go_num, rfl, HN2, by omega, HU.out, by rw [World.size_setCell]; exact hsz, Hset⟩
        case measure => simp [intOf]; omega
      · have k1 : (0 : Int) < (k : Int) := by omega
        by_cases hp : 0 < y
        · have HN2 := Lib.hid (show (countsK C (k + 1)).length = m + 1 by rw [hS, countW, if_pos ⟨hk0, hp⟩, List.length_append, Hm.out]; rfl)
          clear hS
          go_wp2_with fail
          go_roundw
          case rel => exact ⟨k + 1, m + 1, by omega, by go_num, by go_num, HN2, by omega, HU.out, by rw [World.size_setCell]; exact hsz, Hset⟩
          case measure => simp [intOf]; omega
        · obtain rfl : y = 0 := by omega
          have HN2 := Lib.hid (show (countsK C (k + 1)).length = m by rw [hS, countW, if_neg (by omega), List.append_nil]; exact Hm.out)
          clear hS
          go_wp2_with fail
          go_roundw
          case rel => exact ⟨k + 1, m, by omega, by go_num, rfl, HN2, by omega, HU.out, by rw [World.size_setCell]; exact hsz, Hset⟩
          case measure => simp [intOf]; omega
    · obtain rfl : k = 31 := by omega
      have hB31 := HB.out
      rw [upC_all C hCl] at hB31
      have hm31 : (countsL C).length = m := by rw [countsL_range, hCl]; exact Hm.out
      obtain ⟨n0, t, hCt⟩ : ∃ n0 t, C = n0 :: t := by cases C with | nil => cases hCl | cons a b => exact ⟨a, b, rfl⟩
      have ht30 : t.length = 30 := by rw [hCt] at hCl; simpa using hCl
      have hrd : readC (countsL C) = some (0 :: t) := by rw [hCt]; exact readC_counts n0 t ht30 fun x hx => by have := HCb.out x (by rw [hCt]; simp [hx]); omega
      obtain ⟨C0, hC0⟩ : ∃ C0, C0 = 0 :: t := ⟨_, rfl⟩
      have hC0l : C0.length = 31 := by rw [hC0]; simp [ht30]
      have hset0 : C.set 0 0 = C0 := by rw [hC0, hCt]; rfl
      rw [← hC0] at hrd
      have hb64 : ∀ n ∈ C, -9223372036854775808 ≤ n ∧ n ≤ 9223372036854775807 := fun n hn => by have := HCb.out n hn; omega
      have hcnt : ∀ W, GoodD W → Calls Tryd.prog 5 #[.agg (intCellsA C)] W fun e w' => ∃ q c2, e = .returned (.tuple #[.slice q m c2, .int .i64 0]) ∧ StrRow w' (.slice q m c2) (countsL C) ∧ ∃ x : Ext W, w' = x.w := fun W g => (dcounts_any C W g hCl hb64).mono fun e w' ⟨h1, h2⟩ => by
        unfold countsE at h1
        rw [show (C.all fun n => decide (0 ≤ n)) = true by rw [List.all_eq_true]; exact fun n hn => decide_eq_true (HCb.out n hn).1] at h1
        obtain ⟨u, h3, h4⟩ := h1
        have h5 := StrRow.of_owns h4
        have h6 := h5
        obtain ⟨q, c2, rfl, _⟩ := h6
        rw [hm31] at h3 h5
        exact ⟨q, c2, h3, h5, h2⟩
      have hrc : ∀ W q c2, GoodD W → StrRow W (.slice q m c2) (countsL C) → Gives Tryd.prog 6 #[.slice q m c2] W (.tuple #[.agg (intCellsA C0), .int .i64 0]) := fun W q c2 g h =>
        Gives.cast (show Gives Tryd.prog 6 _ _ _ from dreadcounts_any (countsL C) _ W g h (countsL_short C hb64) (by have := countsL_len C; omega)) (by unfold rcV rcE; rw [hrd]; rfl)
      have hcs : (Tryd.prog.info? 26).map (·.size) = some (intCellsA C).size := by rw [intCellsA_size, hCl]; exact arrSize
      have hcs0 : (Tryd.prog.info? 26).map (·.size) = some (intCellsA C0).size := by rw [intCellsA_size, hC0l]; exact arrSize
      have hsz0 : (intCellsA zeroC).size = (intCellsA C0).size := by rw [intCellsA_size, intCellsA_size, hC0l]; rfl
      have H31 := Lib.hid hB31
      have Hset0 := Lib.hid hset0
      clear hC0 hCt ht30 hrd hb64 hB31 hset0 HB Hm hm31 hk hlt hmk
      go_upto_region 14 with (first
        | (refine wpList_load_row rfl 26 _ rfl _ rfl 26 (intCellsA C) (0, 0) _ H31.out Tryd.underlying26 rfl hcs ?_)
        | (refine wpList_store_row rfl 26 _ _ rfl _ (intCellsA C0) rfl rfl 26 (intCellsA zeroC) (alloc_new rfl) hcs0 hsz0 (intCellsA_one _) ?_)
        | (go_at_call 5; refine (hcnt _ (g.up upI)).mono ?_; rintro e w' ⟨q, c2, rfl, hq, z1, rfl⟩)
        | (go_at_call 6; refine (hrc _ _ _ (g.up upI) hq).mono ?_; rintro e w' ⟨rfl, z2, rfl⟩))
      obtain ⟨D, hD⟩ : ∃ D, z2.w.heap.size = D := ⟨_, rfl⟩
      have hBD : B < D := by rw [← hD]; exact Nat.lt_of_lt_of_le hsz (upI : Up wr z2.w).size
      rw [hD]
      refine wp_letter (fun W => UpI w W ∧ D < W.heap.size ∧ W.heap[B]? = some (.cells (intCellsA C) 26 (0, 0)) ∧ W.heap[D]? = some (.cells (intCellsA C0) 26 (0, 0)))
        ⟨⟨up_setRow (upI : Up w _) (by omega) _⟩, by rw [size_setRow, World.size_alloc]; omega, (setRow_other _ D B _ (by omega)).trans ((Below.heap_alloc _ _ _ (by omega)).trans (((upI : Up wr z2.w).block B hsz).trans H31.out)), setRow_heap _ _ _ _ _ _ (alloc_new hD)⟩ ?_
      rintro W2 ⟨u2, hDW, hrB, hrD⟩
      haveI := u2
      haveI : LtSize B W2 := ⟨by omega⟩
      obtain ⟨v0, hv0⟩ := intCellsA_at C 0 (by omega)
      have cc : W2.cell? ⟨B, 0, none⟩ = some v0 := by rw [cell_of_row W2 B 0 _ _ _ hrB]; exact hv0
      have cf : W2.frozen? ⟨B, 0, none⟩ = false := frozen_of_row W2 B 0 _ _ hrB
      have HrB := Lib.hid hrB; have HrD := Lib.hid hrD
      clear hcnt hrc hrB hrD hv0 hq H31 hcs hsz0 hu2 hsz hD
      skip
      go_upto_region 15 with fail
      refine wp_letter (fun W => UpI w W ∧ D < W.heap.size ∧ W.heap[B]? = some (.cells (intCellsA C0) 26 (0, 0)) ∧ W.heap[D]? = some (.cells (intCellsA C0) 26 (0, 0)))
        ⟨⟨u2.up.setCell (show w.heap.size ≤ B by omega) _⟩, by rw [World.size_setCell]; exact hDW, by rw [heap_setCell_same W2 B 0 _ _ _ HrB.out, intCellsA_set, Hset0.out], (Below.heap_setCell _ _ _ D (show D ≠ B by omega)).trans HrD.out⟩ ?_
      clear cc cf HrB HrD hDW Hset0
      clear u2
      rintro W3 ⟨u3, hDW, hrB, hrD⟩
      haveI := u3
      haveI : LtSize B W3 := ⟨by omega⟩
      haveI : IArr (intCellsA C0) := ⟨C0, hC0l, rfl⟩
      generalize intCellsA C0 = c0 at *
      clear hC0l
      by_cases h60 : 60 < N
      · have h60' : (60 : Int) < (N : Int) := by omega
        go_wp2_with (first
          | (refine wpList_load_rowG 26 _ rfl D rfl (by first | kernel_rfl | rfl) 26 c0 (0, 0) _ hrD Tryd.underlying26 rfl hcs0 ?_)
          | (refine wpList_load_rowG 26 _ rfl B rfl (by first | kernel_rfl | rfl) 26 c0 (0, 0) _ hrB Tryd.underlying26 rfl hcs0 ?_))
        go_ret
        exact ⟨rfl, mkI⟩
      · have h60' : (N : Int) ≤ 60 := by omega
        go_upto_region 20 with (first
          | (refine wpList_load_rowG 26 _ rfl D rfl (by first | kernel_rfl | rfl) 26 c0 (0, 0) _ hrD Tryd.underlying26 rfl hcs0 ?_)
          | (refine wpList_load_rowG 26 _ rfl B rfl (by first | kernel_rfl | rfl) 26 c0 (0, 0) _ hrB Tryd.underlying26 rfl hcs0 ?_))
        go_loopw [71] (fun i wr => ∃ k : Nat, k ≤ N ∧ i = .int .i64 (k : Int) ∧ Hid (∀ (j : Nat) (s : List UInt8), j < k → l[j]? = some s → s.length ≤ 200) ∧ wr = W3) (fun i _ => N - (intOf i).toNat)
        case atStart => exact ⟨0, Nat.zero_le _, rfl, Lib.hid (fun j s h => absurd h (Nat.not_lt_zero j)), rfl⟩
        case round =>
          obtain ⟨k, hk, rfl, Hk, hw⟩ := hrel
          rw [hw]
          clear hw
          by_cases hlt : k < N
          · have hlt' : (k : Int) < (N : Int) := by omega
            have k0 : (0 : Int) ≤ (k : Int) := by omega
            obtain ⟨s, hs⟩ : ∃ s, l[k]? = some s := ⟨_, List.getElem?_eq_getElem (by rw [HN.out]; exact hlt)⟩
            obtain ⟨b1, o1, rfl, hb1, hc1⟩ := Hc.out k s hs
            have c1 := u3.up.cell_some (hc1 0 _ rfl)
            rw [Nat.add_zero, Nat.mul_one] at c1
            haveI : LtSize b1 W3 := ⟨Nat.lt_of_lt_of_le hb1 u3.up.size⟩
            have Hs := Lib.hid hs
            clear hs hc1
            by_cases h200 : 200 < s.length
            · have h200' : (200 : Int) < (s.length : Int) := by omega
              go_wp2_with fail
              go_ret
              exact ⟨rfl, mkI⟩
            · have h200' : (s.length : Int) ≤ 200 := by omega
              go_wp2_with fail
              go_roundw
              case rel => exact ⟨k + 1, by omega, by go_num, Lib.hid (fun j s' hj hs' => by rcases Nat.lt_or_eq_of_le (Nat.le_of_lt_succ hj) with h | h; exact Hk.out j s' h hs'; subst h; rw [Hs.out] at hs'; cases hs'; omega), trivial⟩
              case measure => simp [intOf]; omega
          · obtain rfl : k = N := by omega
            have hb200 : ∀ s ∈ l, s.length ≤ 1000000 := fun s hs => by
              obtain ⟨j, hj⟩ := List.getElem?_of_mem hs
              have := Hk.out j s (by rw [← HN.out]; exact (List.getElem?_eq_some_iff.1 hj).1) hj
              omega
            have hrc : ∀ W, GoodD W → UpI w W → Gives Tryd.prog 6 #[.slice p k cap] W (.tuple #[.agg (intCellsA (rcV l)), .int .i64 (rcE l)]) := fun W g h => dreadcounts_any l _ W g (HV.out.up h.up) hb200 (by rw [HN.out]; omega)
            clear hk hlt Hk hDW hrB hrD
            cases hR : readC l with
            | none =>
              have hrc2 : ∀ W, GoodD W → UpI w W → Gives Tryd.prog 6 #[.slice p k cap] W (.tuple #[.agg (intCellsA zeroC), .int .i64 382]) := fun W g h => (hrc W g h).cast (by unfold rcV rcE; rw [hR]; rfl)
              clear hrc hR
              go_upto_region 26 with (first
                | (refine wpList_store_row rfl 26 _ _ rfl _ (intCellsA zeroC) rfl rfl 26 (intCellsA zeroC) (alloc_new rfl) arrSize rfl (intCellsA_one _) ?_)
                | (go_at_call 6; refine (hrc2 _ (g.up upI) inferInstance).mono ?_; rintro e w' ⟨rfl, z4, rfl⟩))
              obtain ⟨E, hE⟩ : ∃ E, z4.w.heap.size = E := ⟨_, rfl⟩
              have hwE : w.heap.size ≤ E := by rw [← hE]; exact (upI : Up w z4.w).size
              rw [hE]
              refine wp_letter (fun W => UpI w W ∧ E < W.heap.size ∧ W.heap[E]? = some (.cells (intCellsA zeroC) 26 (0, 0)))
                ⟨⟨up_setRow (upI : Up w _) hwE _⟩, by rw [size_setRow, World.size_alloc]; omega, setRow_heap _ _ _ _ _ _ (alloc_new hE)⟩ ?_
              rintro W4 ⟨u4, hEW, hrE⟩
              haveI := u4
              go_wp2_with (first
                | (refine wpList_load_rowG 26 _ rfl E rfl (by first | kernel_rfl | rfl) 26 (intCellsA zeroC) (0, 0) _ hrE Tryd.underlying26 rfl arrSize ?_))
              go_ret
              exact ⟨rfl, mkI⟩
            | some c' =>
              obtain ⟨hq1, hq2, hq3, hq4⟩ := readC_some hR
              have hbd := readC_bd hR
              have h0 : (intCellsA c')[0]? = some (.int .i64 0) := intCellsA_get (by cases c' with | nil => cases hq2 | cons a b => exact hq2)
              have hrc2 : ∀ W, GoodD W → UpI w W → Gives Tryd.prog 6 #[.slice p k cap] W (.tuple #[.agg (intCellsA c'), .int .i64 0]) := fun W g h => (hrc W g h).cast (by unfold rcV rcE; rw [hR]; rfl)
              have hcnt : ∀ W, GoodD W → Calls Tryd.prog 5 #[.agg (intCellsA c')] W fun e w' => ∃ q c2, e = .returned (.tuple #[.slice q k c2, .int .i64 0]) ∧ StrRow w' (.slice q k c2) l ∧ ∃ x : Ext W, w' = x.w := fun W g => (dcounts_any c' W g hbd.1 hbd.2).mono fun e w' ⟨h1, h2⟩ => by
                unfold countsE at h1
                rw [show (c'.all fun n => decide (0 ≤ n)) = true by rw [List.all_eq_true]; exact fun n hn => decide_eq_true (hq4 n hn)] at h1
                obtain ⟨u, h3, h4⟩ := h1
                have h5 := StrRow.of_owns h4
                have h6 := h5
                obtain ⟨q, c2, rfl, _⟩ := h6
                rw [hq1, HN.out] at h3
                rw [hq1, HN.out] at h5
                exact ⟨q, c2, h3, h5, h2⟩
              have hst : ∀ W q c2, UpI w W → StrRow W (.slice q k c2) l → Gives Tryd.prog 7 #[.slice q k c2, .slice p k cap] W (.bool true) := fun W q c2 h h2 => same_row W _ _ l h2 (HV.out.up h.up) (by rw [HN.out]; omega)
              have hcs' : (Tryd.prog.info? 26).map (·.size) = some (intCellsA c').size := by rw [intCellsA_size, hbd.1]; exact arrSize
              have hsz' : (intCellsA zeroC).size = (intCellsA c').size := by rw [intCellsA_size, intCellsA_size, hbd.1]; rfl
              have h1c := intCellsA_one c'
              clear hrc hR hbd hq1 hq2 hq3 hq4 hb200
              generalize intCellsA c' = d' at *
              go_upto_region 26 with (first
                | (refine wpList_store_row rfl 26 _ _ rfl _ d' rfl rfl 26 (intCellsA zeroC) (alloc_new rfl) hcs' hsz' h1c ?_)
                | (go_at_call 6; refine (hrc2 _ (g.up upI) inferInstance).mono ?_; rintro e w' ⟨rfl, z4, rfl⟩))
              obtain ⟨E, hE⟩ : ∃ E, z4.w.heap.size = E := ⟨_, rfl⟩
              have hwE : w.heap.size ≤ E := by rw [← hE]; exact (upI : Up w z4.w).size
              rw [hE]
              refine wp_letter (fun W => UpI w W ∧ E < W.heap.size ∧ W.heap[E]? = some (.cells d' 26 (0, 0)))
                ⟨⟨up_setRow (upI : Up w _) hwE _⟩, by rw [size_setRow, World.size_alloc]; omega, setRow_heap _ _ _ _ _ _ (alloc_new hE)⟩ ?_
              rintro W4 ⟨u4, hEW, hrE⟩
              haveI := u4
              haveI : LtSize E W4 := ⟨hEW⟩
              have cE : W4.cell? ⟨E, 0, none⟩ = some (.int .i64 0) := by rw [cell_of_row W4 E 0 _ _ _ hrE]; exact h0
              clear h1c hsz' h0 hrc2
              go_wp2_with (first
                | (refine wpList_load_row rfl 26 _ rfl E rfl 26 d' (0, 0) _ hrE Tryd.underlying26 rfl hcs' ?_)
                | (go_at_call 5; refine (hcnt _ (g.up upI)).mono ?_; rintro e w' ⟨q, c2, rfl, hq, z5, rfl⟩)
                | (go_at_call 7; refine (hst _ _ _ inferInstance (RowOf.up hq upI)).mono ?_; rintro e w' ⟨rfl, z6, rfl⟩))
              go_ret
              exact ⟨rfl, mkI⟩
end Go.Proofs.YtbojbnpafoaljaaDoor
