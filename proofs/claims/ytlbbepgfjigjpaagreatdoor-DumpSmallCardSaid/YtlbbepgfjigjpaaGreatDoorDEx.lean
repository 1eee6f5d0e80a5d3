/- Counters and their lines (plain laws): what is written is read back. Package dump: the lines of counters. Two slices of strings compared. The examples of the chapter on dumps (plain facts). The package is awake. -/
import Derived.Test.YtlbbepgfjigjpaaGreatDoorDDump
import Derived.Test.YtlbbepgfjigjpaaGreatDoorTr1
import Derived.Test.YtlbbepgfjigjpaaGreatDoorDE
import Derived.Test.YtlbbepgfjigjpaaGreatDoorEqCh
namespace Go.Ab
open Go.Proofs.YtlbbepgfjigjpaaGreatDoor
theorem drs_name (r : Nat) (h0 : 1 ≤ r) (h1 : r < 31) : rsN ((namesL[r]?).getD []) = (r : Int) ∧ rsE ((namesL[r]?).getD []) = 0 ∧ (32 : UInt8) ∉ (namesL[r]?).getD [] := by
  have h : ∀ i : Nat, i < 31 → 1 ≤ i → rsN ((namesL[i]?).getD []) = (i : Int) ∧ rsE ((namesL[i]?).getD []) = 0 ∧ (32 : UInt8) ∉ (namesL[i]?).getD [] := by decide
  exact h r h1 h0
theorem drs_bd (s : List UInt8) (h : rsE s = 0) : 1 ≤ rsN s ∧ rsN s < 31 := by
  have := reasonFrom_bd s 30 1 rfl
  unfold rsE reasonOf at h
  unfold rsN reasonOf
  split at h
  · rename_i h1
    rw [if_pos h1]; omega
  · omega
/-- A line read into the counters. -/
def stepC (c : List Int) (s : List UInt8) : Option (List Int) := if rsE (cutC 32 s).1 = 0 then some (c.set (rsN (cutC 32 s).1).toNat (atoiV (cutC 32 s).2.1)) else none
def foldC : List Int → List (List UInt8) → Option (List Int)
  | c, [] => some c
  | c, s :: t => match stepC c s with | none => none | some c' => foldC c' t
def zeroC : List Int := List.replicate 31 0
/-- What is read from some lines. -/
def readC (l : List (List UInt8)) : Option (List Int) :=
  match foldC zeroC l with
  | none => none
  | some c => if (c.all fun n => decide (0 ≤ n)) && (countsL c == l) then some c else none
theorem step_line (pre post : List Int) (x n : Int) (r : Nat) (hr : pre.length = r) (h0 : 1 ≤ r) (h1 : r < 31) (hn : 0 < n) (hm : n ≤ 9223372036854775807) :
    stepC (pre ++ x :: post) (Lib.join [(namesL[r]?).getD [], dec n] [32]) = some (pre ++ n :: post) := by
  obtain ⟨e1, e2, e3⟩ := drs_name r h0 h1
  have hc : cutC 32 (Lib.join [(namesL[r]?).getD [], dec n] [32]) = ((namesL[r]?).getD [], dec n, true) := by
    rw [show Lib.join [(namesL[r]?).getD [], dec n] [32] = (namesL[r]?).getD [] ++ 32 :: dec n by simp [Lib.join]]
    exact cutC_app 32 _ _ e3
  unfold stepC
  rw [hc]
  simp only
  rw [if_pos e2, e1, atoiV_dec64 n (by omega) hm]
  subst hr
  simp
theorem fold_counts : ∀ (t pre : List Int) (r : Nat), pre.length = r → 1 ≤ r → r + t.length ≤ 31 → (∀ n ∈ t, 0 ≤ n ∧ n ≤ 9223372036854775807) → foldC (pre ++ List.replicate t.length 0) (countsFrom r t) = some (pre ++ t)
  | [], pre, r, _, _, _, _ => by simp [countsFrom, foldC]
  | n :: t, pre, r, hr, h0, h1, hb => by
    have hn := hb n (by simp)
    rw [List.length_cons] at h1
    have ih := fold_counts t (pre ++ [n]) (r + 1) (by simp [hr]) (by omega) (by omega) (fun m hm => hb m (by simp [hm]))
    rw [List.append_assoc, List.append_assoc] at ih
    rw [countsFrom, countW, List.length_cons, List.replicate_succ]
    by_cases hp : 0 < n
    · rw [if_pos ⟨h0, hp⟩, List.singleton_append, foldC, step_line pre _ 0 n r hr h0 (by omega) hp hn.2]
      exact ih
    · obtain rfl : n = 0 := by omega
      rw [if_neg (by omega), List.nil_append]
      exact ih
theorem counts_zero (n : Int) (t : List Int) : countsL (n :: t) = countsFrom 1 t := by
  unfold countsL
  rw [countsFrom, countW, if_neg (by omega), List.nil_append]
/-- What is written is read back, but for the reason 0. -/
theorem readC_counts (n : Int) (t : List Int) (h : t.length = 30) (hb : ∀ m ∈ t, 0 ≤ m ∧ m ≤ 9223372036854775807) : readC (countsL (n :: t)) = some (0 :: t) := by
  unfold readC
  rw [counts_zero]
  have := fold_counts t [0] 1 rfl (by omega) (by omega) hb
  rw [h] at this
  rw [show zeroC = [0] ++ List.replicate 30 0 from rfl, this]
  simp only [List.singleton_append]
  rw [counts_zero]
  have ha : ((0 :: t).all fun n => decide (0 ≤ n)) = true := by
    rw [List.all_eq_true]
    intro m hm
    rcases List.mem_cons.1 hm with rfl | hm
    · rfl
    · exact decide_eq_true (hb m hm).1
  rw [ha]
  simp
theorem step_head {c c' : List Int} {s : List UInt8} (h : stepC c s = some c') (h0 : c.head? = some 0) (hl : c.length = 31) : c'.head? = some 0 ∧ c'.length = 31 := by
  unfold stepC at h
  split at h
  · rename_i h1
    obtain ⟨b0, b1⟩ := drs_bd _ h1
    cases h
    refine ⟨?_, by simpa using hl⟩
    cases c with
    | nil => simp at h0
    | cons a t =>
      obtain ⟨k, hk⟩ : ∃ k, (rsN (cutC 32 s).1).toNat = k + 1 := ⟨(rsN (cutC 32 s).1).toNat - 1, by omega⟩
      rw [hk]
      simpa using h0
  · cases h
theorem fold_head : ∀ (l : List (List UInt8)) (c c' : List Int), foldC c l = some c' → c.head? = some 0 → c.length = 31 → c'.head? = some 0 ∧ c'.length = 31
  | [], c, c', h, h0, hl => by rw [foldC] at h; cases h; exact ⟨h0, hl⟩
  | s :: t, c, c', h, h0, hl => by
    rw [foldC] at h
    cases hs : stepC c s with
    | none => rw [hs] at h; cases h
    | some c1 =>
      rw [hs] at h
      obtain ⟨h1, h2⟩ := step_head hs h0 hl
      exact fold_head t c1 c' h h1 h2
/-- What is read is the text of what it gives. -/
theorem readC_some {l : List (List UInt8)} {c : List Int} (h : readC l = some c) : countsL c = l ∧ c.head? = some 0 ∧ c.length = 31 ∧ ∀ n ∈ c, 0 ≤ n := by
  unfold readC at h
  split at h
  · cases h
  · rename_i c1 h1
    split at h
    · rename_i h2
      cases h
      simp only [Bool.and_eq_true, beq_iff_eq, List.all_eq_true, decide_eq_true_eq] at h2
      obtain ⟨h3, h4⟩ := fold_head l _ _ h1 rfl rfl
      exact ⟨h2.2, h3, h4, h2.1⟩
    · cases h
end Go.Ab
namespace Go.Ab
open Go.RowKit Go.Proofs.YtlbbepgfjigjpaaGreatDoor
/-- The lines of the first k counters. -/
def countsK (c : List Int) (k : Nat) : List (List UInt8) := (List.range k).flatMap fun r => countW r (c.getD r 0)
theorem countsK_succ (c : List Int) (k : Nat) : countsK c (k + 1) = countsK c k ++ countW k (c.getD k 0) := by simp [countsK, List.range_succ]
theorem countsFrom_range : ∀ (t : List Int) (r : Nat) (c : List Int), c.drop r = t → r ≤ c.length → countsFrom r t = (List.range' r t.length).flatMap fun j => countW j (c.getD j 0)
  | [], _, _, _, _ => rfl
  | n :: t, r, c, h, hr => by
    have hlt : r < c.length := by
      rcases Nat.lt_or_ge r c.length with h1 | h1
      · exact h1
      · rw [List.drop_of_length_le h1] at h; cases h
    have h2 := List.drop_eq_getElem_cons hlt
    rw [h] at h2
    injection h2 with h3 h4
    rw [countsFrom, List.length_cons, List.range'_succ, List.flatMap_cons, countsFrom_range t (r + 1) c h4.symm hlt]
    congr 2
    rw [h3, List.getD_eq_getElem?_getD, List.getElem?_eq_getElem hlt]; rfl
theorem countsL_range (c : List Int) : countsL c = countsK c c.length := by
  unfold countsL countsK
  rw [countsFrom_range c 0 c rfl (Nat.zero_le _), List.range_eq_range']
theorem names_ne (r : Nat) (h0 : 1 ≤ r) (h1 : r < 31) : (namesL[r]?).getD [] ≠ [] := by
  have h : ∀ i : Nat, i < 31 → 1 ≤ i → (namesL[i]?).getD [] ≠ [] := by decide
  exact h r h1 h0
theorem join2 (a b : List UInt8) (ha : a ≠ []) (hb : b ≠ []) : joinW [a, b] = Lib.join [a, b] [32] := by
  unfold joinW
  have ne : ∀ x : List UInt8, x ≠ [] → x.isEmpty = false := fun x hx => by cases x with | nil => exact absurd rfl hx | cons _ _ => rfl
  simp only [List.filter_cons, List.filter_nil, ne _ ha, ne _ hb, Bool.not_false, if_true]
def countsE (c : List Int) (w0 : World) (e : Ending) (w' : World) (t : TypeId) : Prop :=
  match c.all fun n => decide (0 ≤ n) with
  | true => ∃ u, e = .returned (.tuple #[u, .int .i64 0]) ∧ w'.ownsRow w0.heap.size t 1 u (countsL c).length (strCells (countsL c))
  | false => e = .returned (.tuple #[.slice none 0 0, .int .i64 2])
theorem strCells_app (a b : List (List UInt8)) : strCells (a ++ b) = strCells a ++ strCells b := by simp [strCells]
end Go.Ab
namespace Go.Proofs.YtlbbepgfjigjpaaGreatDoor
open Go.RowKit Go.Ab
theorem words2 (w1 W : World) (n : Nat) (a1 a2 : List UInt8) (hn : SizeIs W n) (hu : UpI w1 W) (hl : a1.length + a2.length ≤ 500) :
    Calls Tryz.prog 36 #[.slice (some ⟨n, 0, none⟩) 2 2] (W.alloc (.cells #[.string ⟨a1.toArray⟩, .string ⟨a2.toArray⟩] 9)) fun e w' =>
      e = .returned (.string ⟨(joinW [a1, a2]).toArray⟩) ∧ ∃ x : Ext w1, w' = x.w := by
  have hsz := hn.eq
  have hle := hu.up.size
  refine (dwords_any w1 _ (hu.up.alloc _) n 0 2 [a1, a2] (by omega) (by rw [World.size_alloc]; omega) (Nat.le_refl 2) (by simp) (fun j x hj => ?_) (by have := joinW_length [a1, a2]; simp at this; omega)).mono fun e w' ⟨h1, h2, _⟩ => ⟨h1, h2⟩
  have hj2 : j < 2 := (List.getElem?_eq_some_iff.1 hj).1
  rw [Nat.zero_add, alloc_at_cellI, alloc_at_frozenI]
  rcases (by omega : j = 0 ∨ j = 1) with rfl | rfl
  all_goals (simp at hj; subst hj; exact ⟨rfl, rfl⟩)
theorem index31 (cs : Array Value) (k : Nat) (v : Value) (hk : k < 31) (h : cs[k]? = some v) (w : World) : (Instr.index 45 (.agg cs) (.int .i64 (k : Int))).run Tryz.prog w = .ok v w := by
  have h1 : (0 : Int) ≤ (k : Int) ∧ (k : Int) < ((31 : Nat) : Int) := by omega
  simp [Instr.index, asIntOf, run_underlying Tryz.underlying45, go_sem, part, h, hk]
set_option maxHeartbeats 16000000 in
set_option maxRecDepth 100000 in
theorem dcounts_any (c : List Int) (w : World) (g : GoodD w) (hc : c.length = 31) (hb : ∀ n ∈ c, -9223372036854775808 ≤ n ∧ n ≤ 9223372036854775807) :
    Calls Tryz.prog 11 #[.agg (c.map (Value.int .i64)).toArray] w fun e w' => countsE c w e w' 9 ∧ ∃ x : Ext w, w' = x.w := by
  have hat : ∀ k, k < 31 → ∃ n, c[k]? = some n ∧ c.getD k 0 = n ∧ (c.map (Value.int .i64)).toArray[k]? = some (.int .i64 n) := fun k hk => by
    refine ⟨c[k]'(by omega), List.getElem?_eq_getElem (by omega), ?_, ?_⟩
    · rw [List.getD_eq_getElem?_getD, List.getElem?_eq_getElem (by omega)]; rfl
    · simp [List.getElem?_eq_getElem (show k < c.length by omega)]
  have hsz : (c.map (Value.int .i64)).toArray.size = 31 := by simp [hc]
  generalize (c.map (Value.int .i64)).toArray = cs at *
  have Hat := Lib.hid hat
  have Hb := Lib.hid hb
  have Hc := Lib.hid hc
  clear hat hb hc
  obtain ⟨i0, hi, hy0, hy1, hy2⟩ := info_parts infoStr1
  have Hi := Lib.hid hi; have Hy0 := Lib.hid hy0; have Hy1 := Lib.hid hy1; have Hy2 := Lib.hid hy2
  clear hi hy0 hy1 hy2
  go_enter Tryz.func11, Tryz.ntmps11
  go_upto_region 3 with (refine wpList_load_row rfl 45 _ rfl _ rfl 45 cs (0, 0) _ (World.alloc_heap_new w _) Tryz.underlying45 rfl (by rw [hsz]; kernel_rfl) ?_)
  go_loopw [4, 10] (fun out i wr => ∃ (k n : Nat), k ≤ 31 ∧ i = .int .i64 (k : Int) ∧ Hid (∀ j, j < k → 0 ≤ c.getD j 0) ∧ Hid ((countsK c k).length = n ∧ n ≤ k) ∧ Hid (wr.ownsRow w.heap.size 9 1 out n (strCells (countsK c k))) ∧ ∃ x : Ext w, wr = x.w) (fun _ i _ => 31 - (intOf i).toNat)
  case atStart => exact ⟨0, 0, Nat.zero_le _, rfl, Lib.hid (fun j hj => absurd hj (Nat.not_lt_zero j)), Lib.hid ⟨rfl, Nat.le_refl _⟩, Lib.hid (World.ownsRow_nil _ _ _ _), mkI⟩
  case round =>
    obtain ⟨k, n, hk, rfl, Hk, Hn, Hown, x0, rfl⟩ := hrel
    by_cases hlt : k < 31
    · have hlt' : (k : Int) < 31 := by omega
      have k0 : (0 : Int) ≤ (k : Int) := by omega
      have hmod : (k : Int) % 256 = (k : Int) := by omega
      obtain ⟨m, hm1, hm2, hm3⟩ := Hat.out k hlt
      obtain ⟨mb0, mb1⟩ := Hb.out m (List.mem_of_getElem? hm1)
      have hnm := fun w g => name_any (k : Int) w g k0 (by omega)
      have hix := index31 cs k _ hlt hm3
      have hS := countsK_succ c k
      rw [hm2] at hS
      by_cases hneg : m < 0
      · have E := Lib.hid (show (c.all fun n => decide (0 ≤ n)) = false by
          rw [List.all_eq_false]; exact ⟨m, List.mem_of_getElem? hm1, by simp; omega⟩)
        clear hS hnm
        go_wp2_with fail
        go_ret2
        unfold countsE
        rw [E.out]
        exact ⟨rfl, mkI⟩
      · have hpos : 0 ≤ m := by omega
        have Hk2 := Lib.hid (show ∀ j, j < k + 1 → 0 ≤ c.getD j 0 from fun j hj => by
          rcases Nat.lt_or_eq_of_le (Nat.le_of_lt_succ hj) with h | h
          · exact Hk.out j h
          · rw [h, hm2]; exact hpos)
        clear hneg
        by_cases hk1 : 1 ≤ k
        · by_cases hp : 0 < m
          · have hnm2 : ∀ w, GoodN w → Gives Tryz.prog 35 #[.int .u8 (k : Int)] w (.tuple #[.string ⟨((namesL[k]?).getD []).toArray⟩, .int .i64 0]) := fun w g => (hnm w g).cast (by unfold nameOf nameE; rw [if_pos (by omega), if_pos (by omega)]; simp)
            have hj := join2 ((namesL[k]?).getD []) (dec m) (names_ne k hk1 hlt) (dec_neL m)
            have hl1 : ((namesL[k]?).getD []).length ≤ 8 := by
              obtain ⟨s, hs⟩ := names_at k hlt
              rw [hs]; exact names_short _ _ hs
            have hl2 := dec_length m mb0 mb1
            have hL := Lib.hid (show ((namesL[k]?).getD []).length + (dec m).length ≤ 500 by omega)
            rw [countW, if_pos ⟨hk1, hp⟩, ← hj] at hS
            have h3 : ∀ w, Go.Proofs.YtlbbepgfjigjpaaGreatDoor.Good w → Gives Tryz.prog 37 #[.int .i64 m] w (.string ⟨(dec m).toArray⟩) := fun w g => itoa_any m w g mb0 mb1
            generalize (namesL[k]?).getD [] = nm at *
            generalize dec m = dm at *
            have HS := Lib.hid (show strCells (countsK c (k + 1)) = strCells (countsK c k) ++ [.string ⟨(joinW [nm, dm]).toArray⟩] by rw [hS, strCells_app]; rfl)
            have HN2 := Lib.hid (show (countsK c (k + 1)).length = n + 1 ∧ n + 1 ≤ k + 1 by rw [hS, List.length_append, Hn.out.1]; exact ⟨rfl, by have := Hn.out.2; omega⟩)
            have hn31 : n ≤ 31 := by have := Hn.out.2; omega
            generalize strCells (countsK c k) = ss at *
            clear hS hj hl1 hl2 hnm Hk Hn hm1 hm2
            go_wp2_with (first
              | (go_at_call 35; refine (hnm2 _ (g.goodN.up upI)).mono ?_; rintro e w' ⟨rfl, z1, rfl⟩)
              | (go_at_call 37; refine (h3 _ (g.good.up upI)).mono ?_; rintro e w' ⟨rfl, z2, rfl⟩)
              | (go_at_call 36; refine (words2 x0.w _ _ nm dm (by infer_instance) (by infer_instance) hL.out).mono ?_; rintro e w' ⟨rfl, z3, rfl⟩)
              | (at_builtin; refine wpList_append_own _ rfl _ _ 23 rfl w.heap.size 9 i0 (.string ⟨#[]⟩) 1 16 Tryz.underlying23 Hi.out Hy0.out Hy1.out Hy2.out rfl (by decide) _ _ _ rfl (owns_up Hown.out (upI : Up x0.w _)) ⟨_, 0, none⟩ 1 1 [.string ⟨(joinW [nm, dm]).toArray⟩] rfl rfl ?c1 ?c2 ?c3 ?c4 ?c5 ?_))
            case c1 => exact cell_one_new _ _ _
            case c2 => simp [Value.oneCell']
            case c3 => unfold maxLen; omega
            case c4 => omega
            case c5 => exact (upI : Up w _).size
            intro v' w1 hown' hgrow _
            have hu1 : Up w w1 := Up.grown (upI : Up w _) hgrow (owns_row Hown.out)
            obtain ⟨x1, rfl⟩ := hu1.mk
            have Hown' := Lib.hid hown'
            clear hown' hgrow Hown hnm2 h3 hu1
            go_wp2_with fail
            go_roundw
            case rel => exact ⟨k + 1, n + 1, by omega, by go_num, Hk2, HN2, by rw [HS.out]; exact Hown', mkI⟩
            case measure => simp [intOf]; omega
          · obtain rfl : m = 0 := by omega
            have hnm2 : ∀ w, GoodN w → Gives Tryz.prog 35 #[.int .u8 (k : Int)] w (.tuple #[.string ⟨((namesL[k]?).getD []).toArray⟩, .int .i64 0]) := fun w g => (hnm w g).cast (by unfold nameOf nameE; rw [if_pos (by omega), if_pos (by omega)]; simp)
            rw [countW, if_neg (by omega), List.append_nil] at hS
            have HS := Lib.hid hS
            have Hn2 := Hn.out.2
            generalize (namesL[k]?).getD [] = nm at *
            clear hS hnm hm1 hm2
            go_wp2_with (go_at_call 35; refine (hnm2 _ (g.goodN.up upI)).mono ?_; rintro e w' ⟨rfl, z1, rfl⟩)
            go_roundw
            case rel => exact ⟨k + 1, n, by omega, by go_num, Hk2, Lib.hid ⟨by rw [HS.out]; exact Hn.out.1, by omega⟩, Lib.hid (by rw [HS.out]; exact owns_up Hown.out upI), mkI⟩
            case measure => simp [intOf]; omega
        · have hnm2 : ∀ w, GoodN w → Gives Tryz.prog 35 #[.int .u8 (k : Int)] w (.tuple #[.string ⟨#[]⟩, .int .i64 6]) := fun w g => (hnm w g).cast (by unfold nameOf nameE; rw [if_neg (by omega), if_neg (by omega)])
          rw [countW, if_neg (by omega), List.append_nil] at hS
          have HS := Lib.hid hS
          have Hn2 := Hn.out.2
          clear hS hnm hm1 hm2
          go_wp2_with (go_at_call 35; refine (hnm2 _ (g.goodN.up upI)).mono ?_; rintro e w' ⟨rfl, z1, rfl⟩)
          go_roundw
          case rel => exact ⟨k + 1, n, by omega, by go_num, Hk2, Lib.hid ⟨by rw [HS.out]; exact Hn.out.1, by omega⟩, Lib.hid (by rw [HS.out]; exact owns_up Hown.out upI), mkI⟩
          case measure => simp [intOf]; omega
    · obtain rfl : k = 31 := by omega
      have E := Lib.hid (show (c.all fun n => decide (0 ≤ n)) = true by
        rw [List.all_eq_true]
        intro z hz
        obtain ⟨j, hj⟩ := List.getElem?_of_mem hz
        have hj31 : j < 31 := by have := (List.getElem?_eq_some_iff.1 hj).1; rw [Hc.out] at this; exact this
        have h1 := Hk.out j hj31
        rw [List.getD_eq_getElem?_getD, hj] at h1
        exact decide_eq_true h1)
      have E2 := Lib.hid (show countsK c 31 = countsL c by rw [countsL_range, Hc.out])
      have hown := Hown.out
      rw [E2.out, ← Hn.out.1, E2.out] at hown
      have Hown2 := Lib.hid hown
      clear hown
      go_wp2_with fail
      go_ret2
      unfold countsE
      rw [E.out]
      exact ⟨⟨_, rfl, Hown2.out⟩, mkI⟩
end Go.Proofs.YtlbbepgfjigjpaaGreatDoor
namespace Go.Ab
open Go.RowKit Go.Proofs.YtlbbepgfjigjpaaGreatDoor
theorem list_ne_at {a b : List (List UInt8)} {k : Nat} {x y : List UInt8} (ha : a[k]? = some x) (hb : b[k]? = some y) (h : x ≠ y) : (a == b) = false := by
  rw [beq_eq_false_iff_ne]
  rintro rfl
  rw [ha] at hb
  exact h (by simpa using hb)
end Go.Ab
namespace Go.Proofs.YtlbbepgfjigjpaaGreatDoor
open Go.RowKit Go.Ab
set_option maxHeartbeats 8000000 in
set_option maxRecDepth 100000 in
theorem sametexts_any (a b : List (List UInt8)) (va vb : Value) (w : World) (ha : StrRow w va a) (hb : StrRow w vb b) (la : a.length ≤ 1000000) (lb : b.length ≤ 1000000) : Gives Tryz.prog 41 #[va, vb] w (.bool (a == b)) := by
  obtain ⟨p, cap, rfl, hle, hc⟩ := ha
  obtain ⟨q, cap2, rfl, hle2, hd⟩ := hb
  obtain ⟨N, hN⟩ : ∃ N, a.length = N := ⟨_, rfl⟩
  obtain ⟨M, hM⟩ : ∃ M, b.length = M := ⟨_, rfl⟩
  rw [hN] at hle la ⊢
  rw [hM] at hle2 lb ⊢
  have HN := Lib.hid hN
  have HM := Lib.hid hM
  have Hc := Lib.hid hc
  have Hd := Lib.hid hd
  clear hN hM hc hd
  unfold Gives
  by_cases hNM : N = M
  · subst hNM
    go_enter Tryz.func41, Tryz.ntmps41
    go_wp2_with fail
    go_loopw [5] (fun i wr => ∃ k : Nat, k ≤ N ∧ i = .int .i64 (k : Int) ∧ Hid (∀ j, j < k → a[j]? = b[j]?) ∧ ∃ x : Ext w, wr = x.w) (fun i _ => N - (intOf i).toNat)
    case atStart => exact ⟨0, Nat.zero_le _, rfl, Lib.hid (fun j hj => absurd hj (Nat.not_lt_zero j)), (Up.refl w).mk⟩
    case round =>
      obtain ⟨k, hk, rfl, Hk, x0, rfl⟩ := hrel
      by_cases hlt : k < N
      · have hlt' : (k : Int) < (N : Int) := by omega
        have k0 : (0 : Int) ≤ (k : Int) := by omega
        obtain ⟨s, hs⟩ : ∃ s, a[k]? = some s := ⟨_, List.getElem?_eq_getElem (by rw [HN.out]; exact hlt)⟩
        obtain ⟨t, ht⟩ : ∃ t, b[k]? = some t := ⟨_, List.getElem?_eq_getElem (by rw [HM.out]; exact hlt)⟩
        obtain ⟨b1, o1, rfl, hb1, hc1⟩ := Hc.out k s hs
        obtain ⟨b2, o2, rfl, hb2, hc2⟩ := Hd.out k t ht
        have c1 := hc1 0 _ rfl
        have c2 := hc2 0 _ rfl
        rw [Nat.add_zero, Nat.mul_one] at c1 c2
        haveI : LtSize b1 w := ⟨hb1⟩
        haveI : LtSize b2 w := ⟨hb2⟩
        have Hs := Lib.hid hs
        have Ht := Lib.hid ht
        clear hc1 hc2 hs ht
        cases he : (s == t)
        · have E := Lib.hid (list_ne_at Hs.out Ht.out (fun e => by rw [e] at he; simp at he))
          go_wp2_with fail
          (refine wp_region_ext (by kernel_rfl) (by kernel_rfl) ?_; (repeat (go_big_quiet_step (fail))); refine wpQuiet_nil ?_; rintro _ ⟨y, rfl⟩)
          go_wp2_with fail
          go_ret
          exact ⟨ret_bool E.out.symm, mkI⟩
        · have E := Lib.hid (show a[k]? = b[k]? by rw [Hs.out, Ht.out]; simpa using he)
          go_wp2_with fail
          (refine wp_region_ext (by kernel_rfl) (by kernel_rfl) ?_; (repeat (go_big_quiet_step (fail))); refine wpQuiet_nil ?_; rintro _ ⟨y, rfl⟩)
          go_wp2_with fail
          go_roundw
          case rel => exact ⟨k + 1, by omega, by go_num, Lib.hid (fun j hj => by rcases Nat.lt_or_eq_of_le (Nat.le_of_lt_succ hj) with h | h; exact Hk.out j h; rw [h]; exact E.out), mkI⟩
          case measure => simp [intOf]; omega
      · have hlt' : (N : Int) ≤ (k : Int) := by omega
        have E := Lib.hid (show (a == b) = true by
          rw [beq_iff_eq]
          apply List.ext_getElem?
          intro j
          by_cases hj : j < N
          · exact Hk.out j (by omega)
          · rw [List.getElem?_eq_none (by rw [HN.out]; omega), List.getElem?_eq_none (by rw [HM.out]; omega)])
        clear hk hlt
        go_wp2_with fail
        go_ret
        exact ⟨ret_bool E.out.symm, mkI⟩
  · have E := Lib.hid (show (a == b) = false by
      rw [beq_eq_false_iff_ne]
      rintro rfl
      exact hNM (HN.out.symm.trans HM.out))
    have hNM' : ((N : Int) == (M : Int)) = false := by rw [beq_eq_false_iff_ne]; omega
    go_enter Tryz.func41, Tryz.ntmps41
    go_wp2_with fail
    go_ret
    exact ⟨ret_bool E.out.symm, mkI⟩
end Go.Proofs.YtlbbepgfjigjpaaGreatDoor
namespace Go.Ab
open Go.RowKit Go.Proofs.YtlbbepgfjigjpaaGreatDoor
def exA : Ln := ⟨6, 167772161, 134744072, 40000, 80, 0, 1, true, true, 500, 7⟩
def exB : Ln := ⟨17, 167772161, 134744072, 53, 53, 1, 5, false, false, 30, 1⟩
def exTa : List UInt8 := [54, 32, 49, 48, 46, 48, 46, 48, 46, 49, 58, 52, 48, 48, 48, 48, 32, 56, 46, 56, 46, 56, 46, 56, 58, 56, 48, 32, 105, 110, 115, 105, 100, 101, 32, 116, 99, 112, 45, 111, 112, 101, 110, 32, 114, 101, 112, 108, 105, 101, 100, 32, 97, 115, 115, 117, 114, 101, 100, 32, 100, 101, 97, 100, 108, 105, 110, 101, 32, 53, 48, 48, 32, 115, 101, 101, 110, 32, 55]
def exTb : List UInt8 := [49, 55, 32, 49, 48, 46, 48, 46, 48, 46, 49, 58, 53, 51, 32, 56, 46, 56, 46, 56, 46, 56, 58, 53, 51, 32, 111, 117, 116, 115, 105, 100, 101, 32, 117, 100, 112, 45, 111, 110, 101, 32, 100, 101, 97, 100, 108, 105, 110, 101, 32, 51, 48, 32, 115, 101, 101, 110, 32, 49]
def bad1 : List UInt8 := [49, 55, 32, 49, 48, 46, 48, 46, 48, 46, 49, 58, 53, 51, 32, 56, 46, 56, 46, 56, 46, 56, 58, 53, 51, 32, 111, 117, 116, 115, 105, 100, 101, 32, 117, 100, 112, 45, 111, 110, 101, 32, 97, 115, 115, 117, 114, 101, 100, 32, 100, 101, 97, 100, 108, 105, 110, 101, 32, 51, 48, 32, 115, 101, 101, 110, 32, 49]
def bad2 : List UInt8 := [49, 55, 32, 49, 48, 46, 48, 46, 48, 46, 49, 58, 53, 51, 32, 56, 46, 56, 46, 56, 46, 56, 58, 53, 51, 32, 111, 117, 116, 115, 105, 100, 101, 32, 117, 100, 112, 45, 111, 110, 101, 32, 100, 101, 97, 100, 108, 105, 110, 101, 32, 45, 49, 32, 115, 101, 101, 110, 32, 49]
def bad3 : List UInt8 := [49, 55, 32, 49, 48, 46, 48, 46, 48, 46, 49, 58, 53, 51, 32, 56, 46, 56, 46, 56, 46, 56, 58, 53, 51, 32, 111, 117, 116, 115, 105, 100, 101, 32, 32, 117, 100, 112, 45, 111, 110, 101, 32, 100, 101, 97, 100, 108, 105, 110, 101, 32, 51, 48, 32, 115, 101, 101, 110, 32, 49]
def exC : List Int := [0, 0, 0, 0, 0, 0, 0, 0, 0, 0, 0, 1, 0, 0, 0, 0, 0, 0, 0, 0, 3, 0, 0, 0, 0, 0, 0, 0, 0, 0, 0]
theorem exA_b : LnB exA := by constructor <;> first | (constructor <;> decide) | decide
theorem exB_b : LnB exB := by constructor <;> first | (constructor <;> decide) | decide
theorem ex_ordered : orderedL [exA, exB] = true := by decide +kernel
theorem ex_ordered1 : orderedL [exA] = true := by decide +kernel
theorem ex_ta : exA.text = exTa := by decide +kernel
theorem ex_tb : exB.text = exTb := by decide +kernel
theorem ex_reads : readsL [exTa, exTb] = (some [exA, exB], 0) := by decide +kernel
theorem bad1_none : readLn bad1 = none := by decide +kernel
theorem bad2_none : readLn bad2 = none := by decide +kernel
theorem bad3_none : readLn bad3 = none := by decide +kernel
theorem ex_diff : diffL [exA] [exA, exB] = [⟨1, Ln.zero, exB⟩] := by decide +kernel
theorem ex_counts : countsL exC = [[116, 116, 108, 32, 49], [102, 108, 111, 119, 32, 51]] := by decide +kernel
theorem ex_countsB : (exC.all fun n => decide (0 ≤ n)) = true := by decide +kernel
end Go.Ab
namespace Go.Ab
open Go.RowKit Go.Proofs.YtlbbepgfjigjpaaGreatDoor
theorem strCells_flat : ∀ l : List (List UInt8), l.flatMap (fun x : List UInt8 => [Value.string ⟨x.toArray⟩]) = strCells l
  | [] => rfl
  | a :: t => by rw [List.flatMap_cons, strCells_flat t]; rfl
theorem StrRow.of_owns {w : World} {base : Nat} {t : TypeId} {v : Value} {l : List (List UInt8)} (h : w.ownsRow base t 1 v l.length (strCells l)) : StrRow w v l :=
  RowOf.of_owns (cells := fun x : List UInt8 => [Value.string ⟨x.toArray⟩]) (fun _ => rfl) (by rw [show l.flatMap (fun x : List UInt8 => [Value.string ⟨x.toArray⟩]) = strCells l by unfold strCells; exact strCells_flat l]; exact h)
theorem LnRow.of_owns {w : World} {base : Nat} {t : TypeId} {v : Value} {l : List Ln} (h : w.ownsRow base t 11 v l.length (l.flatMap Ln.cells)) : LnRow w v l := RowOf.of_owns (cells := Ln.cells) (fun x => x.cells_length) h
theorem alloc_new {w : World} {n : Nat} {o : Obj} (h : w.heap.size = n) : (w.alloc o).heap[n]? = some o := by subst h; exact World.alloc_heap_new w o
theorem ex_bd : ∀ x ∈ [exA, exB], LnB x := by
  intro x hx
  rcases List.mem_cons.1 hx with rfl | hx
  · exact exA_b
  · obtain rfl := List.mem_singleton.1 hx; exact exB_b
end Go.Ab
namespace Go.Proofs.YtlbbepgfjigjpaaGreatDoor
open Go.RowKit Go.Ab
set_option maxHeartbeats 8000000 in
set_option maxRecDepth 100000 in
theorem dexamples_any (w : World) : Calls Tryz.prog 4 #[] w fun e w' => ∃ p q, e = .returned (.tuple #[.slice (some ⟨p, 0, none⟩) 2 2, .slice (some ⟨q, 0, none⟩) 2 2]) ∧ LnRow w' (.slice (some ⟨p, 0, none⟩) 2 2) [exA, exB] ∧ StrRow w' (.slice (some ⟨q, 0, none⟩) 2 2) [exTa, exTb] ∧ ∃ x : Ext w, w' = x.w := by
  go_enter Tryz.func4, Tryz.ntmps4
  go_wp2
  go_ret2
  refine ⟨_, _, rfl, ?_, ?_, mkI⟩
  · refine RowOf.of_block (cells := Ln.cells) (k := 11) (t := 31) (fz := (0, 0)) (fun x => x.cells_length) (l := [exA, exB]) ?_ (Nat.le_refl _)
    rw [Below.heap_alloc _ _ _ (by simp)]
    exact alloc_new rfl
  · refine RowOf.of_block (cells := fun x : List UInt8 => [Value.string ⟨x.toArray⟩]) (t := 9) (fz := (0, 0)) (fun _ => rfl) (l := [exTa, exTb]) ?_ (Nat.le_refl _)
    exact alloc_new (by simp)
end Go.Proofs.YtlbbepgfjigjpaaGreatDoor
