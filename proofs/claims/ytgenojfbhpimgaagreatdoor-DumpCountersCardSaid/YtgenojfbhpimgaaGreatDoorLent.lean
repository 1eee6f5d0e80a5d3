/- Slices of strings with marks behind them, lent and kept. -/
import Derived.Test.YtgenojfbhpimgaaGreatDoorDEx
import Derived.Test.YtgenojfbhpimgaaGreatDoorRefA
import Derived.Laws.AppendOwnNone
import Derived.Laws.MakeOwn
namespace Go.Ab
open Go.RowKit Go.Proofs.YtgenojfbhpimgaaGreatDoor
def markL (i : Nat) : List UInt8 := [35, 1, 0, 0, 47, UInt8.ofNat i, 0, 0]
/-- A nil slice has no capacity. -/
def NilOk (v : Value) : Prop := ∀ n c, v = .slice none n c → c = 0
def marksL (n : Nat) : List (List UInt8) := (List.range n).map markL
theorem marksL_succ (n : Nat) : marksL (n + 1) = marksL n ++ [markL n] := by simp [marksL, List.range_succ]
theorem marksL_len (n : Nat) : (marksL n).length = n := by simp [marksL]
end Go.Ab
namespace Go.Proofs.YtgenojfbhpimgaaGreatDoor
open Go.RowKit Go.Ab
theorem run_bytes8 (w : World) (n : Nat) (c0 c1 c2 c3 c4 c5 c6 c7 : Int) [h : SizeIs w n] : (convert 196 9 (.slice (some ⟨n, 0, none⟩) 8 8)).run Tryz.prog (w.alloc (.cells #[.int .u8 c0, .int .u8 c1, .int .u8 c2, .int .u8 c3, .int .u8 c4, .int .u8 c5, .int .u8 c6, .int .u8 c7] 5)) = .ok (.string ⟨#[UInt8.ofNat c0.toNat, UInt8.ofNat c1.toNat, UInt8.ofNat c2.toNat, UInt8.ofNat c3.toNat, UInt8.ofNat c4.toNat, UInt8.ofNat c5.toNat, UInt8.ofNat c6.toNat, UInt8.ofNat c7.toNat]⟩) (w.alloc (.cells #[.int .u8 c0, .int .u8 c1, .int .u8 c2, .int .u8 c3, .int .u8 c4, .int .u8 c5, .int .u8 c6, .int .u8 c7] 5)) := by
  rw [run_convert_bytes_string _ _ _ _ _ _ _ Tryz.underlying196 Tryz.underlying5 Tryz.underlying9]
  have hl := run_loadCells_list (P := Tryz.prog) (w.alloc (.cells #[.int .u8 c0, .int .u8 c1, .int .u8 c2, .int .u8 c3, .int .u8 c4, .int .u8 c5, .int .u8 c6, .int .u8 c7] 5)) ⟨n, 0, none⟩ ([c0, c1, c2, c3, c4, c5, c6, c7].map (Value.int .u8)) (fun j v hj => by
    have e : Addr.add ⟨n, 0, none⟩ j = ⟨n, j, none⟩ := by cases j <;> simp [Addr.add]
    rw [e, alloc_at_cellI]
    simpa using hj)
  exact run_bytesToString _ _ 8 8 [c0, c1, c2, c3, c4, c5, c6, c7] hl
attribute [local go_sem high] run_bytes8
set_option maxHeartbeats 4000000 in
set_option maxRecDepth 100000 in
theorem mark_any (i : Nat) (hi : i < 12) (w : World) : Gives Tryz.prog 79 #[.int .i64 1, .int .i64 (i : Int)] w (.string ⟨(markL i).toArray⟩) := by
  unfold Gives
  rcases (by omega : i = 0 ∨ i = 1 ∨ i = 2 ∨ i = 3 ∨ i = 4 ∨ i = 5 ∨ i = 6 ∨ i = 7 ∨ i = 8 ∨ i = 9 ∨ i = 10 ∨ i = 11) with rfl | rfl | rfl | rfl | rfl | rfl | rfl | rfl | rfl | rfl | rfl | rfl
  all_goals
    go_enter Tryz.func79, Tryz.ntmps79
    go_wp2_with fail
    go_ret
    exact ⟨by first | rfl | decide, mkI⟩
theorem strRow_cells {w : World} {p : Addr} {n cap : Nat} {L : List (List UInt8)} (h : StrRow w (.slice (some p) n cap) L) (j : Nat) (u : Value) (hu : (strCells L)[j]? = some u) : w.cell? (p.add j) = some u := by
  unfold strCells at hu
  rw [List.getElem?_map] at hu
  cases hs : L[j]? with
  | none => rw [hs] at hu; cases hu
  | some s =>
    rw [hs] at hu
    obtain ⟨p', cap', hv, _, hc⟩ := h
    obtain ⟨b, o, hp, _, h2⟩ := hc j s hs
    simp only [Value.slice.injEq] at hv
    rw [← hv.1] at hp
    simp only [Option.some.injEq] at hp
    subst hp
    have := h2 0 _ rfl
    rw [Nat.add_zero, Nat.mul_one] at this
    have e : Addr.add ⟨b, o, none⟩ j = ⟨b, o + j, none⟩ := by cases j <;> simp [Addr.add]
    rw [e, this]
    simpa using hu
set_option maxHeartbeats 16000000 in
set_option maxRecDepth 100000 in
theorem lent_any (l : List (List UInt8)) (v : Value) (w : World) (hv : StrRow w v l) (hno : NilOk v) (hl : l.length ≤ 100000) :
    Calls Tryz.prog 43 #[v] w fun e w' => ∃ g cap, e = .returned (.slice (some ⟨g, 0, none⟩) l.length cap) ∧ l.length + 12 ≤ cap ∧ StrRow w' (.slice (some ⟨g, 0, none⟩) (l.length + 12) cap) (l ++ marksL 12) ∧ ∃ x : Ext w, w' = x.w := by
  obtain ⟨i0, hi, hy0, hy1, hy2⟩ := info_parts infoStr1
  obtain ⟨N, hN⟩ : ∃ N, l.length = N := ⟨_, rfl⟩
  have hrow := hv
  obtain ⟨p, cap, rfl, hle, hc⟩ := hv
  rw [hN] at hle hl hrow ⊢
  obtain ⟨mc, hms, hmk⟩ : ∃ mc : Array Value, mc.size = (N + 12) * 1 ∧ ∀ W : World, (Instr.makeSlice 31 (.int .i64 0) (.int .i64 ((N : Int) + 12))).run Tryz.prog W = .ok (.slice (some ⟨W.heap.size, 0, none⟩) 0 (N + 12)) (W.alloc (.cells mc 9)) := by
    refine ⟨madeCells (Value.string ⟨#[]⟩).cells ((N + 12) * 1), size_madeCells _ _, fun W => ?_⟩
    · have := run_makeSlice (P := Tryz.prog) (w := W) 31 9 i0 _ Tryz.underlying31 hi hy0 .i64 .i64 0 ((N : Int) + 12) (Int.le_refl _) (by omega) (by rw [hy1]; omega) (by rw [hy2]; omega) (by omega)
      rw [show ((N : Int) + 12).toNat = N + 12 by omega, hy1] at this
      exact this
  have hstart : ∀ W : World, Up w W → ∃ base : Nat, base = w.heap.size ∧ (W.alloc (.cells mc 9)).ownsRow w.heap.size 9 1 (.slice (some ⟨W.heap.size, 0, none⟩) 0 (N + 12)) 0 [] := fun W u => ⟨_, rfl, World.ownsRow_made W mc (N + 12) u.size (by unfold maxLen; omega) hms⟩
  have Hi := Lib.hid hi; have Hy0 := Lib.hid hy0; have Hy1 := Lib.hid hy1; have Hy2 := Lib.hid hy2
  have Hms := Lib.hid hms
  have HN := Lib.hid hN
  have HR := Lib.hid hrow
  have Hc := Lib.hid hc
  clear hi hy0 hy1 hy2 hN hrow hms hc
  have hw12 : wrap64 ((N : Int) + 12) = (N : Int) + 12 := IntWalk.wrap64_in _ ⟨by omega, by omega⟩
  go_enter Tryz.func43, Tryz.ntmps43
  go_upto_region 2 with fail
  go_cut [3] (fun v3 wx => UpI w wx ∧ wx.ownsRow w.heap.size 9 1 v3 N (strCells l))
  case first =>
    cases p with
    | none =>
      have h0 : l = [] := by
        cases l with
        | nil => rfl
        | cons x t => obtain ⟨b, o, h, _⟩ := Hc.out 0 x rfl; cases h
      have hN0 : N = 0 := by rw [← HN.out, h0]; rfl
      have hcap : cap = 0 := hno _ cap rfl
      subst hcap hN0
      subst h0
      go_wp2_with (refine wpList_append_own_none rfl _ _ 31 rfl w.heap.size 9 i0 1 Tryz.underlying31 Hi.out _ 0 [] rfl (World.ownsRow_made w mc (0 + 12) (Nat.le_refl _) (by unfold maxLen; omega) Hms.out) rfl ?_)
      go_meet
      exact ⟨inferInstance, World.ownsRow_made w mc (0 + 12) (Nat.le_refl _) (by unfold maxLen; omega) Hms.out⟩
    | some p =>
      have hlen : (strCells l).length = N * 1 := by unfold strCells; rw [List.length_map, HN.out, Nat.mul_one]
      have h1 : ∀ u ∈ strCells l, u.oneCell' = true := fun u hu => by
        unfold strCells at hu
        obtain ⟨s, _, rfl⟩ := List.mem_map.1 hu
        rfl
      go_wp2_with (at_builtin; refine wpList_append_own _ rfl _ _ 31 rfl w.heap.size 9 i0 (.string ⟨#[]⟩) 1 16 Tryz.underlying31 Hi.out Hy0.out Hy1.out Hy2.out rfl (by decide) _ 0 [] rfl (World.ownsRow_made w mc (N + 12) (Nat.le_refl _) (by unfold maxLen; omega) Hms.out) p N _ (strCells l) rfl hlen (fun j u h => (Up.cell_some' ((Up.refl w).alloc _) (strRow_cells HR.out j u h))) h1 (by unfold maxLen; omega) (by omega) (by rw [World.size_alloc]; omega) ?_; intro v' w1 hown' hgrow _)
      rw [Nat.zero_add, List.nil_append] at hown'
      have Hown' := Lib.hid hown'
      have hup : Up w w1 := Up.grown ((Up.refl w).alloc _) hgrow (fun k hk => by cases hk; exact Nat.le_refl _)
      clear hown' hgrow
      go_wp2_with fail
      go_meet
      exact ⟨⟨hup⟩, Hown'.out⟩
  case rest =>
    obtain ⟨uW, hown0⟩ := hcut
    haveI := uW
    have Hown0 := Lib.hid hown0
    clear hown0 hmk hstart HR Hc Hms
    go_wp2_with fail
    go_loopw [3, 4] (fun out i wr => ∃ k : Nat, k ≤ 12 ∧ i = .int .i64 (k : Int) ∧ Hid (wr.ownsRow w.heap.size 9 1 out (N + k) (strCells (l ++ marksL k))) ∧ Up w wr) (fun _ i _ => 12 - (intOf i).toNat)
    case atStart => exact ⟨0, by omega, rfl, Lib.hid (by rw [show marksL 0 = [] from rfl, List.append_nil]; exact Hown0.out), uW.up⟩
    case round =>
      clear Hown0
      obtain ⟨k, hk, rfl, Hown, hu⟩ := hrel
      haveI : UpI w wr := ⟨hu⟩
      by_cases hlt : k < 12
      · have hlt' : (k : Int) < 12 := by omega
        have hmk := fun W => mark_any k hlt W
        have HS := Lib.hid (show strCells (l ++ marksL (k + 1)) = strCells (l ++ marksL k) ++ [.string ⟨(markL k).toArray⟩] by rw [marksL_succ, ← List.append_assoc]; simp [strCells])
        go_wp2_with (first
          | (go_at_call 79; refine (hmk _).mono ?_; rintro e w' ⟨rfl, z1, rfl⟩)
          | (at_builtin; refine wpList_append_own _ rfl _ _ 31 rfl w.heap.size 9 i0 (.string ⟨#[]⟩) 1 16 Tryz.underlying31 Hi.out Hy0.out Hy1.out Hy2.out rfl (by decide) _ (N + k) (strCells (l ++ marksL k)) rfl (owns_up Hown.out (upI : Up wr _)) ⟨_, 0, none⟩ 1 1 [.string ⟨(markL k).toArray⟩] rfl rfl ?c1 ?c2 ?c3 ?c4 ?c5 ?_))
        case c1 => exact cell_one_new _ _ _
        case c2 => simp [Value.oneCell']
        case c3 => unfold maxLen; omega
        case c4 => omega
        case c5 => exact (upI : Up w _).size
        intro v' w1 hown' hgrow _
        have hu1 : Up w w1 := Up.grown (upI : Up w _) hgrow (owns_row Hown.out)
        have Hown' := Lib.hid hown'
        clear hown' hgrow
        go_wp2_with fail
        go_roundw
        case rel => exact ⟨k + 1, by omega, by go_num, Lib.hid (by rw [HS.out]; exact Hown'.out), hu1⟩
        case measure => simp [intOf]; omega
      · obtain rfl : k = 12 := by omega
        have hL : (l ++ marksL 12).length = N + 12 := by rw [List.length_append, HN.out, marksL_len]
        have hown2 := Hown.out
        have hrow2 : StrRow wr u3 (l ++ marksL 12) := StrRow.of_owns (by rw [hL]; exact hown2)
        obtain ⟨g, cap2, hv3, _, _, hcap2, _⟩ := owns_cells hown2 (by omega)
        rw [hv3] at hrow2 ⊢
        have HR2 := Lib.hid hrow2
        clear hrow2 hown2 hv3
        go_wp2_with fail
        go_ret
        exact ⟨g, cap2, rfl, hcap2, HR2.out, mkI⟩
set_option maxHeartbeats 16000000 in
set_option maxRecDepth 100000 in
theorem kept_any (l : List (List UInt8)) (v : Value) (g cap N : Nat) (w : World) (hN : l.length = N) (hv : StrRow w v l) (ho : StrRow w (.slice (some ⟨g, 0, none⟩) (N + 12) cap) (l ++ marksL 12)) (hcap : N + 12 ≤ cap) (hl : l.length ≤ 100000) :
    Gives Tryz.prog 47 #[.slice (some ⟨g, 0, none⟩) N cap, v] w (.bool true) := by
  obtain ⟨p, cap2, rfl, hle, hc⟩ := hv
  rw [hN] at hle hl ⊢
  have hoc := fun (j : Nat) (s : List UInt8) (h : (l ++ marksL 12)[j]? = some s) => strRow_cells ho j _ (by unfold strCells; rw [List.getElem?_map, h]; rfl)
  have hg : g < w.heap.size := by
    obtain ⟨p', c', hv', _, hc'⟩ := ho
    obtain ⟨b, o, hp, hb, _⟩ := hc' (N + 0) (markL 0) (by rw [List.getElem?_append_right (by omega), hN, show N + 0 - N = 0 by omega]; rfl)
    simp only [Value.slice.injEq] at hv'
    rw [← hv'.1] at hp
    cases hp
    exact hb
  have Hoc := Lib.hid hoc
  have Hc := Lib.hid hc
  have HN := Lib.hid hN
  clear hoc hc hN ho
  have hw12 : wrap64 ((N : Int) + 12) = (N : Int) + 12 := IntWalk.wrap64_in _ ⟨by omega, by omega⟩
  have s0 : (0 : Int) ≤ (N : Int) + 12 := by omega
  have s1 : (N : Int) + 12 ≤ (cap : Int) := by omega
  have s2 : ((N : Int) + 12).toNat = N + 12 := by omega
  unfold Gives
  go_enter Tryz.func47, Tryz.ntmps47
  go_wp2_with fail
  go_loopw [6] (fun i wr => ∃ k : Nat, k ≤ N + 12 ∧ i = .int .i64 (k : Int) ∧ ∃ x : Ext w, wr = x.w) (fun i _ => N + 12 - (intOf i).toNat)
  case atStart => exact ⟨0, by omega, rfl, mkI⟩
  case round =>
    obtain ⟨k, hk, rfl, x0, rfl⟩ := hrel
    haveI : LtSize g w := ⟨hg⟩
    have k0 : (0 : Int) ≤ (k : Int) := by omega
    by_cases hlt : k < N
    · have hlt' : (k : Int) < (N : Int) := by omega
      have hlt2 : (k : Int) < (N : Int) + 12 := by omega
      obtain ⟨s, hs⟩ : ∃ s, l[k]? = some s := ⟨_, List.getElem?_eq_getElem (by rw [HN.out]; exact hlt)⟩
      obtain ⟨b1, o1, rfl, hb1, hc1⟩ := Hc.out k s hs
      have c1 := hc1 0 _ rfl
      rw [Nat.add_zero, Nat.mul_one] at c1
      have c2 := Hoc.out k s (by rw [List.getElem?_append_left (by rw [HN.out]; exact hlt)]; exact hs)
      rw [show Addr.add ⟨g, 0, none⟩ k = ⟨g, k, none⟩ by cases k <;> simp [Addr.add]] at c2
      haveI : LtSize b1 w := ⟨hb1⟩
      have d1 : decide (k < N) = true := decide_eq_true hlt
      have d2 : decide (N ≤ k) = false := decide_eq_false (by omega)
      clear hc1 hs
      go_wp2_with fail
      (refine wp_region_ext (by kernel_rfl) (by kernel_rfl) ?_; (repeat (go_big_quiet_step (fail))); refine wpQuiet_nil ?_; rintro _ ⟨y, rfl⟩)
      go_wp2_with fail
      go_roundw
      case rel => exact ⟨k + 1, by omega, by go_num, mkI⟩
      case measure => simp [intOf]; omega
    · by_cases hlt2 : k < N + 12
      · have hlt3 : (k : Int) < (N : Int) + 12 := by omega
        have hge : (N : Int) ≤ (k : Int) := by omega
        have d1 : decide (k < N) = false := decide_eq_false (by omega)
        have d2 : decide (N ≤ k) = true := decide_eq_true (by omega)
        obtain ⟨j, hj⟩ : ∃ j, k - N = j := ⟨_, rfl⟩
        have hkj : (k : Int) - (N : Int) = (j : Int) := by omega
        have hmk := fun W => mark_any j (by omega) W
        have c2 := Hoc.out k (markL j) (by
          rw [List.getElem?_append_right (by rw [HN.out]; omega), HN.out, hj]
          unfold marksL
          rw [List.getElem?_map, List.getElem?_range (by omega)]; rfl)
        rw [show Addr.add ⟨g, 0, none⟩ k = ⟨g, k, none⟩ by cases k <;> simp [Addr.add]] at c2
        have hwj : wrap64 (j : Int) = (j : Int) := IntWalk.wrap64_in _ ⟨by omega, by omega⟩
        clear hj
        generalize markL j = mk at *
        go_wp2_with fail
        (refine wp_region_ext (by kernel_rfl) (by kernel_rfl) ?_; (repeat (go_big_quiet_step ((go_at_call 79; exact (hmk _).ext)))); refine wpQuiet_nil ?_; rintro _ ⟨y, rfl⟩)
        go_wp2_with fail
        go_roundw
        case rel => exact ⟨k + 1, by omega, by go_num, mkI⟩
        case measure => simp [intOf]; omega
      · have hge : (N : Int) + 12 ≤ (k : Int) := by omega
        go_wp2_with fail
        go_ret
        exact ⟨rfl, mkI⟩
end Go.Proofs.YtgenojfbhpimgaaGreatDoor
