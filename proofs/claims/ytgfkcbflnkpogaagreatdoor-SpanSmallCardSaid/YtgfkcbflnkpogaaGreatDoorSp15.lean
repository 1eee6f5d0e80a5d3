/- The sets of the outright statements: what Made returns. -/
import Derived.Test.YtgfkcbflnkpogaaGreatDoorSp14
set_option linter.unusedSimpArgs false
set_option linter.unusedVariables false
namespace Go.Ab
open Go.RowKit
def pcCells (x : SPc) : List Value := [.int .u8 x.g, .int .u8 x.l, .bool x.h]
abbrev PcRow (w : World) (v : Value) (l : List SPc) : Prop := RowOf pcCells 3 w v l
class InU64 (n : Int) : Prop where
  h : 0 ≤ n ∧ n ≤ 18446744073709551615
theorem wrapU64 (n : Int) [h : InU64 n] : IntKind.u64.wrap n = n := by
  have := h.h
  rw [IntKind.wrap_u64]; omega
class InU32 (n : Int) : Prop where
  h : 0 ≤ n ∧ n ≤ 4294967295
theorem wrapU32 (n : Int) [h : InU32 n] : IntKind.u32.wrap n = n := IntWalk.u32_in _ h.h
theorem madeF_step {m : Int} {x : SPc} {r : List SPc} : madeF m (x :: r) = if 4294967296 ≤ upS m x.h + x.g + x.l % 16 then [] else (upS m x.h + x.g, upS m x.h + x.g + x.l % 16) :: madeF (upS m x.h + x.g + x.l % 16 + 2) r := by rw [madeF]
end Go.Ab
namespace Go.Proofs.YtgfkcbflnkpogaaGreatDoor
open Go.RowKit Go.Ab
attribute [local go_sem high] wrapI64 wrapK64 wrapU64 wrapU32
set_option maxHeartbeats 16000000 in
set_option maxRecDepth 100000 in
theorem made_any (l : List SPc) (v : Value) (w : World) (hv : PcRow w v l) (hb : ∀ x ∈ l, SPcB x) (hl : l.length ≤ 9223372036854775807) :
    Calls Tryz.prog 12 #[v] w fun e w' => ∃ u, e = .returned u ∧ w'.ownsRow w.heap.size 39 2 u (madeS l).length ((madeS l).flatMap spCells) ∧ ∃ x : Ext w, w' = x.w := by
  obtain ⟨p, cap, rfl, hle, hc⟩ := hv
  obtain ⟨L, hL⟩ : ∃ L, l.length = L := ⟨_, rfl⟩
  rw [hL] at hle hl ⊢
  obtain ⟨N, hN⟩ : ∃ N, min L 40 = N := ⟨_, rfl⟩
  have hmin : min (L : Int) 40 = (N : Int) := by omega
  have hN40 : N ≤ 40 := by omega
  have hNL : N ≤ L := by omega
  have hNc : (N : Int) ≤ (cap : Int) := by omega
  have HL := Lib.hid hL
  have Hc := Lib.hid hc
  have Hb := Lib.hid hb
  have HN := Lib.hid hN
  have HT := Lib.hid (show (l.take 40).length = N by rw [List.length_take]; omega)
  obtain ⟨i0, hi, hy0, hy1, hy2⟩ := info_parts infoSpan
  have Hi := Lib.hid hi; have Hy0 := Lib.hid hy0; have Hy1 := Lib.hid hy1; have Hy2 := Lib.hid hy2
  clear hi hy0 hy1 hy2 hL hc hb hN
  go_enter Tryz.func12, Tryz.ntmps12
  go_wp2_with fail
  go_loopw [3, 4, 15] (fun v a i wr => ∃ (k : Nat) (m : Int) (o : List Sp), k ≤ N ∧ i = .int .i64 (k : Int) ∧ a = .int .u64 m ∧ 0 ≤ m ∧ m ≤ 4294967297 ∧ o.length ≤ k ∧ Hid (madeS l = o ++ madeF m ((l.take 40).drop k)) ∧ Hid (wr.ownsRow w.heap.size 39 2 v o.length (o.flatMap spCells)) ∧ Up w wr) (fun _ _ i _ => N - (intOf i).toNat)
  case atStart => exact ⟨0, 0, [], Nat.zero_le _, rfl, rfl, Int.le_refl _, by omega, Nat.le_refl _, Lib.hid rfl, Lib.hid (World.ownsRow_nil _ _ _ _), Up.refl _⟩
  case round =>
    obtain ⟨k, m, o, hk, rfl, rfl, m0, m1, hol, Hm, Hown, hup⟩ := hrel
    haveI : UpI w wr := ⟨hup⟩
    by_cases hlt : k < N
    · have hlt' : (k : Int) < (N : Int) := by omega
      have k0 : (0 : Int) ≤ (k : Int) := by omega
      obtain ⟨x, hx⟩ : ∃ x, l[k]? = some x := ⟨_, List.getElem?_eq_getElem (by rw [HL.out]; omega)⟩
      have hx40 : (l.take 40)[k]? = some x := by rw [List.getElem?_take, if_pos (by omega)]; exact hx
      obtain ⟨b, q, rfl, hbw, hcc⟩ := Hc.out k x hx
      have c0 := hup.cell_some (hcc 0 _ rfl); have c1 := hup.cell_some (hcc 1 _ rfl); have c2 := hup.cell_some (hcc 2 _ rfl)
      rw [Nat.add_zero] at c0
      haveI : LtSize b wr := ⟨Nat.lt_of_lt_of_le hbw hup.size⟩
      obtain ⟨g0, g1, l0, l1⟩ := Hb.out x (List.mem_of_getElem? hx)
      obtain ⟨hk40, hek⟩ := List.getElem?_eq_some_iff.1 hx40
      have Hd := Lib.hid (show (l.take 40).drop k = x :: (l.take 40).drop (k + 1) by rw [List.drop_eq_getElem_cons hk40, hek])
      have htm : Int.tmod x.l 16 = x.l % 16 := Int.tmod_eq_emod_of_nonneg l0
      have Hstep := Lib.hid (show madeS l = o ++ madeF m (x :: (l.take 40).drop (k + 1)) by rw [Hm.out, Hd.out])
      obtain ⟨M, hM⟩ : ∃ M, upS m x.h = M := ⟨_, rfl⟩
      have M0 : 0 ≤ M := by have := upS_ge m x.h; omega
      have M1 : M ≤ 4294967297 := by rw [← hM]; exact upS_le m x.h m1
      obtain ⟨r, hr⟩ : ∃ r, x.l % 16 = r := ⟨_, rfl⟩
      have r0 : 0 ≤ r := by omega
      have r1 : r < 16 := by omega
      rw [hr] at htm
      have HM := Lib.hid hM
      have HR := Lib.hid hr
      rw [madeF_step, hM, hr] at Hstep
      haveI : InU64 (M + x.g) := ⟨by omega⟩
      haveI : InU64 (M + x.g + r) := ⟨by omega⟩
      haveI : InU64 (M + x.g + r + 2) := ⟨by omega⟩
      go_upto_region 6 with fail
      cases hh : x.h
      · have hMm : M = m := by rw [← HM.out, hh]; rfl
        subst hMm
        have cc0 := c0; have cc1 := c1; have cc2 := c2
        clear c0 c1 c2
        by_cases hbig : 4294967296 ≤ M + x.g + r
        · have hge : decide (4294967296 ≤ M + x.g + r) = true := decide_eq_true hbig
          have E := Lib.hid (show madeS l = o by rw [Hstep, if_pos hbig, List.append_nil])
          clear Hm hx hx40 hcc hk40 hek Hstep
          go_wp2_with fail
          go_ret
          exact ⟨_, rfl, by rw [E.out]; exact owns_up Hown.out (upI : Up wr _), mkI⟩
        · have hge : decide (4294967296 ≤ M + x.g + r) = false := decide_eq_false hbig
          haveI : InU32 (M + x.g) := ⟨by omega⟩
          haveI : InU32 (M + x.g + r) := ⟨by omega⟩
          have E := Lib.hid (show madeS l = (o ++ [(M + x.g, M + x.g + r)]) ++ madeF (M + x.g + r + 2) ((l.take 40).drop (k + 1)) by rw [Hstep, if_neg hbig]; simp)
          have HF := Lib.hid (show (o ++ [(M + x.g, M + x.g + r)]).flatMap spCells = o.flatMap spCells ++ spCells (M + x.g, M + x.g + r) by simp)
          have HLn := Lib.hid (show (o ++ [(M + x.g, M + x.g + r)]).length = o.length + 1 by simp)
          clear Hm hx hx40 hcc hk40 hek Hstep
          go_wp2_with (at_builtin; refine wpList_append_own _ rfl _ _ 25 rfl w.heap.size 39 i0 (.agg #[.int .u32 0, .int .u32 0]) 2 8 Tryz.underlying25 Hi.out Hy0.out Hy1.out Hy2.out rfl (by decide) _ _ _ rfl (owns_up Hown.out (upI : Up wr _)) ⟨_, 0, none⟩ 1 1 (spCells (M + x.g, M + x.g + r)) rfl rfl (fun j u h => by have := sp_atM (wr.alloc (.cells #[.int .u8 x.g, .int .u8 x.l, .bool false] 73)) (M + x.g, M + x.g + r) 39 j u h; rwa [World.size_alloc] at this) (sp_one (M + x.g, M + x.g + r)) (by unfold maxLen; omega) (by omega) (by have := hup.size; simp; omega) ?_; intro v' w1 hown' hgrow _)
          have hup1 : Up w w1 := ((upI : Up w _)).grown hgrow (owns_row Hown.out)
          have HO : Hid (w1.ownsRow w.heap.size 39 2 v' (o ++ [(M + x.g, M + x.g + r)]).length ((o ++ [(M + x.g, M + x.g + r)]).flatMap spCells)) := by rw [HLn.out, HF.out]; exact hown'
          clear hown' hgrow Hown
          go_wp2_with fail
          go_roundw
          case rel => exact ⟨k + 1, M + x.g + r + 2, o ++ [(M + x.g, M + x.g + r)], by omega, by go_num, rfl, by omega, by omega, by rw [HLn.out]; omega, E, HO, hup1⟩
          case measure => simp [intOf]; omega
      · by_cases hlo : m < 4294966296
        · have hMm : M = 4294966296 := by rw [← HM.out, hh]; unfold upS; rw [if_pos ⟨rfl, hlo⟩]
          have hlo' : decide (m < 4294966296) = true := decide_eq_true hlo
          subst hMm
          clear M0 M1 HM hlo
          have cc0 := c0; have cc1 := c1; have cc2 := c2
          clear c0 c1 c2
          by_cases hbig : 4294967296 ≤ 4294966296 + x.g + r
          · omega
          · have hge : decide (4294967296 ≤ 4294966296 + x.g + r) = false := decide_eq_false hbig
            haveI : InU32 (4294966296 + x.g) := ⟨by omega⟩
            haveI : InU32 (4294966296 + x.g + r) := ⟨by omega⟩
            have E := Lib.hid (show madeS l = (o ++ [(4294966296 + x.g, 4294966296 + x.g + r)]) ++ madeF (4294966296 + x.g + r + 2) ((l.take 40).drop (k + 1)) by rw [Hstep, if_neg hbig]; simp)
            have HF := Lib.hid (show (o ++ [(4294966296 + x.g, 4294966296 + x.g + r)]).flatMap spCells = o.flatMap spCells ++ spCells (4294966296 + x.g, 4294966296 + x.g + r) by simp)
            have HLn := Lib.hid (show (o ++ [(4294966296 + x.g, 4294966296 + x.g + r)]).length = o.length + 1 by simp)
            clear Hm hx hx40 hcc hk40 hek Hstep
            go_wp2_with (at_builtin; refine wpList_append_own _ rfl _ _ 25 rfl w.heap.size 39 i0 (.agg #[.int .u32 0, .int .u32 0]) 2 8 Tryz.underlying25 Hi.out Hy0.out Hy1.out Hy2.out rfl (by decide) _ _ _ rfl (owns_up Hown.out (upI : Up wr _)) ⟨_, 0, none⟩ 1 1 (spCells (4294966296 + x.g, 4294966296 + x.g + r)) rfl rfl (fun j u h => by have := sp_atM (wr.alloc (.cells #[.int .u8 x.g, .int .u8 x.l, .bool true] 73)) (4294966296 + x.g, 4294966296 + x.g + r) 39 j u h; rwa [World.size_alloc] at this) (sp_one (4294966296 + x.g, 4294966296 + x.g + r)) (by unfold maxLen; omega) (by omega) (by have := hup.size; simp; omega) ?_; intro v' w1 hown' hgrow _)
            have hup1 : Up w w1 := ((upI : Up w _)).grown hgrow (owns_row Hown.out)
            have HO : Hid (w1.ownsRow w.heap.size 39 2 v' (o ++ [(4294966296 + x.g, 4294966296 + x.g + r)]).length ((o ++ [(4294966296 + x.g, 4294966296 + x.g + r)]).flatMap spCells)) := by rw [HLn.out, HF.out]; exact hown'
            clear hown' hgrow Hown
            go_wp2_with fail
            go_roundw
            case rel => exact ⟨k + 1, 4294966296 + x.g + r + 2, o ++ [(4294966296 + x.g, 4294966296 + x.g + r)], by omega, by go_num, rfl, by omega, by omega, by rw [HLn.out]; omega, E, HO, hup1⟩
            case measure => simp [intOf]; omega
        · have hMm : M = m := by rw [← HM.out, hh]; unfold upS; rw [if_neg (fun h => hlo h.2)]
          have hlo' : decide (m < 4294966296) = false := decide_eq_false hlo
          subst hMm
          have cc0 := c0; have cc1 := c1; have cc2 := c2
          clear c0 c1 c2
          by_cases hbig : 4294967296 ≤ M + x.g + r
          · have hge : decide (4294967296 ≤ M + x.g + r) = true := decide_eq_true hbig
            have E := Lib.hid (show madeS l = o by rw [Hstep, if_pos hbig, List.append_nil])
            clear Hm hx hx40 hcc hk40 hek Hstep
            go_wp2_with fail
            go_ret
            exact ⟨_, rfl, by rw [E.out]; exact owns_up Hown.out (upI : Up wr _), mkI⟩
          · have hge : decide (4294967296 ≤ M + x.g + r) = false := decide_eq_false hbig
            haveI : InU32 (M + x.g) := ⟨by omega⟩
            haveI : InU32 (M + x.g + r) := ⟨by omega⟩
            have E := Lib.hid (show madeS l = (o ++ [(M + x.g, M + x.g + r)]) ++ madeF (M + x.g + r + 2) ((l.take 40).drop (k + 1)) by rw [Hstep, if_neg hbig]; simp)
            have HF := Lib.hid (show (o ++ [(M + x.g, M + x.g + r)]).flatMap spCells = o.flatMap spCells ++ spCells (M + x.g, M + x.g + r) by simp)
            have HLn := Lib.hid (show (o ++ [(M + x.g, M + x.g + r)]).length = o.length + 1 by simp)
            clear Hm hx hx40 hcc hk40 hek Hstep
            go_wp2_with (at_builtin; refine wpList_append_own _ rfl _ _ 25 rfl w.heap.size 39 i0 (.agg #[.int .u32 0, .int .u32 0]) 2 8 Tryz.underlying25 Hi.out Hy0.out Hy1.out Hy2.out rfl (by decide) _ _ _ rfl (owns_up Hown.out (upI : Up wr _)) ⟨_, 0, none⟩ 1 1 (spCells (M + x.g, M + x.g + r)) rfl rfl (fun j u h => by have := sp_atM (wr.alloc (.cells #[.int .u8 x.g, .int .u8 x.l, .bool true] 73)) (M + x.g, M + x.g + r) 39 j u h; rwa [World.size_alloc] at this) (sp_one (M + x.g, M + x.g + r)) (by unfold maxLen; omega) (by omega) (by have := hup.size; simp; omega) ?_; intro v' w1 hown' hgrow _)
            have hup1 : Up w w1 := ((upI : Up w _)).grown hgrow (owns_row Hown.out)
            have HO : Hid (w1.ownsRow w.heap.size 39 2 v' (o ++ [(M + x.g, M + x.g + r)]).length ((o ++ [(M + x.g, M + x.g + r)]).flatMap spCells)) := by rw [HLn.out, HF.out]; exact hown'
            clear hown' hgrow Hown
            go_wp2_with fail
            go_roundw
            case rel => exact ⟨k + 1, M + x.g + r + 2, o ++ [(M + x.g, M + x.g + r)], by omega, by go_num, rfl, by omega, by omega, by rw [HLn.out]; omega, E, HO, hup1⟩
            case measure => simp [intOf]; omega
    · obtain rfl : k = N := by omega
      have e1 : madeS l = o := by rw [Hm.out, List.drop_eq_nil_of_le (by rw [HT.out]; exact Nat.le_refl _), madeF, List.append_nil]
      have E := Lib.hid e1
      clear e1
      go_wp2_with fail
      go_ret
      exact ⟨_, rfl, by rw [E.out]; exact Hown.out, mkI⟩
end Go.Proofs.YtgfkcbflnkpogaaGreatDoor
