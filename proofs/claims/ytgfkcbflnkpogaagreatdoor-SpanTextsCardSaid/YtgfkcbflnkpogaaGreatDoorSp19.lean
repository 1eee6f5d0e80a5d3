/- OfPrefixes. -/
import Derived.Test.YtgfkcbflnkpogaaGreatDoorRowPut
set_option linter.unusedSimpArgs false
set_option linter.unusedVariables false
namespace Go.Ab
open Go.RowKit
theorem prefix_top {a n : Int} (hr : rightB a n = true) (n0 : 0 ≤ n) (a1 : a < 4294967296) : a + (sz n - 1) < 4294967296 := by
  unfold rightB at hr
  simp only [Bool.and_eq_true, decide_eq_true_eq, beq_iff_eq] at hr
  obtain ⟨hn, hd⟩ := hr
  have hm := sz_mul n n0 hn
  have hp := sz_pos n
  have hq : sz n * (a / sz n) = a := by have := Int.mul_ediv_add_emod a (sz n); omega
  generalize (2 : Int) ^ n.toNat = m at hm
  generalize a / sz n = q at hq
  have hlt : q < m := by
    apply Int.lt_of_mul_lt_mul_left (a := sz n) _ (by omega)
    omega
  have h2 : sz n * (q + 1) ≤ sz n * m := Int.mul_le_mul_of_nonneg_left (by omega) (by omega)
  rw [Int.mul_add] at h2
  omega
abbrev PfRow (w : World) (v : Value) (l : List (Int × Int)) : Prop := RowOf pfCells 2 w v l
theorem boundS_b {p : Int × Int} (h : PfB p) (hr : rightB p.1 p.2 = true) : SpB (boundS p) := by
  have := prefix_top hr h.n0 h.a1
  have := sz_pos p.2
  have := h.a0
  have := h.a1
  unfold boundS
  exact ⟨by simp only; omega, by simp only; omega, by simp only; omega, by simp only; omega⟩
theorem badS_bounds (l : List (Int × Int)) : badS (l.map boundS) = false := by
  unfold badS
  rw [List.any_eq_false]
  intro x hx
  obtain ⟨p, _, rfl⟩ := List.mem_map.1 hx
  have := sz_pos p.2
  intro h
  have h2 := of_decide_eq_true h
  unfold boundS at h2
  simp only at h2
  omega
theorem sp_oneB (e : Sp) (u : Value) (h : u ∈ spCells e) : u.oneCell' = true := by
  simp [spCells] at h
  rcases h with rfl | rfl <;> rfl
end Go.Ab
namespace Go.Proofs.YtgfkcbflnkpogaaGreatDoor
open Go.RowKit Go.Ab
attribute [local go_sem high] wrapI64 wrapK64
theorem one_rowA (W : World) (x : Sp) (b : Nat) (h : b = W.heap.size) : SpRow (W.alloc (.cells #[.int .u32 x.1, .int .u32 x.2] 39)) (.slice (some ⟨b, 0, none⟩) 1 1) [x] := by
  subst h
  exact one_row W x
set_option maxHeartbeats 64000000 in
set_option maxRecDepth 100000 in
theorem ofprefixes_yes (l : List (Int × Int)) (v : Value) (w : World) (hv : PfRow w v l) (hb : ∀ p ∈ l, PfB p) (hr : ∀ p ∈ l, rightB p.1 p.2 = true) (hl : l.length ≤ 4096) :
    GivesL 29 #[v] w (ofL (l.map boundS)) := by
  have Hv := Lib.hid hv
  obtain ⟨p, cap, rfl, hle, hc⟩ := hv
  have Hb := Lib.hid hb
  have Hr := Lib.hid hr
  have Hc := Lib.hid hc
  obtain ⟨N, hN⟩ : ∃ N, l.length = N := ⟨_, rfl⟩
  rw [hN] at hle hl ⊢
  have HN := Lib.hid hN
  obtain ⟨i0, hi, hy0, hy1, hy2⟩ := info_parts infoSpan
  have Hi := Lib.hid hi; have Hy0 := Lib.hid hy0; have Hy1 := Lib.hid hy1; have Hy2 := Lib.hid hy2
  have hbig : decide ((N : Int) > 4096) = false := by simp; omega
  have hbig' : decide ((4096 : Int) < N) = false := by simp; omega
  clear hi hy0 hy1 hy2 hN hc hb hr
  unfold GivesL
  go_enter Tryz.func29, Tryz.ntmps29
  go_wp2_with fail
  go_loopw [4, 15] (fun u i wr => ∃ (k : Nat), k ≤ N ∧ i = .int .i64 (k : Int) ∧ Hid (wr.ownsRow w.heap.size 39 2 u ((l.take k).map boundS).length (((l.take k).map boundS).flatMap spCells)) ∧ Up w wr) (fun _ i _ => N - (intOf i).toNat)
  case atStart => exact ⟨0, Nat.zero_le _, rfl, Lib.hid (World.ownsRow_nil _ _ _ _), Up.refl _⟩
  case round =>
    obtain ⟨k, hk, rfl, Hown, hup⟩ := hrel
    haveI : UpI w wr := ⟨hup⟩
    by_cases hlt : k < N
    · have hlt' : (k : Int) < (N : Int) := by omega
      have k0 : (0 : Int) ≤ (k : Int) := by omega
      obtain ⟨x, hx⟩ : ∃ x, l[k]? = some x := ⟨_, List.getElem?_eq_getElem (by rw [HN.out]; exact hlt)⟩
      obtain ⟨b, o, rfl, hb, hcc⟩ := Hc.out k x hx
      haveI : LtSize b wr := ⟨Nat.lt_of_lt_of_le hb hup.size⟩
      have c0 := hup.cell_some (hcc 0 _ rfl)
      have c1 := hup.cell_some (hcc 1 _ rfl)
      simp only [Nat.add_zero] at c0
      have hxb := Hb.out x (List.mem_of_getElem? hx)
      have hxr := Hr.out x (List.mem_of_getElem? hx)
      have hbd := fun (W : World) => (bounds_any x.1 x.2 W hxb.n0 hxb.a0 hxb.a1).cast (v := .tuple #[.int .u32 (boundS x).1, .int .u32 (boundS x).2, .int .i64 0]) (by rw [if_pos hxr]; rfl)
      have E := Lib.hid (show (l.take (k + 1)).map boundS = (l.take k).map boundS ++ [boundS x] by rw [List.take_add_one, hx]; simp)
      have hlen : ((l.take k).map boundS).length = k := by rw [List.length_map, List.length_take, HN.out]; omega
      clear hcc hx hxb hxr Hc Hb Hr
      generalize (l.take k).map boundS = O at *
      generalize boundS x = y at *
      go_wp2_with (first
        | (go_at_call 30; refine (hbd _).mono ?_; clear hbd; rintro e w' ⟨rfl, y1, rfl⟩)
        | (at_builtin; refine wpList_append_list (cells := spCells) (k := 2) spCells_length sp_oneB (by decide) rfl _ _ 24 rfl w.heap.size 39 i0 (.agg #[.int .u32 0, .int .u32 0]) 8 Tryz.underlying24 Hi.out Hy0.out Hy1.out Hy2.out rfl O _ rfl (owns_up Hown.out (upI : Up wr _)) [y] _ rfl (one_rowA y1.w y _ rfl) (by rw [hlen]; unfold maxLen; simp; omega) (by rw [hlen]; simp; omega) (by have := (upI : Up w y1.w).size; simp; omega) ?_; intro v' w1 hown' hgrow))
      have hup3 : Up w w1 := ((upI : Up w _)).grown hgrow (owns_row Hown.out)
      go_roundw
      case rel => exact ⟨k + 1, by omega, by go_num, by rw [E.out]; exact Lib.hid hown', hup3⟩
      case measure => simp [intOf]; omega
    · obtain rfl : k = N := by omega
      have e0 : l.take k = l := List.take_of_length_le (by rw [HN.out]; exact Nat.le_refl _)
      rw [e0] at Hown
      have hof := fun (u : Value) (W : World) (h : SpRow W u (l.map boundS)) => (spof_yes (l.map boundS) u W h (fun x hx => by
        obtain ⟨p, hp, rfl⟩ := List.mem_map.1 hx
        exact boundS_b (Hb.out p hp) (Hr.out p hp)) (by rw [List.length_map, HN.out]; exact hl) (badS_bounds l)).lit
      have RL := Lib.hid (sp_row Hown.out)
      clear Hown e0 Hc Hb Hr Hv
      go_wp2_with (go_at_call 22; (with_reducible refine Calls.mono (hof _ wr RL.out) ?_); clear hof; rintro e w' ⟨po, co, rfl, Ro, xo, rfl⟩)
      go_ret2
      exact ⟨_, _, rfl, Ro, mkI⟩
end Go.Proofs.YtgfkcbflnkpogaaGreatDoor
