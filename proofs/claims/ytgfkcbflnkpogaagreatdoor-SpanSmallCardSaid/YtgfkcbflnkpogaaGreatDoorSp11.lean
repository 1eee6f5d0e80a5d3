/- Package span: what Prefixes and OfPrefixes return. -/
import Derived.Test.YtgfkcbflnkpogaaGreatDoorSp10
import Derived.Test.YtgfkcbflnkpogaaGreatDoorCovP
set_option linter.unusedSimpArgs false
set_option linter.unusedVariables false
namespace Go.Ab
open Go.RowKit
def prefixesL (s : List Sp) : List (Int × Int) := s.flatMap fun x => coverL x.1 x.2
def pfCells (p : Int × Int) : List Value := [.int .u32 p.1, .int .u8 p.2]
theorem pfCells_length (p : Int × Int) : (pfCells p).length = 2 := rfl
theorem prefixesL_take {s : List Sp} {k : Nat} {x : Sp} (h : s[k]? = some x) : prefixesL (s.take (k + 1)) = prefixesL (s.take k) ++ coverL x.1 x.2 := by
  unfold prefixesL
  rw [List.take_add_one, h]
  simp
theorem prefixesL_len : ∀ {s : List Sp}, (∀ x ∈ s, SpB x) → (∀ x ∈ s, x.1 ≤ x.2) → (prefixesL s).length ≤ s.length * 62
  | [], _, _ => by simp [prefixesL]
  | x :: s, hb, hl => by
    have h1 := coverL_62 x.1 x.2 (hb x (by simp)).f0 (hl x (by simp)) (hb x (by simp)).t1
    have h2 := prefixesL_len (s := s) (fun y hy => hb y (by simp [hy])) (fun y hy => hl y (by simp [hy]))
    unfold prefixesL at *
    rw [List.flatMap_cons, List.length_append, List.length_cons]
    omega
theorem coverL_pos (a b : Int) (h : a ≤ b) : 0 < (coverL a b).length := by rw [coverL_step a b h]; simp
theorem pf_one (p : Int × Int) (u : Value) (h : u ∈ pfCells p) : u.oneCell' = true := by
  simp [pfCells] at h
  rcases h with rfl | rfl <;> rfl
theorem pf_flat_one (L : List (Int × Int)) (u : Value) (h : u ∈ L.flatMap pfCells) : u.oneCell' = true := by
  obtain ⟨x, _, hx⟩ := List.mem_flatMap.1 h
  exact pf_one x u hx
/-- The bounds of prefixes. -/
structure PfB (p : Int × Int) : Prop where
  a0 : 0 ≤ p.1
  a1 : p.1 < 4294967296
  n0 : 0 ≤ p.2
  n1 : p.2 < 256
def boundS (p : Int × Int) : Sp := (p.1, p.1 + (sz p.2 - 1))
end Go.Ab
namespace Go.Proofs.YtgfkcbflnkpogaaGreatDoor
open Go.RowKit Go.Ab
theorem prefixCells_eq (l : List (Int × Int)) : prefixCells l = l.flatMap pfCells := rfl
attribute [local go_sem high] wrapI64 wrapK64
set_option maxHeartbeats 8000000 in
set_option maxRecDepth 100000 in
theorem spprefixes_no (s : List Sp) (v : Value) (w : World) (hv : SpRow w v s) (hb : ∀ x ∈ s, SpB x) (hl : s.length ≤ 1000000000) (e : Int) (he : wrongL s = e) (hz : (e != 0) = true) : Gives Tryz.prog 20 #[v] w (.tuple #[.slice none 0 0, .int .i64 e]) := by
  have hw := fun (W : World) (u : UpI w W) => (spwrong_any [(v, s)] (.slice (some ⟨W.heap.size, 0, none⟩) 1 1) (W.alloc (.cells #[v] 25)) (spRow_new W v s _) (fun x hx => by rw [List.mem_singleton.1 hx]; exact ⟨hv.up (u.up.alloc _), hb, hl⟩) (by simp)).cast (by rw [List.map_cons, List.map_nil, wrongLs_one, he])
  obtain ⟨p, cap, rfl⟩ := sp_len hv
  clear hv hb hl he
  unfold Gives
  go_enter Tryz.func20, Tryz.ntmps20
  go_wp2_with (go_at_call 40; refine (hw w inferInstance).mono ?_; clear hw; rintro e w' ⟨rfl, z, rfl⟩)
  go_ret2
  exact ⟨rfl, mkI⟩
set_option maxHeartbeats 16000000 in
set_option maxRecDepth 100000 in
theorem spprefixes_yes (s : List Sp) (v : Value) (w : World) (hv : SpRow w v s) (hb : ∀ x ∈ s, SpB x) (hr : rightS s = true) (hl : s.length ≤ 4096) :
    Calls Tryz.prog 20 #[v] w fun e w' => ∃ u, e = .returned (.tuple #[u, .int .i64 0]) ∧ w'.ownsRow w.heap.size 62 2 u (prefixesL s).length ((prefixesL s).flatMap pfCells) ∧ ∃ x : Ext w, w' = x.w := by
  have he : wrongL s = 0 := by unfold wrongL; rw [if_neg (by omega), if_pos hr]
  have hw := fun (W : World) (u : UpI w W) => (spwrong_any [(v, s)] (.slice (some ⟨W.heap.size, 0, none⟩) 1 1) (W.alloc (.cells #[v] 25)) (spRow_new W v s _) (fun x hx => by rw [List.mem_singleton.1 hx]; exact ⟨hv.up (u.up.alloc _), hb, Nat.le_trans hl (by omega)⟩) (by simp)).cast (by rw [List.map_cons, List.map_nil, wrongLs_one, he])
  have Hc := Lib.hid (fun k x (h : s[k]? = some x) (p : Option Addr) (n cap : Nat) (e : v = .slice p n cap) => sp_at hv e h)
  obtain ⟨p, cap, rfl, hle, _⟩ := hv
  obtain ⟨N, hN⟩ : ∃ N, s.length = N := ⟨_, rfl⟩
  rw [hN] at hle hl hw Hc
  have HN := Lib.hid hN
  have Hb := Lib.hid hb
  have Hl := Lib.hid (rF_le hr)
  obtain ⟨i0, hi, hz0, hz1, hz2⟩ := info_parts infoPrefix
  have Hi := Lib.hid hi; have Hz0 := Lib.hid hz0; have Hz1 := Lib.hid hz1; have Hz2 := Lib.hid hz2
  rw [hN]
  clear hi hz0 hz1 hz2 hN hb hr he
  go_enter Tryz.func20, Tryz.ntmps20
  go_wp2_with (go_at_call 40; refine (hw w inferInstance).mono ?_; clear hw; rintro e w' ⟨rfl, z, rfl⟩)
  go_loopw [5, 18] (fun l i wr => ∃ k : Nat, k ≤ N ∧ i = .int .i64 (k : Int) ∧ Hid (wr.ownsRow w.heap.size 62 2 l (prefixesL (s.take k)).length ((prefixesL (s.take k)).flatMap pfCells)) ∧ Up w wr) (fun _ i _ => N - (intOf i).toNat)
  case atStart => exact ⟨0, Nat.zero_le _, rfl, Lib.hid (World.ownsRow_nil _ _ _ _), upI⟩
  case round =>
    obtain ⟨k, hk, rfl, Hown, hup⟩ := hrel
    haveI : UpI w wr := ⟨hup⟩
    by_cases hlt : k < N
    · have hlt' : (k : Int) < (N : Int) := by omega
      have k0 : (0 : Int) ≤ (k : Int) := by omega
      obtain ⟨x, hx⟩ : ∃ x, s[k]? = some x := ⟨_, List.getElem?_eq_getElem (by rw [HN.out]; exact hlt)⟩
      obtain ⟨b, o, rfl, hbw, c0', c1'⟩ := Hc.out k x hx _ _ _ rfl
      have c0 := hup.cell_some c0'
      have c1 := hup.cell_some c1'
      haveI : LtSize b wr := ⟨Nat.lt_of_lt_of_le hbw hup.size⟩
      have xb := Hb.out x (List.mem_of_getElem? hx)
      have xl := Hl.out x (List.mem_of_getElem? hx)
      obtain ⟨xf0, xf1, xt0, xt1⟩ := xb
      have hcv := fun W => cover_yes x.1 x.2 W xf0 xl xt1
      have hm62 := coverL_62 x.1 x.2 xf0 xl xt1
      have hm0 := coverL_pos x.1 x.2 xl
      have HE := Lib.hid (prefixesL_take hx)
      have hPl := prefixesL_len (s := s.take k) (fun y hy => Hb.out y (List.mem_of_mem_take hy)) (fun y hy => Hl.out y (List.mem_of_mem_take hy))
      have hPl2 : (prefixesL (s.take k)).length ≤ 4096 * 62 := Nat.le_trans hPl (Nat.mul_le_mul_right 62 (by rw [List.length_take]; omega))
      have HcellsL := Lib.hid (flat_length (cells := pfCells) (k := 2) (fun y => rfl) (coverL x.1 x.2))
      obtain ⟨m, hm⟩ : ∃ m, (coverL x.1 x.2).length = m := ⟨_, rfl⟩
      rw [hm] at hm62 hm0 HcellsL
      have Hone := Lib.hid (pf_flat_one (coverL x.1 x.2))
      obtain ⟨P, hP⟩ : ∃ P, (prefixesL (s.take k)).length = P := ⟨_, rfl⟩
      rw [hP] at hPl2 Hown
      have HL := Lib.hid (show (prefixesL (s.take (k + 1))).length = P + m by rw [HE.out, List.length_append, hP, hm])
      have HF := Lib.hid (show (prefixesL (s.take (k + 1))).flatMap pfCells = (prefixesL (s.take k)).flatMap pfCells ++ (coverL x.1 x.2).flatMap pfCells by rw [HE.out, List.flatMap_append])
      have Hcv : Hid (∀ W, Calls Tryz.prog 48 #[.int .u32 x.1, .int .u32 x.2] W fun e w' => ∃ g cap, e = .returned (.tuple #[.slice (some ⟨g, 0, none⟩) m cap, .int .i64 0]) ∧ (∀ j u, ((coverL x.1 x.2).flatMap pfCells)[j]? = some u → w'.cell? ⟨g, j, none⟩ = some u) ∧ ∃ x : Ext W, w' = x.w) := Lib.hid (fun W => (hcv W).mono fun e w' ⟨v, h1, h2, h3⟩ => by
        rw [prefixCells_eq, hm] at h2
        obtain ⟨g, cap, rfl, _, hg, _, hc⟩ := owns_cells h2 hm0
        exact ⟨g, cap, h1, fun j u hu => hc j u hu, h3⟩)
      clear hx c0' c1' hcv hm hP hPl
      generalize (coverL x.1 x.2).flatMap pfCells = news at *
      generalize (prefixesL (s.take k)).flatMap pfCells = xs at *
      go_wp2_with (first
        | (go_at_call 48; refine (Hcv.out _).mono ?_; clear Hcv; rintro e w' ⟨g, cg, rfl, hcg, y, rfl⟩; have Hcg := Lib.hid hcg; clear hcg)
        | (at_builtin; refine wpList_append_own _ rfl _ _ 42 rfl w.heap.size 62 i0 (.agg #[.int .u32 0, .int .u8 0]) 2 8 Tryz.underlying42 Hi.out Hz0.out Hz1.out Hz2.out rfl (by decide) _ _ _ rfl (owns_up Hown.out (upI : Up wr _)) ⟨g, 0, none⟩ m cg news rfl HcellsL.out (fun j u h => by rw [show (Addr.add ⟨g, 0, none⟩ j) = (⟨g, j, none⟩ : Addr) by cases j <;> simp [Addr.add]]; exact Hcg.out j u h) Hone.out (by unfold maxLen; omega) (by omega) (by have := (upI : Up w y.w).size; omega) ?_; intro v' w1 hown' hgrow _))
      have hup1 : Up w w1 := ((upI : Up w _)).grown hgrow (owns_row Hown.out)
      have Hown' : Hid (w1.ownsRow w.heap.size 62 2 v' (prefixesL (s.take (k + 1))).length ((prefixesL (s.take (k + 1))).flatMap pfCells)) := by
        rw [HL.out, HF.out]; exact hown'
      clear hown' hgrow Hown
      go_wp2_with fail
      go_roundw
      case rel => exact ⟨k + 1, by omega, by go_num, Hown', hup1⟩
      case measure => simp [intOf]; omega
    · obtain rfl : k = N := by omega
      have e1 : s.take k = s := List.take_of_length_le (by rw [HN.out]; exact Nat.le_refl _)
      rw [e1] at Hown
      go_wp2_with fail
      go_ret2
      exact ⟨_, rfl, Hown.out, mkI⟩
end Go.Proofs.YtgfkcbflnkpogaaGreatDoor
