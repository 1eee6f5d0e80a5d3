/- DumpBack, walked. -/
import Derived.Test.YteciigbonaecoaaGreatDoorDChP
import Derived.Test.YteciigbonaecoaaGreatDoorDSame
import Derived.Test.YteciigbonaecoaaGreatDoorFast
set_option linter.unusedSimpArgs false
set_option linter.unusedVariables false
namespace Go.Ab
/-- A statement that no tactic takes by itself. -/
structure KeptB (p : Prop) : Prop where
  out : p
end Go.Ab
namespace Go.Proofs.YteciigbonaecoaaGreatDoor
open Go.RowKit Go.Ab
theorem build_zero (w : World) : (Instr.build 44 #[]).run Tryz.prog w = .ok (.agg Ln.zero.cells.toArray) w := by kernel_rfl
theorem load_rowG2 {P : Program} {ops : Array Oper} {rest : List Oper} {o : Oper} {a : Act} {w : World} {Q : Exit → Act → World → Prop} (ty : TypeId) (x : Operand) (ho : o.op = .load ty x) (g : Nat) (hx : a.eval x = .pointer (some ⟨g, 0, none⟩)) (hw : Region.wanted o (yielded ops a.tmps) = true) (t : TypeId) (cs : Array Value) (fr : Nat × Nat) (d : TypeDesc) (hg : w.heap[g]? = some (.cells cs t fr))
    (hu : P.underlying ty = some d) (hd : (match d with | .struct _ | .array _ _ => true | _ => false) = true) (hi : (P.info? ty).map (·.size) = some cs.size)
    (h : wpList P ops Q rest (a.put o.dst (.agg cs)) w) : wpList P ops Q (o :: rest) a w :=
  wpList_step fun K hK => by rw [if_pos hw]; exact wp_load_row ty x ho g hx t cs fr d hg hu hd hi (hK _ _ h)
theorem lt_of_heapB {w : World} {p : Nat} {o : Obj} (h : w.heap[p]? = some o) : p < w.heap.size := (Array.getElem?_eq_some_iff.1 h).1
structure BackLen (k N : Nat) : Prop where
  p1 : 0 + (k + 1) ≤ maxLen
  p2 : (0 + (k + 1)) * 16 ≤ 140737488355328
  p3 : 0 + (k + 1) + (N - k) ≤ maxLen
  p4 : (0 + (k + 1) + (N - k)) * 16 ≤ 140737488355328
  p5 : (0 + (k + 1)) * 40 ≤ 140737488355328
  p6 : (0 + (k + 1) + (N - k)) * 40 ≤ 140737488355328
theorem back_len (k N : Nat) (h : k < N) (h3 : N ≤ 30) : BackLen k N := ⟨by unfold maxLen; omega, by omega, by unfold maxLen; omega, by omega, by omega, by omega⟩
theorem twice_len {α : Type} (T : List α) (k N : Nat) (h : T.length = N) (hk : k < N) : (T.take (k + 1) ++ T.drop k).length = N + 1 := by
  rw [List.length_append, List.length_take, List.length_drop, h]; omega
theorem cur_len {cur : Array Value} {a : List Ln} {N : Nat} (h : cur.toList.take (N * 11) = a.flatMap Ln.cells) (hN : a.length = N) : N * 11 ≤ cur.size := by
  have := congrArg List.length h
  rw [List.length_take, flat_length (cells := Ln.cells) (fun z => z.cells_length), hN, Array.length_toList] at this
  omega
theorem swap_fit0 {N sz : Nat} (h : 0 < N) (hs : N * 11 ≤ sz) : 0 + 11 ≤ sz := by omega
theorem swap_fitK {k N sz : Nat} (h : k < N) (hs : N * 11 ≤ sz) : k * 11 + 11 ≤ sz := by omega
theorem back_sum (k N : Nat) (h : k < N) : 0 + (k + 1) + (N - k) ≤ N + 1 ∧ 0 + (k + 1) + (N - k) = N + 1 := ⟨by omega, by omega⟩
theorem back_nums (k N c2 : Nat) (h1 : k < N) (h2 : N ≤ c2) (h3 : N ≤ 30) : SmallN k ∧ (k : Int) + 1 ≤ (c2 : Int) ∧ (k : Int) ≤ (N : Int) ∧ ((k : Int) + 1).toNat = k + 1 ∧ ¬ c2 = k ∧ ((N : Int) - (k : Int)).toNat = N - k ∧ (0 : Int) ≤ (k : Int) ∧ (k : Int) < (N : Int) ∧ (0 : Int) ≤ (k : Int) + 1 :=
  ⟨⟨by omega⟩, by omega, by omega, by omega, by omega, by omega, by omega, by omega, by omega⟩
attribute [local go_sem high] eq_ln wrapI wrapI1 wrapK wrapK1
/-- What is said. -/
def BackStmt : Prop := ∀ (l : List Wd) (u1 u2 : Wd) (s : List UInt8) (at0 : Int) (v : Value) (w : World) (g : GoodD w) (hv : WdRow w v l) (hb : ∀ x ∈ l, WdB x) (hl : l.length ≤ 9223372036854775807) (hu1 : WdB u1) (hu2 : WdB u2) (a0 : 0 ≤ at0) (a1 : at0 < 256),
    Gives Tryz.prog 7 #[v, .agg u1.cells.toArray, .agg u2.cells.toArray, .string ⟨s.toArray⟩, .int .u8 at0] w (.bool true)
set_option maxHeartbeats 64000000 in
set_option maxRecDepth 100000 in
noncomputable def backPart0 : PSigma (fun R : Prop => PSigma (fun F : Prop => KeptB F → KeptB R → BackStmt)) := by
  apply PSigma.mk
  case snd =>
    apply PSigma.mk
    case snd =>
      intro hRF hR l u1 u2 s at0 v w g hv hb hl hu1 hu2 a0 a1
      have hL : ∀ W, UpI w W → Calls Tryz.prog 18 #[v] W fun e w' => ∃ q c, e = .returned (.slice q (listL l).length c) ∧ w'.ownsRow w.heap.size 44 11 (.slice q (listL l).length c) (listL l).length ((listL l).flatMap Ln.cells) ∧ LnRow w' (.slice q (listL l).length c) (listL l) ∧ ∃ x : Ext W, w' = x.w := fun W hW => (dlist_any l v W (hv.up hW.up) hb hl).mono fun e w' ⟨u, h1, h2, h3⟩ => by
        have h4 := RowOf.of_owns Ln.cells_length h2
        have h5 := h4
        obtain ⟨q, c, rfl, _⟩ := h5
        exact ⟨q, c, h1, owns_base h2 hW.up.size, h4, h3⟩
      have hM1 := fun W => dmade_any u1 W hu1
      have hM2 := fun W => dmade_any u2 W hu2
      have hxb := madeL_b u1 hu1
      have hxr := madeL_right u1 hu1
      have hyb := madeL_b u2 hu2
      have hyr := madeL_right u2 hu2
      have hab := listL_b l hb
      have hal := listL_len l
      have hao := listL_ordered l hb
      generalize listL l = a at *
      obtain ⟨pr, s', d, dp, sd, cl, fl, dl, sn⟩ := u1
      obtain ⟨pr', s'', d', dp', sd', cl', fl', dl', sn'⟩ := u2
      unfold Wd.cells at hM1 hM2 ⊢
      unfold Ln.cells at hM1 hM2
      simp only at hM1 hM2 ⊢
      generalize madeL ⟨pr, _, _, _, _, _, _, _, _⟩ = x at *
      generalize madeL ⟨pr', _, _, _, _, _, _, _, _⟩ = y at *
      clear hu1 hu2 hb hl hv
      obtain ⟨N, hN⟩ : ∃ N, a.length = N := ⟨_, rfl⟩
      have hN30 : N ≤ 30 := by omega
      have hrd := reads_texts a hab hao
      have htl : ∀ z ∈ a.map Ln.text, z.length ≤ 1000000000 := fun z hz => by
        obtain ⟨b, hb, rfl⟩ := List.mem_map.1 hz
        have := ln_text_len b (hab b hb); omega
      have HAB := Lib.hid hab; have HAO := Lib.hid hao; have HN := Lib.hid hN; have HTL := Lib.hid htl; have HRD := Lib.hid hrd
      have hT : ∀ W v, GoodD W → LnRow W v a → Calls Tryz.prog 24 #[v] W fun e w' => ∃ q c, e = .returned (.tuple #[.slice q N c, .int .i64 0]) ∧ StrRow w' (.slice q N c) (a.map Ln.text) ∧ ∃ x : Ext W, w' = x.w := fun W v g h =>
        (dtexts_yes a v W g h HAB.out (by have := HN.out; omega) HAO.out).mono fun e w' ⟨u, h1, h2, h3⟩ => by
          rw [show a.length = (a.map Ln.text).length by simp] at h2
          have h4 := StrRow.of_owns h2
          have h5 := h4
          obtain ⟨q, c, rfl, _⟩ := h5
          rw [List.length_map, HN.out] at h1 h4
          exact ⟨q, c, h1, h4, h3⟩
      have hR : ∀ W v, GoodD W → StrRow W v (a.map Ln.text) → Calls Tryz.prog 25 #[v] W fun e w' => ∃ q c, e = .returned (.tuple #[.slice q N c, .int .i64 (-1), .int .i64 0]) ∧ LnRow w' (.slice q N c) a ∧ ∃ x : Ext W, w' = x.w := fun W v g h =>
        (dreads_any (a.map Ln.text) v W g h HTL.out (by have := HN.out; rw [List.length_map]; omega)).mono fun e w' ⟨h1, h3⟩ => by
          rw [HRD.out] at h1
          obtain ⟨u, h1, h2⟩ := h1
          have h4 := RowOf.of_owns Ln.cells_length h2
          have h5 := h4
          obtain ⟨q, c, rfl, _⟩ := h5
          rw [HN.out] at h1 h4
          exact ⟨q, c, h1, h4, h3⟩
      have hS : ∀ W v v', LnRow W v a → LnRow W v' a → Gives Tryz.prog 21 #[v, v'] W (.bool true) := fun W v v' h h' => (dsame_any a a v v' W h h' (by have := HN.out; omega) (by have := HN.out; omega)).cast (by rw [beq_self_eq_true])
      have hO : ∀ W v, LnRow W v a → Gives Tryz.prog 26 #[v] W (.bool true) := fun W v h => (dordered_any a v W h HAB.out (by have := HN.out; omega)).cast (by rw [HAO.out])
      rw [hN] at hL
      clear hrd htl hab hao hN hal
      unfold Gives
      go_enter Tryz.func7, Tryz.ntmps7
      go_upto_region 1 with fail
      obtain ⟨A, hA⟩ : ∃ A, w.heap.size = A := ⟨_, rfl⟩
      obtain ⟨B, hB⟩ : ∃ B, A + 1 = B := ⟨_, rfl⟩
      rw [hA, hB]
      refine wp_letter (fun W => UpI w W ∧ (∀ j, W.cell? ⟨A, j, none⟩ = #[Value.int .u8 pr, .int .u8 s', .int .u8 d, .int .u8 dp, .int .u8 sd, .int .u8 cl, .int .u8 fl, .int .u16 dl, .int .u16 sn][j]?) ∧ (∀ j, W.cell? ⟨B, j, none⟩ = #[Value.int .u8 pr', .int .u8 s'', .int .u8 d', .int .u8 dp', .int .u8 sd', .int .u8 cl', .int .u8 fl', .int .u16 dl', .int .u16 sn'][j]?))
        ⟨inferInstance, fun j => (((Up.refl (w.alloc _)).alloc _).cell (by rw [World.size_alloc, hA]; exact Nat.lt_succ_self _)).trans (World.cell?_alloc_at _ _ _ _ hA.symm), fun j => World.cell?_alloc_at _ _ _ _ (by rw [World.size_alloc, hA, hB])⟩ ?_
      rintro W ⟨uW, hcA, hcB⟩
      haveI := uW
      have hAW : LtSize A W := ⟨cell_lt (hcA 0)⟩
      have hBW : LtSize B W := ⟨cell_lt (hcB 0)⟩
      have HCA := Lib.hid hcA; have HCB := Lib.hid hcB
      clear hcA hcB hA hB
      go_upto_region 8 with (first
        | (go_at_call 11; refine (dawake_any _ (g.up upI)).mono ?_; rintro e w' ⟨rfl, xa, rfl⟩)
        | (go_at_call 18; refine (hL _ inferInstance).mono ?_; rintro e w' ⟨q, c, rfl, hown, hrow, z1, rfl⟩)
        | (go_at_call 24; refine (hT _ _ (g.up upI) (RowOf.up hrow upI)).mono ?_; rintro e w' ⟨q2, c2, rfl, htx, z2, rfl⟩)
        | (go_at_call 25; refine (hR _ _ (g.up upI) (RowOf.up htx upI)).mono ?_; rintro e w' ⟨q3, c3, rfl, hbk, z3, rfl⟩)
        | (go_at_call 21; refine (hS _ _ _ (RowOf.up hbk upI) (RowOf.up hrow upI)).mono ?_; rintro e w' ⟨rfl, z4, rfl⟩)
        | (go_at_call 26; refine (hO _ _ (RowOf.up hrow upI)).mono ?_; rintro e w' ⟨rfl, z5, rfl⟩))
      refine wp_letter (fun V => UpI w V ∧ V.ownsRow w.heap.size 44 11 (.slice q N c) N (a.flatMap Ln.cells) ∧ LnRow V (.slice q N c) a ∧ StrRow V (.slice q2 N c2) (a.map Ln.text) ∧ (∀ j, V.cell? ⟨A, j, none⟩ = #[Value.int .u8 pr, .int .u8 s', .int .u8 d, .int .u8 dp, .int .u8 sd, .int .u8 cl, .int .u8 fl, .int .u16 dl, .int .u16 sn][j]?) ∧ (∀ j, V.cell? ⟨B, j, none⟩ = #[Value.int .u8 pr', .int .u8 s'', .int .u8 d', .int .u8 dp', .int .u8 sd', .int .u8 cl', .int .u8 fl', .int .u16 dl', .int .u16 sn'][j]?))
        ⟨inferInstance, owns_up hown upI, RowOf.up hrow upI, RowOf.up htx upI, fun j => ((upI : Up W _).cell hAW.lt).trans (HCA.out j), fun j => ((upI : Up W _).cell hBW.lt).trans (HCB.out j)⟩ ?_
      clear hown hrow htx hbk HCA HCB hT hR hS hO hL
      rintro V ⟨uV, hown, hrow, htx, hcA, hcB⟩
      haveI := uV
      haveI : LtSize A V := ⟨cell_lt (hcA 0)⟩
      haveI : LtSize B V := ⟨cell_lt (hcB 0)⟩
      have f0 : V.cell? ⟨A, 0, none⟩ = some (.int .u8 pr) := hcA 0; have f1 : V.cell? ⟨A, 1, none⟩ = some (.int .u8 s') := hcA 1; have f2 : V.cell? ⟨A, 2, none⟩ = some (.int .u8 d) := hcA 2; have f3 : V.cell? ⟨A, 3, none⟩ = some (.int .u8 dp) := hcA 3; have f4 : V.cell? ⟨A, 4, none⟩ = some (.int .u8 sd) := hcA 4; have f5 : V.cell? ⟨A, 5, none⟩ = some (.int .u8 cl) := hcA 5; have f6 : V.cell? ⟨A, 6, none⟩ = some (.int .u8 fl) := hcA 6; have f7 : V.cell? ⟨A, 7, none⟩ = some (.int .u16 dl) := hcA 7; have f8 : V.cell? ⟨A, 8, none⟩ = some (.int .u16 sn) := hcA 8
      have e0 : V.cell? ⟨B, 0, none⟩ = some (.int .u8 pr') := hcB 0; have e1 : V.cell? ⟨B, 1, none⟩ = some (.int .u8 s'') := hcB 1; have e2 : V.cell? ⟨B, 2, none⟩ = some (.int .u8 d') := hcB 2; have e3 : V.cell? ⟨B, 3, none⟩ = some (.int .u8 dp') := hcB 3; have e4 : V.cell? ⟨B, 4, none⟩ = some (.int .u8 sd') := hcB 4; have e5 : V.cell? ⟨B, 5, none⟩ = some (.int .u8 cl') := hcB 5; have e6 : V.cell? ⟨B, 6, none⟩ = some (.int .u8 fl') := hcB 6; have e7 : V.cell? ⟨B, 7, none⟩ = some (.int .u16 dl') := hcB 7; have e8 : V.cell? ⟨B, 8, none⟩ = some (.int .u16 sn') := hcB 8
      have HOWN := Lib.hid hown; have HROW := Lib.hid hrow; have HTX := Lib.hid htx
      clear hcA hcB hown hrow htx
      go_cut [17, 18] (fun v17 v18 wx => ∃ p q, v17 = .pointer (some ⟨p, 0, none⟩) ∧ v18 = .pointer (some ⟨q, 0, none⟩) ∧ UpI V wx ∧ LnAt wx p x ∧ LnAt wx q y)
      case first =>
        rename_i i0_ i1_ i2_ i3_ i4_ i5_ i6_ i7_ i8_ i9_
        revert hyr N hN30 HAB HAO HN HTL HRD i0_ A B W uW i1_ hAW hBW xa q c z1 q2 c2 z2 q3 c3 z3 z4 z5 i2_ i3_ V uV i4_ i5_ this f0 f1 f2 f3 f4 f5 f6 f7 f8 e0 e1 e2 e3 e4 e5 e6 e7 e8 HOWN HROW HTX i6_ i7_ i8_ i9_
        revert l s at0 v w g a0 a1 a pr s' d dp sd cl fl dl sn pr' s'' d' dp' sd' cl' fl' dl' sn' x hM1 hxb hxr y hM2 hyb
        exact hRF.out
      case rest =>
        clear hM1 hM2 f0 f1 f2 f3 f4 f5 f6 f7 f8 e0 e1 e2 e3 e4 e5 e6 e7 e8
        obtain ⟨P1, P2, rfl, rfl, hux, hX, hY⟩ := hcut
        haveI := hux
        haveI : UpI w wc := ⟨uV.up.trans hux.up⟩
        haveI := hX.lt
        haveI := hY.lt
        have hT1 : ∀ W, GoodD W → Gives Tryz.prog 28 #[.agg x.cells.toArray] W (.tuple #[.string ⟨x.text.toArray⟩, .int .i64 0]) := fun W g => Gives.cast (show Gives _ 28 #[.agg x.cells.toArray] _ _ from dtext_any x W g hxb) (by unfold textE; rw [hxr]; rfl)
        have hT2 : ∀ W, GoodD W → Gives Tryz.prog 28 #[.agg y.cells.toArray] W (.tuple #[.string ⟨y.text.toArray⟩, .int .i64 0]) := fun W g => Gives.cast (show Gives _ 28 #[.agg y.cells.toArray] _ _ from dtext_any y W g hyb) (by unfold textE; rw [hyr]; rfl)
        have hR1 : ∀ W, GoodD W → Gives Tryz.prog 29 #[.string ⟨x.text.toArray⟩] W (.tuple #[.agg x.cells.toArray, .int .i64 0]) := fun W g => (dread_any x.text W g (by have := ln_text_len x hxb; omega)).cast (by unfold dreadV; rw [readLn_text x hxb hxr]; rfl)
        have hxx : decide (x = x) = true := decide_eq_true rfl
        obtain ⟨cxy, hc1, hc2⟩ : ∃ c, decide (x = y) = c ∧ (x.text == y.text) = c := ⟨_, rfl, ln_text_beq hxb hyb hxr hyr⟩
        generalize x.text = tx at *
        generalize y.text = ty at *
        clear hxb hyb hxr hyr
        have HX := Lib.hid hX; have HY := Lib.hid hY
        clear hX hY
        go_upto_region 12 with (first
          | ((with_reducible refine held ?_); refine H_load_mid rfl 44 _ rfl P1 0 rfl x.cells _ (HX.out.up upI).range Tryz.underlying44 rfl lnSize ?_)
          | ((with_reducible refine held ?_); refine H_load_mid rfl 44 _ rfl P2 0 rfl y.cells _ (HY.out.up upI).range Tryz.underlying44 rfl lnSize ?_)
          | ((with_reducible refine held ?_); refine H_store_row rfl 44 _ _ rfl _ x.cells.toArray rfl rfl 44 _ (alloc_new rfl) lnSize rfl (ln_all x) ?_)
          | (go_at_call 28; (first | with_reducible refine (hT1 _ (g.up upI)).mono ?_ | with_reducible refine (hT2 _ (g.up upI)).mono ?_); rintro e w' ⟨rfl, z6, rfl⟩)
          | (go_at_call 29; refine (hR1 _ (g.up upI)).mono ?_; rintro e w' ⟨rfl, z7, rfl⟩))
        obtain ⟨D, hD⟩ : ∃ D, z7.w.heap.size = D := ⟨_, rfl⟩
        rw [hD]
        refine wp_letter (fun U => UpI V U ∧ U.heap[D]? = some (.cells x.cells.toArray 44 (0, 0)) ∧ LnAt U P1 x ∧ LnAt U P2 y)
          ⟨⟨UpI.row hD _⟩, setRow_heap _ _ _ _ _ _ (alloc_new hD), HX.out.up (UpI.row hD _), HY.out.up (UpI.row hD _)⟩ ?_
        clear HX HY hD hT1 hT2 hR1
        rintro U ⟨uU, hrD, hX, hY⟩
        haveI := uU
        haveI : UpI w U := ⟨uV.up.trans uU.up⟩
        have HX := Lib.hid hX; have HY := Lib.hid hY
        clear hX hY
        go_upto_region 14 with (first
          | ((with_reducible refine held ?_); refine H_load_midG 44 _ rfl P1 0 rfl (by kernel_rfl) x.cells _ (HX.out.up upI).range Tryz.underlying44 rfl lnSize ?_)
          | ((with_reducible refine held ?_); refine H_load_midG 44 _ rfl P2 0 rfl (by kernel_rfl) y.cells _ (HY.out.up upI).range Tryz.underlying44 rfl lnSize ?_)
          | ((with_reducible refine held ?_); refine H_load_rowG 44 _ rfl D rfl (by kernel_rfl) 44 x.cells.toArray (0, 0) _ hrD Tryz.underlying44 rfl lnSize ?_))
        clear hrD hc1 hc2 hxx
        go_upto_if 113 with fail
        go_cut [24] (fun _ wx => UpI U wx)
        case first =>
          by_cases h5 : s.length ≤ 500
          · have h5' : (s.length : Int) ≤ 500 := by omega
            have hRd := fun W g => dread_any s W g (by omega)
            unfold dreadV at hRd
            obtain ⟨zt, hzt⟩ : ∃ zt : List UInt8, ∀ W, GoodD W → Gives Tryz.prog 28 #[.agg Ln.zero.cells.toArray] W (.tuple #[.string ⟨zt.toArray⟩, .int .i64 0]) := ⟨Ln.zero.text, fun W g => Gives.cast (show Gives _ 28 #[.agg Ln.zero.cells.toArray] _ _ from dtext_any Ln.zero W g LnB.zero) (by unfold textE; rw [zero_right]; rfl)⟩
            cases hr : readLn s with
            | none =>
              obtain ⟨zl, hzl⟩ : ∃ zl : Ln, Ln.zero = zl := ⟨_, rfl⟩
              have hBz : ∀ w, (Instr.build 44 #[]).run Tryz.prog w = .ok (.agg zl.cells.toArray) w := fun w => hzl ▸ build_zero w
              have hRd2 : ∀ W, GoodD W → Gives Tryz.prog 29 #[.string ⟨s.toArray⟩] W (.tuple #[.agg Ln.zero.cells.toArray, .int .i64 382]) := fun W g => (hRd W g).cast (by rw [hr]; rfl)
              rw [hzl] at hRd2 hzt
              have hzz : decide (zl = zl) = true := decide_eq_true rfl
              have hez : ∀ w, (Op.equalIn 10000 44 (.agg zl.cells.toArray) (.agg #[.int .u8 0, .int .u32 0, .int .u32 0, .int .u16 0, .int .u16 0, .int .u8 0, .int .u8 0, .bool false, .bool false, .int .i64 0, .int .i64 0])).run Tryz.prog w = .ok true w := fun w => by
                have h := eq_ln Ln.zero Ln.zero w
                rw [decide_eq_true rfl] at h
                rw [← hzl]; exact h
              clear hRd hr hzl
              go_upto_region 16 with (first
                | ((with_reducible refine held ?_); refine H_store_row rfl 44 _ _ rfl _ zl.cells.toArray rfl rfl 44 _ (alloc_new rfl) lnSize rfl (ln_all zl) ?_)
                | (go_at_call 29; refine (hRd2 _ (g.up upI)).mono ?_; rintro e w' ⟨rfl, z8, rfl⟩))
              obtain ⟨E, hE⟩ : ∃ E, z8.w.heap.size = E := ⟨_, rfl⟩
              rw [hE]
              refine wp_letter (fun X => UpI U X ∧ X.heap[E]? = some (.cells zl.cells.toArray 44 (0, 0))) ⟨⟨UpI.row hE _⟩, setRow_heap _ _ _ _ _ _ (alloc_new hE)⟩ ?_
              rintro X ⟨uX, hrE⟩
              haveI := uX
              haveI : UpI w X := ⟨(upI : Up w U).trans uX.up⟩
              clear hE
              go_wp2_with (first
                | ((with_reducible refine held ?_); refine H_load_rowG 44 _ rfl E rfl (by kernel_rfl) 44 zl.cells.toArray (0, 0) _ (((upI : Up X _).block E (lt_of_heapB hrE)).trans hrE) Tryz.underlying44 rfl lnSize ?_)
                | ((with_reducible refine held ?_); refine H_buildRunG 44 _ rfl (by kernel_rfl) #[] (by kernel_rfl) _ _ (hBz _) ?_)
                | (go_at_call 28; refine (hzt _ (g.up upI)).mono ?_; rintro e w' ⟨rfl, z9, rfl⟩))
              go_meet
              exact inferInstance
            | some z =>
              obtain ⟨hz1, hz2, hz3⟩ := readLn_some hr
              clear hz3
              have hzb := readLn_b hr
              have hRd2 : ∀ W, GoodD W → Gives Tryz.prog 29 #[.string ⟨s.toArray⟩] W (.tuple #[.agg z.cells.toArray, .int .i64 0]) := fun W g => (hRd W g).cast (by rw [hr]; rfl)
              have hTz : ∀ W, GoodD W → Gives Tryz.prog 28 #[.agg z.cells.toArray] W (.tuple #[.string ⟨s.toArray⟩, .int .i64 0]) := fun W g => Gives.cast (show Gives _ 28 #[.agg z.cells.toArray] _ _ from dtext_any z W g hzb) (by unfold textE; rw [hz1, hz2]; rfl)
              clear hRd hr hz1 hz2 hzb
              go_upto_region 16 with (first
                | ((with_reducible refine held ?_); refine H_store_row rfl 44 _ _ rfl _ z.cells.toArray rfl rfl 44 _ (alloc_new rfl) lnSize rfl (ln_all z) ?_)
                | (go_at_call 29; refine (hRd2 _ (g.up upI)).mono ?_; rintro e w' ⟨rfl, z8, rfl⟩))
              obtain ⟨E, hE⟩ : ∃ E, z8.w.heap.size = E := ⟨_, rfl⟩
              rw [hE]
              refine wp_letter (fun X => UpI U X ∧ X.heap[E]? = some (.cells z.cells.toArray 44 (0, 0))) ⟨⟨UpI.row hE _⟩, setRow_heap _ _ _ _ _ _ (alloc_new hE)⟩ ?_
              rintro X ⟨uX, hrE⟩
              haveI := uX
              haveI : UpI w X := ⟨(upI : Up w U).trans uX.up⟩
              clear hE
              go_wp2_with (first
                | ((with_reducible refine held ?_); refine H_load_rowG 44 _ rfl E rfl (by kernel_rfl) 44 z.cells.toArray (0, 0) _ (((upI : Up X _).block E (lt_of_heapB hrE)).trans hrE) Tryz.underlying44 rfl lnSize ?_)
                | (go_at_call 28; refine (hTz _ (g.up upI)).mono ?_; rintro e w' ⟨rfl, z9, rfl⟩))
              go_meet
              exact inferInstance
          · have h5' : (500 : Int) < (s.length : Int) := by omega
            go_wp2_with fail
            go_meet
            exact inferInstance
        case rest =>
          have huw := hcut
          haveI := huw
          haveI : UpI w wc := ⟨(upI : Up w U).trans huw.up⟩
          haveI : UpI V wc := ⟨uU.up.trans huw.up⟩
          rcases Nat.eq_zero_or_pos N with h0 | h0
          · subst h0
            go_wp2_with fail
            go_ret
            exact ⟨rfl, mkI⟩
          · have hN0 : ¬ (N : Int) = 0 := by omega
            have hNb : ((N : Int) == 0) = false := beq_eq_false_iff_ne.2 hN0
            obtain ⟨k, hk⟩ : ∃ k : Nat, at0 % (N : Int) = (k : Int) := ⟨(at0 % (N : Int)).toNat, by have := Int.emod_nonneg at0 hN0; omega⟩
            have hkN : k < N := by have := Int.emod_lt_of_pos at0 (show (0 : Int) < N by omega); omega
            have htm : at0.tmod (N : Int) = (k : Int) := by rw [Int.tmod_eq_emod_of_nonneg a0]; exact hk
            have hwa : wrap64 at0 = at0 := IntWalk.wrap64_in _ ⟨by omega, by omega⟩
            have hown := owns_up HOWN.out (upI : Up V wc)
            obtain ⟨_, ⟨_, h⟩ | ⟨gA, cap, cur, hve, hgA, hhA, hc1, hc2, hc3, hc4⟩⟩ := hown
            · omega
            · simp only [Value.slice.injEq, true_and] at hve
              obtain ⟨rfl, rfl⟩ := hve
              have htx := RowOf.up HTX.out (upI : Up V wc)
              have hlt0 : 0 < a.length := by rw [HN.out]; exact h0
              obtain ⟨p2, c2', hpe, hle2, hcx⟩ := htx
              rw [List.length_map, HN.out] at hpe hle2
              simp only [Value.slice.injEq, true_and] at hpe
              obtain ⟨rfl, rfl⟩ := hpe
              obtain ⟨b2, o2, rfl, hb2, hjk⟩ := hcx 0 (a[0].text) (by rw [List.getElem?_map, List.getElem?_eq_getElem hlt0]; rfl)
              have hcs : ∀ (i : Nat) (z : List UInt8), (a.map Ln.text)[i]? = some z → wc.cell? ⟨b2, o2 + i, none⟩ = some (.string ⟨z.toArray⟩) := fun i z hz => by
                obtain ⟨b', o', hp', _, hcz⟩ := hcx i z hz
                simp only [Option.some.injEq, Addr.mk.injEq, and_true] at hp'
                obtain ⟨rfl, rfl⟩ := hp'
                have := hcz 0 _ rfl
                rwa [Nat.add_zero, Nat.mul_one] at this
              have HCS := Lib.hid hcs; have HHA := Lib.hid hhA; have HC1 := Lib.hid hc1; have HC4 := Lib.hid hc4; have HC3 := Lib.hid hc3
              haveI : LtSize b2 wc := ⟨hb2⟩
              clear hjk hcs hhA hc4 hc3 hcx hlt0 hk
              obtain ⟨hw1, hk1, hk2, hk3, hkc, hnk, k0, hkN', hk4⟩ := back_nums k N c2 hkN hle2 hN30
              go_upto_region 22 with fail
              clear hwa htm
              have hmix : Tryz.prog.follows .mixedOrders = true := by kernel_rfl
              obtain ⟨i0s, his, hy0s, hy1s, hy2s⟩ := info_parts infoStr1
              have His := Lib.hid his; have Hy0s := Lib.hid hy0s; have Hy1s := Lib.hid hy1s; have Hy2s := Lib.hid hy2s
              obtain ⟨i0l, hil, hy0l, hy1l, hy2l⟩ := info_parts infoLine
              have Hil := Lib.hid hil; have Hy0l := Lib.hid hy0l; have Hy1l := Lib.hid hy1l; have Hy2l := Lib.hid hy2l
              obtain ⟨T, hT0⟩ : ∃ T, a.map Ln.text = T := ⟨_, rfl⟩
              have hTN : T.length = N := by rw [← hT0, List.length_map, HN.out]
              have HT0 := Lib.hid hT0
              have hs1 : ((strCells T).take (k + 1)).length = (k + 1) * 1 := by unfold strCells; rw [List.length_take, List.length_map, hTN, Nat.mul_one, Nat.min_eq_left (Nat.succ_le_of_lt hkN)]
              have hs2 : ((strCells T).drop k).length = (N - k) * 1 := by unfold strCells; rw [List.length_drop, List.length_map, hTN, Nat.mul_one]
              have hs0 : ∀ u ∈ strCells T, u.oneCell' = true := fun u hu => by
                unfold strCells at hu
                obtain ⟨z, _, rfl⟩ := List.mem_map.1 hu
                rfl
              have hsc : ∀ (j : Nat) u, (strCells T)[j]? = some u → wc.cell? ⟨b2, o2 + j, none⟩ = some u := fun j u hu => by
                unfold strCells at hu
                rw [List.getElem?_map] at hu
                cases hz : T[j]? with
                | none => rw [hz] at hu; cases hu
                | some z => rw [hz] at hu; cases hu; exact HCS.out j z (by rw [HT0.out]; exact hz)
              have hs3 : ∀ (W : World), UpI wc W → ∀ (j : Nat) u, ((strCells T).take (k + 1))[j]? = some u → W.cell? (Addr.add ⟨b2, o2, none⟩ j) = some u := fun W h j u hu => by
                rw [add_off]
                rw [List.getElem?_take] at hu
                split at hu
                · exact h.up.cell_some' (hsc j u hu)
                · cases hu
              have hs4 : ∀ (W : World), UpI wc W → ∀ (j : Nat) u, ((strCells T).drop k)[j]? = some u → W.cell? (Addr.add ⟨b2, o2 + k, none⟩ j) = some u := fun W h j u hu => by
                rw [add_off, Nat.add_assoc]
                rw [List.getElem?_drop] at hu
                exact h.up.cell_some' (hsc (k + j) u hu)
              have Hs0 := Lib.hid hs0; have Hs1 := Lib.hid hs1; have Hs2 := Lib.hid hs2; have Hs3 := Lib.hid hs3; have Hs4 := Lib.hid hs4; have HTN := Lib.hid hTN
              clear his hy0s hy1s hy2s hil hy0l hy1l hy2l hT0 hs0 hs1 hs2 hs3 hs4 hsc hTN
              haveI : LtSize gA wc := ⟨lt_of_heapB HHA.out⟩
              rename_i i0_ i1_ i2_ i3_ i4_ i5_ i6_ i7_ i8_ i9_ i10_ i11_ i12_ i13_ i14_ i15_ i16_ i17_ i18_ i19_ i20_ i21_ i22_ i23_ i24_ i25_ i26_ i27_ i28_ i29_ i30_ i31_ i32_ i33_ i34_ i35_ i36_ i37_ i38_ i39_ i40_ i41_ i42_ i43_ i44_ i45_ i46_ i47_ i48_ i49_ i50_ i51_ i52_ i53_ i54_ i55_ i56_ i57_ i58_ i59_ i60_ i61_ i62_ i63_ i64_ i65_ i66_ i67_ i68_ i69_ i70_ i71_ i72_ i73_ i74_ i75_ i76_ i77_ i78_ i79_ i80_ i81_ i82_ i83_ i84_ i85_ i86_ i87_ i88_ i89_ i90_ i91_ i92_ i93_ i94_ i95_ i96_ i97_ i98_ i99_ i100_ i101_ i102_ i103_ i104_ i105_ i106_ i107_ i108_ i109_ i110_ i111_ i112_ i113_ i114_ i115_ i116_ i117_ i118_ i119_ i120_ i121_ i122_ i123_ i124_ i125_ i126_ i127_ i128_ i129_ i130_ i131_ i132_ i133_ i134_ i135_ i136_ i137_ i138_ i139_ i140_ i141_ i142_ i143_ i144_ i145_ i146_ i147_ i148_ i149_ i150_ i151_ i152_ i153_ i154_ i155_ i156_ i157_ i158_ i159_ i160_ i161_ i162_ i163_ i164_ i165_ i166_ i167_ i168_ i169_ i170_ i171_ i172_ i173_ i174_ i175_ i176_ i177_ i178_ i179_ i180_ i181_ i182_ i183_ i184_ i185_ i186_ i187_ i188_ i189_ i190_ i191_ i192_ i193_ i194_ i195_ i196_ i197_ i198_ i199_ i200_ i201_ i202_ i203_ i204_ i205_ i206_ i207_ i208_ i209_ i210_ i211_ i212_ i213_ i214_ i215_ i216_ i217_ i218_ i219_ i220_ i221_ i222_ i223_ i224_ i225_ i226_ i227_ i228_ i229_ i230_ i231_ i232_ i233_ i234_ i235_
              revert hcut huw i229_ i230_ i231_ h0 hN0 hNb k hkN i232_ gA cur hgA HOWN HROW hc1 hc2 hle2 b2 o2 HTX hb2 HCS HHA HC1 HC4 HC3 i233_ hw1 hk1 hk2 hk3 hkc hnk k0 hkN' hk4 i234_ i235_ hmix i0s His Hy0s Hy1s Hy2s i0l Hil Hy0l Hy1l Hy2l T HT0 Hs0 Hs1 Hs2 Hs3 Hs4 HTN this
              revert u194 u195 u196 u197 u198 u199 u200 u201 u202 u203 u204 u205 u206 u207 u208 u209 u210 u211 u212 u213 u214 u215 u216 u217 u218 u219 u220 u221 u222 u223 u224 u225 u226 u227 u228 u229 u230 u231 u232 u233 u234 u235 u236 u237 u238 u239 u240 u241 u242 u243 u244 u245 u246 u247 u248 u249 u250 u251 u252 u253
              revert u134 u135 u136 u137 u138 u139 u140 u141 u142 u143 u144 u145 u146 u147 u148 u149 u150 u151 u152 u153 u154 u155 u156 u157 u158 u159 u160 u161 u162 u163 u164 u165 u166 u167 u168 u169 u170 u171 u172 u173 u174 u175 u176 u177 u178 u179 u180 u181 u182 u183 u184 u185 u186 u187 u188 u189 u190 u191 u192 u193
              revert u74 u75 u76 u77 u78 u79 u80 u81 u82 u83 u84 u85 u86 u87 u88 u89 u90 u91 u92 u93 u94 u95 u96 u97 u98 u99 u100 u101 u102 u103 u104 u105 u106 u107 u108 u109 u110 u111 u112 u113 u114 u115 u116 u117 u118 u119 u120 u121 u122 u123 u124 u125 u126 u127 u128 u129 u130 u131 u132 u133
              revert hux i222_ i223_ i224_ i225_ cxy tx ty i226_ z6 z7 D U uU i227_ i228_ HX HY wc u10 u23 u24 u25 u26 u38 u39 u40 u41 u42 u43 u44 u45 u46 u47 u48 u49 u50 u51 u52 u53 u54 u55 u56 u57 u58 u59 u60 u61 u62 u63 u64 u65 u66 u67 u68 u69 u70 u71 u72 u73
              revert i164_ i165_ i166_ i167_ i168_ i169_ i170_ i171_ i172_ i173_ i174_ i175_ i176_ i177_ i178_ i179_ i180_ i181_ i182_ i183_ i184_ i185_ i186_ i187_ i188_ i189_ i190_ i191_ i192_ i193_ i194_ i195_ i196_ i197_ i198_ i199_ i200_ i201_ i202_ i203_ i204_ i205_ i206_ i207_ i208_ i209_ i210_ i211_ i212_ i213_ i214_ i215_ i216_ i217_ i218_ i219_ i220_ i221_ P1 P2
              revert i104_ i105_ i106_ i107_ i108_ i109_ i110_ i111_ i112_ i113_ i114_ i115_ i116_ i117_ i118_ i119_ i120_ i121_ i122_ i123_ i124_ i125_ i126_ i127_ i128_ i129_ i130_ i131_ i132_ i133_ i134_ i135_ i136_ i137_ i138_ i139_ i140_ i141_ i142_ i143_ i144_ i145_ i146_ i147_ i148_ i149_ i150_ i151_ i152_ i153_ i154_ i155_ i156_ i157_ i158_ i159_ i160_ i161_ i162_ i163_
              revert i44_ i45_ i46_ i47_ i48_ i49_ i50_ i51_ i52_ i53_ i54_ i55_ i56_ i57_ i58_ i59_ i60_ i61_ i62_ i63_ i64_ i65_ i66_ i67_ i68_ i69_ i70_ i71_ i72_ i73_ i74_ i75_ i76_ i77_ i78_ i79_ i80_ i81_ i82_ i83_ i84_ i85_ i86_ i87_ i88_ i89_ i90_ i91_ i92_ i93_ i94_ i95_ i96_ i97_ i98_ i99_ i100_ i101_ i102_ i103_
              revert B W uW i1_ hAW hBW xa c z1 c2 z2 q3 c3 z3 z4 z5 V uV i2_ i3_ i4_ i5_ i6_ i7_ i8_ i9_ i10_ i11_ i12_ i13_ i14_ i15_ i16_ i17_ i18_ i19_ i20_ i21_ i22_ i23_ i24_ i25_ i26_ i27_ i28_ i29_ i30_ i31_ i32_ i33_ i34_ i35_ i36_ i37_ i38_ i39_ i40_ i41_ i42_ i43_
              revert l s at0 v w g a0 a1 a pr s' d dp sd cl fl dl sn pr' s'' d' dp' sd' cl' fl' dl' sn' x y N hN30 HAB HAO HN HTL HRD i0_ A
              exact hR.out
set_option maxHeartbeats 64000000 in
set_option maxRecDepth 100000 in
theorem backFirst : backPart0.2.1 := by
  unfold backPart0
  intro l s at0 v w g a0 a1 a pr s' d dp sd cl fl dl sn pr' s'' d' dp' sd' cl' fl' dl' sn' x hM1 hxb hxr y hM2 hyb hyr N hN30 HAB HAO HN HTL HRD i0_ A B W uW i1_ hAW hBW xa q c z1 q2 c2 z2 q3 c3 z3
  intro z4 z5 i2_ i3_ V uV i4_ i5_ this f0 f1 f2 f3 f4 f5 f6 f7 f8 e0 e1 e2 e3 e4 e5 e6 e7 e8 HOWN HROW HTX i6_ i7_ i8_ i9_
  go_region_held3 (fun w' => UpI V w' ∧ (w'.cell? ⟨A, 0, none⟩ = some (.int .u8 pr) ∧ w'.cell? ⟨A, 1, none⟩ = some (.int .u8 s') ∧ w'.cell? ⟨A, 2, none⟩ = some (.int .u8 d) ∧ w'.cell? ⟨A, 3, none⟩ = some (.int .u8 dp) ∧ w'.cell? ⟨A, 4, none⟩ = some (.int .u8 sd) ∧ w'.cell? ⟨A, 5, none⟩ = some (.int .u8 cl) ∧ w'.cell? ⟨A, 6, none⟩ = some (.int .u8 fl) ∧ w'.cell? ⟨A, 7, none⟩ = some (.int .u16 dl) ∧ w'.cell? ⟨A, 8, none⟩ = some (.int .u16 sn)) ∧ (w'.cell? ⟨B, 0, none⟩ = some (.int .u8 pr') ∧ w'.cell? ⟨B, 1, none⟩ = some (.int .u8 s'') ∧ w'.cell? ⟨B, 2, none⟩ = some (.int .u8 d') ∧ w'.cell? ⟨B, 3, none⟩ = some (.int .u8 dp') ∧ w'.cell? ⟨B, 4, none⟩ = some (.int .u8 sd') ∧ w'.cell? ⟨B, 5, none⟩ = some (.int .u8 cl') ∧ w'.cell? ⟨B, 6, none⟩ = some (.int .u8 fl') ∧ w'.cell? ⟨B, 7, none⟩ = some (.int .u16 dl') ∧ w'.cell? ⟨B, 8, none⟩ = some (.int .u16 sn')))
    (exact ⟨inferInstance, ⟨(upI : Up V _).cell_some' f0, (upI : Up V _).cell_some' f1, (upI : Up V _).cell_some' f2, (upI : Up V _).cell_some' f3, (upI : Up V _).cell_some' f4, (upI : Up V _).cell_some' f5, (upI : Up V _).cell_some' f6, (upI : Up V _).cell_some' f7, (upI : Up V _).cell_some' f8⟩, ⟨(upI : Up V _).cell_some' e0, (upI : Up V _).cell_some' e1, (upI : Up V _).cell_some' e2, (upI : Up V _).cell_some' e3, (upI : Up V _).cell_some' e4, (upI : Up V _).cell_some' e5, (upI : Up V _).cell_some' e6, (upI : Up V _).cell_some' e7, (upI : Up V _).cell_some' e8⟩⟩)
    (first
      | (go_at_call 27; (with_reducible refine (hM1 _).mono ?_); rintro e w' ⟨rfl, z, rfl⟩)
      | (go_at_call 27; (with_reducible refine (hM2 _).mono ?_); rintro e w' ⟨rfl, z, rfl⟩))
  all_goals (go_wp2_with fail; go_meet; exact ⟨_, _, rfl, rfl, inferInstance, ⟨by simp [go_sem], by simp [go_sem], by simp [go_sem], by simp [go_sem], by simp [go_sem], by simp [go_sem], by simp [go_sem], by simp [go_sem], by simp [go_sem], by simp [go_sem], by simp [go_sem]⟩, ⟨by simp [go_sem], by simp [go_sem], by simp [go_sem], by simp [go_sem], by simp [go_sem], by simp [go_sem], by simp [go_sem], by simp [go_sem], by simp [go_sem], by simp [go_sem], by simp [go_sem]⟩⟩)
set_option maxHeartbeats 64000000 in
set_option maxRecDepth 100000 in
noncomputable def backPart1 : PSigma (fun R : Prop => KeptB R → backPart0.1) := by
  apply PSigma.mk
  case snd =>
    intro hR
    unfold backPart0
    intro l s at0 v w g a0 a1 a pr s' d dp sd cl fl dl sn pr' s'' d' dp' sd' cl' fl' dl' sn' x y N hN30 HAB HAO HN HTL HRD i0_ A B W uW i1_ hAW hBW xa c z1 c2 z2 q3 c3 z3 z4 z5 V uV i2_ i3_ i4_ i5_
    intro i6_ i7_ i8_ i9_ i10_ i11_ i12_ i13_ i14_ i15_ i16_ i17_ i18_ i19_ i20_ i21_ i22_ i23_ i24_ i25_ i26_ i27_ i28_ i29_ i30_ i31_ i32_ i33_ i34_ i35_ i36_ i37_ i38_ i39_ i40_ i41_ i42_ i43_ i44_ i45_ i46_ i47_ i48_ i49_ i50_ i51_ i52_ i53_ i54_ i55_ i56_ i57_ i58_ i59_ i60_ i61_ i62_ i63_ i64_ i65_
    intro i66_ i67_ i68_ i69_ i70_ i71_ i72_ i73_ i74_ i75_ i76_ i77_ i78_ i79_ i80_ i81_ i82_ i83_ i84_ i85_ i86_ i87_ i88_ i89_ i90_ i91_ i92_ i93_ i94_ i95_ i96_ i97_ i98_ i99_ i100_ i101_ i102_ i103_ i104_ i105_ i106_ i107_ i108_ i109_ i110_ i111_ i112_ i113_ i114_ i115_ i116_ i117_ i118_ i119_ i120_ i121_ i122_ i123_ i124_ i125_
    intro i126_ i127_ i128_ i129_ i130_ i131_ i132_ i133_ i134_ i135_ i136_ i137_ i138_ i139_ i140_ i141_ i142_ i143_ i144_ i145_ i146_ i147_ i148_ i149_ i150_ i151_ i152_ i153_ i154_ i155_ i156_ i157_ i158_ i159_ i160_ i161_ i162_ i163_ i164_ i165_ i166_ i167_ i168_ i169_ i170_ i171_ i172_ i173_ i174_ i175_ i176_ i177_ i178_ i179_ i180_ i181_ i182_ i183_ i184_ i185_
    intro i186_ i187_ i188_ i189_ i190_ i191_ i192_ i193_ i194_ i195_ i196_ i197_ i198_ i199_ i200_ i201_ i202_ i203_ i204_ i205_ i206_ i207_ i208_ i209_ i210_ i211_ i212_ i213_ i214_ i215_ i216_ i217_ i218_ i219_ i220_ i221_ P1 P2 hux i222_ i223_ i224_ i225_ cxy tx ty i226_ z6 z7 D U uU i227_ i228_ HX HY wc u10 u23 u24
    intro u25 u26 u38 u39 u40 u41 u42 u43 u44 u45 u46 u47 u48 u49 u50 u51 u52 u53 u54 u55 u56 u57 u58 u59 u60 u61 u62 u63 u64 u65 u66 u67 u68 u69 u70 u71 u72 u73 u74 u75 u76 u77 u78 u79 u80 u81 u82 u83 u84 u85 u86 u87 u88 u89 u90 u91 u92 u93 u94 u95
    intro u96 u97 u98 u99 u100 u101 u102 u103 u104 u105 u106 u107 u108 u109 u110 u111 u112 u113 u114 u115 u116 u117 u118 u119 u120 u121 u122 u123 u124 u125 u126 u127 u128 u129 u130 u131 u132 u133 u134 u135 u136 u137 u138 u139 u140 u141 u142 u143 u144 u145 u146 u147 u148 u149 u150 u151 u152 u153 u154 u155
    intro u156 u157 u158 u159 u160 u161 u162 u163 u164 u165 u166 u167 u168 u169 u170 u171 u172 u173 u174 u175 u176 u177 u178 u179 u180 u181 u182 u183 u184 u185 u186 u187 u188 u189 u190 u191 u192 u193 u194 u195 u196 u197 u198 u199 u200 u201 u202 u203 u204 u205 u206 u207 u208 u209 u210 u211 u212 u213 u214 u215
    intro u216 u217 u218 u219 u220 u221 u222 u223 u224 u225 u226 u227 u228 u229 u230 u231 u232 u233 u234 u235 u236 u237 u238 u239 u240 u241 u242 u243 u244 u245 u246 u247 u248 u249 u250 u251 u252 u253 hcut huw i229_ i230_ i231_ h0 hN0 hNb k hkN i232_ gA cur hgA HOWN HROW hc1 hc2 hle2 b2 o2 HTX
    intro hb2 HCS HHA HC1 HC4 HC3 i233_ hw1 hk1 hk2 hk3 hkc hnk k0 hkN' hk4 i234_ i235_ hmix i0s His Hy0s Hy1s Hy2s i0l Hil Hy0l Hy1l Hy2l T HT0 Hs0 Hs1 Hs2 Hs3 Hs4 HTN this
    go_cut [28] (fun v28 wx => UpI w wx ∧ LtSize gA wx ∧ wx.heap[gA]? = some (.cells cur 44 (0, 0)) ∧ ∃ q c, v28 = .slice q (N + 1) c ∧ StrRow wx (.slice q (N + 1) c) (T.take (k + 1) ++ T.drop k))
    case first =>
      refine wp_region_turn hmix ?_
      refine any_take (i := 1) (v := ?v1) rfl (by kernel_rfl) (by kernel_rfl) (by kernel_rfl) (Or.inl ⟨by kernel_rfl, ?hy1⟩) ?rest1
      case hy1 => (intro w; go_simp; (try with_reducible rfl))
      (try simp only [Act.put, List.getElem_toArray, List.getElem_cons_succ, List.getElem_cons_zero, List.setIfInBounds_toArray, List.set_cons_succ, List.set_cons_zero])
      refine any_take (i := 2) (v := ?v2) rfl (by kernel_rfl) (by kernel_rfl) (by kernel_rfl) (Or.inl ⟨by kernel_rfl, ?hy2⟩) ?rest2
      case hy2 => (intro w; go_simp; (try with_reducible rfl))
      (try simp only [Act.put, List.getElem_toArray, List.getElem_cons_succ, List.getElem_cons_zero, List.setIfInBounds_toArray, List.set_cons_succ, List.set_cons_zero])
      refine any_take (i := 3) (v := ?v3) rfl (by kernel_rfl) (by kernel_rfl) (by kernel_rfl) (Or.inl ⟨by kernel_rfl, ?hy3⟩) ?rest3
      case hy3 => (intro w; go_simp; (try with_reducible rfl))
      (try simp only [Act.put, List.getElem_toArray, List.getElem_cons_succ, List.getElem_cons_zero, List.setIfInBounds_toArray, List.set_cons_succ, List.set_cons_zero])
      refine any_take (i := 4) (v := ?v4) rfl (by kernel_rfl) (by kernel_rfl) (by kernel_rfl) (Or.inl ⟨by kernel_rfl, ?hy4⟩) ?rest4
      case hy4 => (intro w; go_simp; (try with_reducible rfl))
      (try simp only [Act.put, List.getElem_toArray, List.getElem_cons_succ, List.getElem_cons_zero, List.setIfInBounds_toArray, List.set_cons_succ, List.set_cons_zero])
      refine any_take (i := 6) (v := ?v5) rfl (by kernel_rfl) (by kernel_rfl) (by kernel_rfl) (Or.inl ⟨by kernel_rfl, ?hy5⟩) ?rest5
      case hy5 => (intro w; go_simp; (try with_reducible rfl))
      (try simp only [Act.put, List.getElem_toArray, List.getElem_cons_succ, List.getElem_cons_zero, List.setIfInBounds_toArray, List.set_cons_succ, List.set_cons_zero])
      refine any_take (i := 7) (v := ?v6) rfl (by kernel_rfl) (by kernel_rfl) (by kernel_rfl) (Or.inl ⟨by kernel_rfl, ?hy6⟩) ?rest6
      case hy6 => (intro w; go_simp; (try with_reducible rfl))
      (try simp only [Act.put, List.getElem_toArray, List.getElem_cons_succ, List.getElem_cons_zero, List.setIfInBounds_toArray, List.set_cons_succ, List.set_cons_zero])
      refine any_take (i := 8) (v := ?v7) rfl (by kernel_rfl) (by kernel_rfl) (by kernel_rfl) (Or.inl ⟨by kernel_rfl, ?hy7⟩) ?rest7
      case hy7 => (intro w; go_simp; (try with_reducible rfl))
      (try simp only [Act.put, List.getElem_toArray, List.getElem_cons_succ, List.getElem_cons_zero, List.setIfInBounds_toArray, List.set_cons_succ, List.set_cons_zero])
      refine wpAny_ready (rs := [0]) (by kernel_rfl) (by simp) ?_
      ((with_reducible refine held ?_); refine HR_cons rfl (fun K hK => ?_) ?_)
      · go_simp
        refine hK _ _ ?_; clear hK K; (try simp only [Act.put, List.getElem_toArray, List.getElem_cons_succ, List.getElem_cons_zero, List.setIfInBounds_toArray, List.set_cons_succ, List.set_cons_zero])
        refine wpAny_ready (rs := [5]) (by kernel_rfl) (by simp) ?_
        ((with_reducible refine held ?_); refine HR_cons rfl (fun K hK => ?_) ?_)
        · skip
          (with_reducible refine held ?_); refine HS_append_own (by kernel_rfl) _ _ 23 rfl wc.heap.size 9 i0s (.string ⟨#[]⟩) 1 16 Tryz.underlying23 His.out Hy0s.out Hy1s.out Hy2s.out rfl (by decide) (.slice (some ⟨wc.heap.size, 0, none⟩) 0 0) 0 [] (by kernel_rfl) (fresh_own wc _ (by simp) (by simp)) ⟨b2, o2, none⟩ (k + 1) c2 ((strCells T).take (k + 1)) (by kernel_rfl) Hs1.out (Hs3.out _ inferInstance) (fun u h => Hs0.out u (List.mem_of_mem_take h)) (back_len k N hkN hN30).p1 (back_len k N hkN hN30).p2 (upI : Up wc _).size ?_
          intro v1 w1 hown1 hgrow
          have hu1 : Up wc w1 := Up.grown (upI : Up wc _) hgrow (fun k' h => by have h' := Option.some.inj h; subst h'; first | exact Nat.le_refl _ | simp)
          obtain ⟨x1, rfl⟩ := hu1.mk
          have Hown1 := Lib.hid hown1
          clear hown1 hgrow hu1
          refine hK _ _ ?_; clear hK K; (try simp only [Act.put, List.getElem_toArray, List.getElem_cons_succ, List.getElem_cons_zero, List.setIfInBounds_toArray, List.set_cons_succ, List.set_cons_zero])
          refine wpAny_ready (rs := [9]) (by kernel_rfl) (by simp) ?_
          ((with_reducible refine held ?_); refine HR_cons rfl (fun K hK => ?_) ?_)
          · skip
            (with_reducible refine held ?_); refine HS_append_own (by kernel_rfl) _ _ 23 rfl wc.heap.size 9 i0s (.string ⟨#[]⟩) 1 16 Tryz.underlying23 His.out Hy0s.out Hy1s.out Hy2s.out rfl (by decide) v1 _ _ (by kernel_rfl) Hown1.out ⟨b2, o2 + k, none⟩ (N - k) (c2 - k) ((strCells T).drop k) (by kernel_rfl) Hs2.out (Hs4.out _ inferInstance) (fun u h => Hs0.out u (List.mem_of_mem_drop h)) (back_len k N hkN hN30).p3 (back_len k N hkN hN30).p4 (upI : Up wc _).size ?_
            intro v2 w2 hown2 hgrow
            have hu2 : Up wc w2 := Up.grown (upI : Up wc _) hgrow (fun k' h => owns_row Hown1.out k' h)
            obtain ⟨x2, rfl⟩ := hu2.mk
            have Hown2 := Lib.hid hown2
            clear hown2 hgrow hu2
            refine hK _ _ ?_; clear hK K; (try simp only [Act.put, List.getElem_toArray, List.getElem_cons_succ, List.getElem_cons_zero, List.setIfInBounds_toArray, List.set_cons_succ, List.set_cons_zero])
            refine any_take (i := 10) (v := ?v8) rfl (by kernel_rfl) (by kernel_rfl) (by kernel_rfl) (Or.inl ⟨by kernel_rfl, ?hy8⟩) ?rest8
            case hy8 => (intro w; go_simp; (try with_reducible rfl))
            (try simp only [Act.put, List.getElem_toArray, List.getElem_cons_succ, List.getElem_cons_zero, List.setIfInBounds_toArray, List.set_cons_succ, List.set_cons_zero])
            refine wpAny_done (by kernel_rfl) ?_ _
            refine ⟨rfl, ?_⟩
            have hrw : StrRow x2.w v2 (T.take (k + 1) ++ T.drop k) := by
              apply StrRow.of_owns (base := wc.heap.size) (t := 9)
              have e := Hown2.out
              have e1 : (T.take (k + 1) ++ T.drop k).length = 0 + (k + 1) + (N - k) := by rw [List.length_append, List.length_take, List.length_drop, HTN.out, Nat.min_eq_left (Nat.succ_le_of_lt hkN), Nat.zero_add]
              have e2 : strCells (T.take (k + 1) ++ T.drop k) = [] ++ (strCells T).take (k + 1) ++ (strCells T).drop k := by unfold strCells; simp
              rw [e1, e2]
              exact e
            have hrl : (T.take (k + 1) ++ T.drop k).length = N + 1 := twice_len T k N HTN.out hkN
            have hrw2 := hrw
            obtain ⟨q9, c9, hv9, _⟩ := hrw2
            rw [hrl] at hv9
            subst hv9
            go_wp2_with fail
            go_meet
            exact ⟨inferInstance, inferInstance, ((upI : Up wc x2.w).block gA (lt_of_heapB HHA.out)).trans HHA.out, _, _, rfl, hrw⟩
          exact AllReady.nil
        exact AllReady.nil
      exact AllReady.nil
    case rest =>
      obtain ⟨hu9, hgl9, hA9, q9, c9, rfl, hr9⟩ := hcut
      haveI := hu9
      haveI := hgl9
      have Hr9 := Lib.hid hr9
      have HA9 := Lib.hid hA9
      have hTl : ∀ z ∈ T.take (k + 1) ++ T.drop k, z.length ≤ 1000000000 := fun z hz => by
        rcases List.mem_append.1 hz with h | h
        · exact HTL.out z (by rw [HT0.out]; exact List.mem_of_mem_take h)
        · exact HTL.out z (by rw [HT0.out]; exact List.mem_of_mem_drop h)
      have hTn : (T.take (k + 1) ++ T.drop k).length ≤ 1000000 := by rw [twice_len T k N HTN.out hkN]; exact Nat.le_trans (Nat.succ_le_succ hN30) (by decide)
      have hrt := reads_twice a HAB.out HAO.out k (by rw [HN.out]; exact hkN)
      have HTl := Lib.hid hTl; have HTn := Lib.hid hTn; have HRT := Lib.hid hrt
      have hRt : ∀ W, UpI wc W → Calls Tryz.prog 25 #[.slice q9 (N + 1) c9] W fun e w' => e = .returned (.tuple #[.slice none 0 0, .int .i64 ((k : Int) + 1), .int .i64 382]) ∧ ∃ x : Ext W, w' = x.w := fun W h =>
        (dreads_any (T.take (k + 1) ++ T.drop k) _ W (g.up (hu9.up.trans h.up)) (Hr9.out.up h.up) HTl.out HTn.out).mono fun e w' ⟨h1, h2⟩ => by
          rw [← HT0.out, HRT.out] at h1
          exact ⟨h1, h2⟩
      clear hr9 hA9 hTl hTn hrt
      go_upto_region 24 with (go_at_call 25; (with_reducible refine (hRt _ inferInstance).mono ?_); rintro e w' ⟨rfl, zr, rfl⟩)
      clear hRt
      clear Hr9 HTl HTn HRT Hs0 Hs1 Hs2 Hs3 Hs4 HTN HT0 HTL HCS HRD
      obtain ⟨_, hk1A, _, _, hkcA, _, _, _, _⟩ := back_nums k N c hkN HC1.out hN30
      have hcA : ∀ (t : Nat) u, (a.flatMap Ln.cells)[t]? = some u → cur[t]? = some u := fun t u h => by
        rw [← HC4.out, List.getElem?_take] at h
        split at h
        · simpa using h
        · cases h
      have hsl1 : ((a.take (k + 1)).flatMap Ln.cells).length = (k + 1) * 11 := by rw [flat_length (cells := Ln.cells) (fun z => z.cells_length), List.length_take, HN.out, Nat.min_eq_left (Nat.succ_le_of_lt hkN)]
      have hsl2 : ((a.drop k).flatMap Ln.cells).length = (N - k) * 11 := by rw [flat_length (cells := Ln.cells) (fun z => z.cells_length), List.length_drop, HN.out]
      have hfl : a.flatMap Ln.cells = (a.take (k + 1)).flatMap Ln.cells ++ (a.drop (k + 1)).flatMap Ln.cells := by rw [← List.flatMap_append, List.take_append_drop]
      have hfk : a.flatMap Ln.cells = (a.take k).flatMap Ln.cells ++ (a.drop k).flatMap Ln.cells := by rw [← List.flatMap_append, List.take_append_drop]
      have hlk : ((a.take k).flatMap Ln.cells).length = k * 11 := by rw [flat_length (cells := Ln.cells) (fun z => z.cells_length), List.length_take, HN.out, Nat.min_eq_left (Nat.le_of_lt hkN)]
      have hsl3 : ∀ (W : World), W.heap[gA]? = some (.cells cur 44 (0, 0)) → ∀ (j : Nat) u, ((a.take (k + 1)).flatMap Ln.cells)[j]? = some u → W.cell? (Addr.add ⟨gA, 0, none⟩ j) = some u := fun W h j u hu => by
        rw [add_zero_off, cell_of_row W gA j _ _ _ h]
        refine hcA j u ?_
        rw [hfl, List.getElem?_append_left (List.getElem?_eq_some_iff.1 hu).1]; exact hu
      have hsl4 : ∀ (W : World), W.heap[gA]? = some (.cells cur 44 (0, 0)) → ∀ (j : Nat) u, ((a.drop k).flatMap Ln.cells)[j]? = some u → W.cell? (Addr.add ⟨gA, k * 11, none⟩ j) = some u := fun W h j u hu => by
        rw [add_off, cell_of_row W gA _ _ _ _ h]
        refine hcA _ u ?_
        rw [hfk, List.getElem?_append_right (by rw [hlk]; exact Nat.le_add_right _ _), hlk, Nat.add_sub_cancel_left]; exact hu
      have Hl1 := Lib.hid hsl1; have Hl2 := Lib.hid hsl2; have Hl3 := Lib.hid hsl3; have Hl4 := Lib.hid hsl4
      clear hcA hsl1 hsl2 hfl hfk hlk hsl3 hsl4
      obtain ⟨Y, hY⟩ : ∃ Y, zr.w = Y := ⟨_, rfl⟩
      refine wp_letter (fun Y => UpI w Y ∧ Y.heap[gA]? = some (.cells cur 44 (0, 0))) ⟨inferInstance, ((upI : Up wc zr.w).block gA (lt_of_heapB HA9.out)).trans HA9.out⟩ ?_
      clear HA9 hY Y
      rintro Y ⟨uY, hAY⟩
      haveI := uY
      have HAY := Lib.hid hAY
      haveI : LtSize gA Y := ⟨lt_of_heapB hAY⟩
      clear hAY
      have HBL := back_len k N hkN hN30
      rename_i qi0_ qi1_ qi2_ qi3_ qi4_ qi5_ qi6_ qi7_ qi8_ qi9_ qi10_ qi11_ qi12_ qi13_ qi14_ qi15_ qi16_ qi17_ qi18_ qi19_ qi20_ qi21_ qi22_ qi23_ qi24_ qi25_ qi26_ qi27_ qi28_ qi29_ qi30_ qi31_ qi32_ qi33_ qi34_ qi35_ qi36_ qi37_ qi38_ qi39_ qi40_ qi41_ qi42_ qi43_ qi44_ qi45_ qi46_ qi47_ qi48_ qi49_ qi50_ qi51_ qi52_ qi53_ qi54_ qi55_ qi56_ qi57_ qi58_ qi59_ qi60_ qi61_ qi62_ qi63_ qi64_ qi65_ qi66_ qi67_ qi68_ qi69_ qi70_ qi71_ qi72_ qi73_ qi74_ qi75_ qi76_ qi77_ qi78_ qi79_ qi80_ qi81_ qi82_ qi83_ qi84_ qi85_ qi86_ qi87_ qi88_ qi89_ qi90_ qi91_ qi92_ qi93_ qi94_ qi95_ qi96_ qi97_ qi98_ qi99_ qi100_ qi101_ qi102_ qi103_ qi104_ qi105_ qi106_ qi107_ qi108_ qi109_ qi110_ qi111_ qi112_ qi113_ qi114_ qi115_ qi116_ qi117_ qi118_ qi119_ qi120_ qi121_ qi122_ qi123_ qi124_ qi125_ qi126_ qi127_ qi128_ qi129_ qi130_ qi131_ qi132_ qi133_ qi134_ qi135_ qi136_ qi137_ qi138_ qi139_ qi140_ qi141_ qi142_ qi143_ qi144_ qi145_ qi146_ qi147_ qi148_ qi149_ qi150_ qi151_ qi152_ qi153_ qi154_ qi155_ qi156_ qi157_ qi158_ qi159_ qi160_ qi161_ qi162_ qi163_ qi164_ qi165_ qi166_ qi167_ qi168_ qi169_ qi170_ qi171_ qi172_ qi173_ qi174_ qi175_ qi176_ qi177_ qi178_ qi179_ qi180_ qi181_ qi182_ qi183_ qi184_ qi185_ qi186_ qi187_ qi188_ qi189_ qi190_ qi191_ qi192_ qi193_ qi194_ qi195_ qi196_ qi197_ qi198_ qi199_ qi200_ qi201_ qi202_ qi203_ qi204_ qi205_ qi206_ qi207_ qi208_ qi209_ qi210_ qi211_ qi212_ qi213_ qi214_ qi215_ qi216_ qi217_ qi218_ qi219_ qi220_ qi221_ qi222_ qi223_ qi224_ qi225_ qi226_ qi227_ qi228_ qi229_ qi230_ qi231_
      revert u224 u225 u226 u227 u228 u229 u230 u231 u232 u233 u234 u235 u236 u237 u238 u239 u240 u241 u242 u243 u244 u245 u246 u247 u248 u249 u250 u251 u252 u253 hu9 hgl9 q9 c9 qi218_ qi219_ zr qi220_ qi221_ qi222_ qi223_ qi224_ hk1A qi225_ qi226_ hkcA qi227_ qi228_ qi229_ qi230_ Hl1 Hl2 Hl3 Hl4 Y uY qi231_ HAY this HBL
      revert u164 u165 u166 u167 u168 u169 u170 u171 u172 u173 u174 u175 u176 u177 u178 u179 u180 u181 u182 u183 u184 u185 u186 u187 u188 u189 u190 u191 u192 u193 u194 u195 u196 u197 u198 u199 u200 u201 u202 u203 u204 u205 u206 u207 u208 u209 u210 u211 u212 u213 u214 u215 u216 u217 u218 u219 u220 u221 u222 u223
      revert u104 u105 u106 u107 u108 u109 u110 u111 u112 u113 u114 u115 u116 u117 u118 u119 u120 u121 u122 u123 u124 u125 u126 u127 u128 u129 u130 u131 u132 u133 u134 u135 u136 u137 u138 u139 u140 u141 u142 u143 u144 u145 u146 u147 u148 u149 u150 u151 u152 u153 u154 u155 u156 u157 u158 u159 u160 u161 u162 u163
      revert u44 u45 u46 u47 u48 u49 u50 u51 u52 u53 u54 u55 u56 u57 u58 u59 u60 u61 u62 u63 u64 u65 u66 u67 u68 u69 u70 u71 u72 u73 u74 u75 u76 u77 u78 u79 u80 u81 u82 u83 u84 u85 u86 u87 u88 u89 u90 u91 u92 u93 u94 u95 u96 u97 u98 u99 u100 u101 u102 u103
      revert qi214_ qi215_ qi216_ hcut huw i229_ i230_ i231_ h0 hN0 hNb k hkN i232_ gA cur hgA HOWN HROW hc1 hc2 hle2 b2 o2 HTX hb2 HHA HC1 HC4 HC3 i233_ hw1 hk1 hk2 hk3 hkc hnk k0 hkN' hk4 hmix i0s His Hy0s Hy1s Hy2s i0l Hil Hy0l Hy1l Hy2l T qi217_ wc u38 u39 u40 u41 u42 u43
      revert qi154_ qi155_ qi156_ qi157_ qi158_ qi159_ qi160_ qi161_ qi162_ qi163_ qi164_ qi165_ qi166_ qi167_ qi168_ qi169_ qi170_ qi171_ qi172_ qi173_ qi174_ qi175_ qi176_ qi177_ qi178_ qi179_ qi180_ qi181_ qi182_ qi183_ qi184_ qi185_ qi186_ qi187_ qi188_ qi189_ qi190_ qi191_ qi192_ qi193_ qi194_ qi195_ qi196_ qi197_ qi198_ qi199_ qi200_ qi201_ qi202_ qi203_ qi204_ qi205_ qi206_ qi207_ qi208_ qi209_ qi210_ qi211_ qi212_ qi213_
      revert qi94_ qi95_ qi96_ qi97_ qi98_ qi99_ qi100_ qi101_ qi102_ qi103_ qi104_ qi105_ qi106_ qi107_ qi108_ qi109_ qi110_ qi111_ qi112_ qi113_ qi114_ qi115_ qi116_ qi117_ qi118_ qi119_ qi120_ qi121_ qi122_ qi123_ qi124_ qi125_ qi126_ qi127_ qi128_ qi129_ qi130_ qi131_ qi132_ qi133_ qi134_ qi135_ qi136_ qi137_ qi138_ qi139_ qi140_ qi141_ qi142_ qi143_ qi144_ qi145_ qi146_ qi147_ qi148_ qi149_ qi150_ qi151_ qi152_ qi153_
      revert qi34_ qi35_ qi36_ qi37_ qi38_ qi39_ qi40_ qi41_ qi42_ qi43_ qi44_ qi45_ qi46_ qi47_ qi48_ qi49_ qi50_ qi51_ qi52_ qi53_ qi54_ qi55_ qi56_ qi57_ qi58_ qi59_ qi60_ qi61_ qi62_ qi63_ qi64_ qi65_ qi66_ qi67_ qi68_ qi69_ qi70_ qi71_ qi72_ qi73_ qi74_ qi75_ qi76_ qi77_ qi78_ qi79_ qi80_ qi81_ qi82_ qi83_ qi84_ qi85_ qi86_ qi87_ qi88_ qi89_ qi90_ qi91_ qi92_ qi93_
      revert i221_ P1 P2 hux i222_ i223_ i224_ i225_ cxy tx ty i226_ z6 z7 D U uU i227_ i228_ HX HY qi0_ u10 u23 u24 u25 u26 qi1_ qi2_ qi3_ qi4_ qi5_ qi6_ qi7_ qi8_ qi9_ qi10_ qi11_ qi12_ qi13_ qi14_ qi15_ qi16_ qi17_ qi18_ qi19_ qi20_ qi21_ qi22_ qi23_ qi24_ qi25_ qi26_ qi27_ qi28_ qi29_ qi30_ qi31_ qi32_ qi33_
      revert i161_ i162_ i163_ i164_ i165_ i166_ i167_ i168_ i169_ i170_ i171_ i172_ i173_ i174_ i175_ i176_ i177_ i178_ i179_ i180_ i181_ i182_ i183_ i184_ i185_ i186_ i187_ i188_ i189_ i190_ i191_ i192_ i193_ i194_ i195_ i196_ i197_ i198_ i199_ i200_ i201_ i202_ i203_ i204_ i205_ i206_ i207_ i208_ i209_ i210_ i211_ i212_ i213_ i214_ i215_ i216_ i217_ i218_ i219_ i220_
      revert i101_ i102_ i103_ i104_ i105_ i106_ i107_ i108_ i109_ i110_ i111_ i112_ i113_ i114_ i115_ i116_ i117_ i118_ i119_ i120_ i121_ i122_ i123_ i124_ i125_ i126_ i127_ i128_ i129_ i130_ i131_ i132_ i133_ i134_ i135_ i136_ i137_ i138_ i139_ i140_ i141_ i142_ i143_ i144_ i145_ i146_ i147_ i148_ i149_ i150_ i151_ i152_ i153_ i154_ i155_ i156_ i157_ i158_ i159_ i160_
      revert i41_ i42_ i43_ i44_ i45_ i46_ i47_ i48_ i49_ i50_ i51_ i52_ i53_ i54_ i55_ i56_ i57_ i58_ i59_ i60_ i61_ i62_ i63_ i64_ i65_ i66_ i67_ i68_ i69_ i70_ i71_ i72_ i73_ i74_ i75_ i76_ i77_ i78_ i79_ i80_ i81_ i82_ i83_ i84_ i85_ i86_ i87_ i88_ i89_ i90_ i91_ i92_ i93_ i94_ i95_ i96_ i97_ i98_ i99_ i100_
      revert HN i0_ A B W uW i1_ hAW hBW xa c z1 c2 z2 q3 c3 z3 z4 z5 V uV i2_ i3_ i4_ i5_ i6_ i7_ i8_ i9_ i10_ i11_ i12_ i13_ i14_ i15_ i16_ i17_ i18_ i19_ i20_ i21_ i22_ i23_ i24_ i25_ i26_ i27_ i28_ i29_ i30_ i31_ i32_ i33_ i34_ i35_ i36_ i37_ i38_ i39_ i40_
      revert l s at0 v w g a0 a1 a pr s' d dp sd cl fl dl sn pr' s'' d' dp' sd' cl' fl' dl' sn' x y N hN30 HAB HAO
      exact hR.out
set_option maxHeartbeats 64000000 in
set_option maxRecDepth 100000 in
noncomputable def backPart2 : PSigma (fun R : Prop => KeptB R → backPart1.1) := by
  apply PSigma.mk
  case snd =>
    intro hR
    unfold backPart1
    intro l s at0 v w g a0 a1 a pr s' d dp sd cl fl dl sn pr' s'' d' dp' sd' cl' fl' dl' sn' x y N hN30 HAB HAO HN i0_ A B W uW i1_ hAW hBW xa c z1 c2 z2 q3 c3 z3 z4 z5 V uV i2_ i3_ i4_ i5_ i6_ i7_
    intro i8_ i9_ i10_ i11_ i12_ i13_ i14_ i15_ i16_ i17_ i18_ i19_ i20_ i21_ i22_ i23_ i24_ i25_ i26_ i27_ i28_ i29_ i30_ i31_ i32_ i33_ i34_ i35_ i36_ i37_ i38_ i39_ i40_ i41_ i42_ i43_ i44_ i45_ i46_ i47_ i48_ i49_ i50_ i51_ i52_ i53_ i54_ i55_ i56_ i57_ i58_ i59_ i60_ i61_ i62_ i63_ i64_ i65_ i66_ i67_
    intro i68_ i69_ i70_ i71_ i72_ i73_ i74_ i75_ i76_ i77_ i78_ i79_ i80_ i81_ i82_ i83_ i84_ i85_ i86_ i87_ i88_ i89_ i90_ i91_ i92_ i93_ i94_ i95_ i96_ i97_ i98_ i99_ i100_ i101_ i102_ i103_ i104_ i105_ i106_ i107_ i108_ i109_ i110_ i111_ i112_ i113_ i114_ i115_ i116_ i117_ i118_ i119_ i120_ i121_ i122_ i123_ i124_ i125_ i126_ i127_
    intro i128_ i129_ i130_ i131_ i132_ i133_ i134_ i135_ i136_ i137_ i138_ i139_ i140_ i141_ i142_ i143_ i144_ i145_ i146_ i147_ i148_ i149_ i150_ i151_ i152_ i153_ i154_ i155_ i156_ i157_ i158_ i159_ i160_ i161_ i162_ i163_ i164_ i165_ i166_ i167_ i168_ i169_ i170_ i171_ i172_ i173_ i174_ i175_ i176_ i177_ i178_ i179_ i180_ i181_ i182_ i183_ i184_ i185_ i186_ i187_
    intro i188_ i189_ i190_ i191_ i192_ i193_ i194_ i195_ i196_ i197_ i198_ i199_ i200_ i201_ i202_ i203_ i204_ i205_ i206_ i207_ i208_ i209_ i210_ i211_ i212_ i213_ i214_ i215_ i216_ i217_ i218_ i219_ i220_ i221_ P1 P2 hux i222_ i223_ i224_ i225_ cxy tx ty i226_ z6 z7 D U uU i227_ i228_ HX HY qi0_ u10 u23 u24 u25 u26
    intro qi1_ qi2_ qi3_ qi4_ qi5_ qi6_ qi7_ qi8_ qi9_ qi10_ qi11_ qi12_ qi13_ qi14_ qi15_ qi16_ qi17_ qi18_ qi19_ qi20_ qi21_ qi22_ qi23_ qi24_ qi25_ qi26_ qi27_ qi28_ qi29_ qi30_ qi31_ qi32_ qi33_ qi34_ qi35_ qi36_ qi37_ qi38_ qi39_ qi40_ qi41_ qi42_ qi43_ qi44_ qi45_ qi46_ qi47_ qi48_ qi49_ qi50_ qi51_ qi52_ qi53_ qi54_ qi55_ qi56_ qi57_ qi58_ qi59_ qi60_
    intro qi61_ qi62_ qi63_ qi64_ qi65_ qi66_ qi67_ qi68_ qi69_ qi70_ qi71_ qi72_ qi73_ qi74_ qi75_ qi76_ qi77_ qi78_ qi79_ qi80_ qi81_ qi82_ qi83_ qi84_ qi85_ qi86_ qi87_ qi88_ qi89_ qi90_ qi91_ qi92_ qi93_ qi94_ qi95_ qi96_ qi97_ qi98_ qi99_ qi100_ qi101_ qi102_ qi103_ qi104_ qi105_ qi106_ qi107_ qi108_ qi109_ qi110_ qi111_ qi112_ qi113_ qi114_ qi115_ qi116_ qi117_ qi118_ qi119_ qi120_
    intro qi121_ qi122_ qi123_ qi124_ qi125_ qi126_ qi127_ qi128_ qi129_ qi130_ qi131_ qi132_ qi133_ qi134_ qi135_ qi136_ qi137_ qi138_ qi139_ qi140_ qi141_ qi142_ qi143_ qi144_ qi145_ qi146_ qi147_ qi148_ qi149_ qi150_ qi151_ qi152_ qi153_ qi154_ qi155_ qi156_ qi157_ qi158_ qi159_ qi160_ qi161_ qi162_ qi163_ qi164_ qi165_ qi166_ qi167_ qi168_ qi169_ qi170_ qi171_ qi172_ qi173_ qi174_ qi175_ qi176_ qi177_ qi178_ qi179_ qi180_
    intro qi181_ qi182_ qi183_ qi184_ qi185_ qi186_ qi187_ qi188_ qi189_ qi190_ qi191_ qi192_ qi193_ qi194_ qi195_ qi196_ qi197_ qi198_ qi199_ qi200_ qi201_ qi202_ qi203_ qi204_ qi205_ qi206_ qi207_ qi208_ qi209_ qi210_ qi211_ qi212_ qi213_ qi214_ qi215_ qi216_ hcut huw i229_ i230_ i231_ h0 hN0 hNb k hkN i232_ gA cur hgA HOWN HROW hc1 hc2 hle2 b2 o2 HTX hb2 HHA
    intro HC1 HC4 HC3 i233_ hw1 hk1 hk2 hk3 hkc hnk k0 hkN' hk4 hmix i0s His Hy0s Hy1s Hy2s i0l Hil Hy0l Hy1l Hy2l T qi217_ wc u38 u39 u40 u41 u42 u43 u44 u45 u46 u47 u48 u49 u50 u51 u52 u53 u54 u55 u56 u57 u58 u59 u60 u61 u62 u63 u64 u65 u66 u67 u68 u69 u70
    intro u71 u72 u73 u74 u75 u76 u77 u78 u79 u80 u81 u82 u83 u84 u85 u86 u87 u88 u89 u90 u91 u92 u93 u94 u95 u96 u97 u98 u99 u100 u101 u102 u103 u104 u105 u106 u107 u108 u109 u110 u111 u112 u113 u114 u115 u116 u117 u118 u119 u120 u121 u122 u123 u124 u125 u126 u127 u128 u129 u130
    intro u131 u132 u133 u134 u135 u136 u137 u138 u139 u140 u141 u142 u143 u144 u145 u146 u147 u148 u149 u150 u151 u152 u153 u154 u155 u156 u157 u158 u159 u160 u161 u162 u163 u164 u165 u166 u167 u168 u169 u170 u171 u172 u173 u174 u175 u176 u177 u178 u179 u180 u181 u182 u183 u184 u185 u186 u187 u188 u189 u190
    intro u191 u192 u193 u194 u195 u196 u197 u198 u199 u200 u201 u202 u203 u204 u205 u206 u207 u208 u209 u210 u211 u212 u213 u214 u215 u216 u217 u218 u219 u220 u221 u222 u223 u224 u225 u226 u227 u228 u229 u230 u231 u232 u233 u234 u235 u236 u237 u238 u239 u240 u241 u242 u243 u244 u245 u246 u247 u248 u249 u250
    intro u251 u252 u253 hu9 hgl9 q9 c9 qi218_ qi219_ zr qi220_ qi221_ qi222_ qi223_ qi224_ hk1A qi225_ qi226_ hkcA qi227_ qi228_ qi229_ qi230_ Hl1 Hl2 Hl3 Hl4 Y uY qi231_ HAY this HBL
    go_cut [197] (fun v wx => v = .bool false ∧ UpI w wx ∧ wx.heap[gA]? = some (.cells cur 44 (0, 0)))
    case first =>
      refine wp_region_turn hmix ?_
      refine any_take (i := 0) (v := ?v413) rfl (by kernel_rfl) (by kernel_rfl) (by kernel_rfl) (Or.inl ⟨by kernel_rfl, ?hy413⟩) ?rest413
      case hy413 => (intro w; go_simp; (try with_reducible rfl))
      (try simp only [Act.put, List.getElem_toArray, List.getElem_cons_succ, List.getElem_cons_zero, List.setIfInBounds_toArray, List.set_cons_succ, List.set_cons_zero])
      refine any_take (i := 1) (v := ?v414) rfl (by kernel_rfl) (by kernel_rfl) (by kernel_rfl) (Or.inl ⟨by kernel_rfl, ?hy414⟩) ?rest414
      case hy414 => (intro w; go_simp; (try with_reducible rfl))
      (try simp only [Act.put, List.getElem_toArray, List.getElem_cons_succ, List.getElem_cons_zero, List.setIfInBounds_toArray, List.set_cons_succ, List.set_cons_zero])
      refine any_take (i := 2) (v := ?v415) rfl (by kernel_rfl) (by kernel_rfl) (by kernel_rfl) (Or.inl ⟨by kernel_rfl, ?hy415⟩) ?rest415
      case hy415 => (intro w; go_simp; (try with_reducible rfl))
      (try simp only [Act.put, List.getElem_toArray, List.getElem_cons_succ, List.getElem_cons_zero, List.setIfInBounds_toArray, List.set_cons_succ, List.set_cons_zero])
      refine any_take (i := 3) (v := ?v416) rfl (by kernel_rfl) (by kernel_rfl) (by kernel_rfl) (Or.inl ⟨by kernel_rfl, ?hy416⟩) ?rest416
      case hy416 => (intro w; go_simp; (try with_reducible rfl))
      (try simp only [Act.put, List.getElem_toArray, List.getElem_cons_succ, List.getElem_cons_zero, List.setIfInBounds_toArray, List.set_cons_succ, List.set_cons_zero])
      refine any_take (i := 4) (v := ?v417) rfl (by kernel_rfl) (by kernel_rfl) (by kernel_rfl) (Or.inl ⟨by kernel_rfl, ?hy417⟩) ?rest417
      case hy417 => (intro w; go_simp; (try with_reducible rfl))
      (try simp only [Act.put, List.getElem_toArray, List.getElem_cons_succ, List.getElem_cons_zero, List.setIfInBounds_toArray, List.set_cons_succ, List.set_cons_zero])
      refine any_take (i := 5) (v := ?v418) rfl (by kernel_rfl) (by kernel_rfl) (by kernel_rfl) (Or.inl ⟨by kernel_rfl, ?hy418⟩) ?rest418
      case hy418 => (intro w; go_simp; (try with_reducible rfl))
      (try simp only [Act.put, List.getElem_toArray, List.getElem_cons_succ, List.getElem_cons_zero, List.setIfInBounds_toArray, List.set_cons_succ, List.set_cons_zero])
      refine any_take (i := 6) (v := ?v419) rfl (by kernel_rfl) (by kernel_rfl) (by kernel_rfl) (Or.inl ⟨by kernel_rfl, ?hy419⟩) ?rest419
      case hy419 => (intro w; go_simp; (try with_reducible rfl))
      (try simp only [Act.put, List.getElem_toArray, List.getElem_cons_succ, List.getElem_cons_zero, List.setIfInBounds_toArray, List.set_cons_succ, List.set_cons_zero])
      refine any_take (i := 7) (v := ?v420) rfl (by kernel_rfl) (by kernel_rfl) (by kernel_rfl) (Or.inl ⟨by kernel_rfl, ?hy420⟩) ?rest420
      case hy420 => (intro w; go_simp; (try with_reducible rfl))
      (try simp only [Act.put, List.getElem_toArray, List.getElem_cons_succ, List.getElem_cons_zero, List.setIfInBounds_toArray, List.set_cons_succ, List.set_cons_zero])
      refine any_take (i := 8) (v := .bool false) rfl (by kernel_rfl) (by kernel_rfl) (by kernel_rfl) (Or.inl ⟨by kernel_rfl, (fun w => by kernel_rfl)⟩) ?_; (try simp only [Act.put, List.getElem_toArray, List.getElem_cons_succ, List.getElem_cons_zero, List.setIfInBounds_toArray, List.set_cons_succ, List.set_cons_zero])
      refine any_take (i := 9) (v := .bool false) rfl (by kernel_rfl) (by kernel_rfl) (by kernel_rfl) (Or.inl ⟨by kernel_rfl, (fun w => by kernel_rfl)⟩) ?_; (try simp only [Act.put, List.getElem_toArray, List.getElem_cons_succ, List.getElem_cons_zero, List.setIfInBounds_toArray, List.set_cons_succ, List.set_cons_zero])
      refine any_take (i := 10) (v := .int .i64 382) rfl (by kernel_rfl) (by kernel_rfl) (by kernel_rfl) (Or.inl ⟨by kernel_rfl, (fun w => by kernel_rfl)⟩) ?_; (try simp only [Act.put, List.getElem_toArray, List.getElem_cons_succ, List.getElem_cons_zero, List.setIfInBounds_toArray, List.set_cons_succ, List.set_cons_zero])
      refine any_take (i := 11) (v := .bool false) rfl (by kernel_rfl) (by kernel_rfl) (by kernel_rfl) (Or.inl ⟨by kernel_rfl, (fun w => by kernel_rfl)⟩) ?_; (try simp only [Act.put, List.getElem_toArray, List.getElem_cons_succ, List.getElem_cons_zero, List.setIfInBounds_toArray, List.set_cons_succ, List.set_cons_zero])
      refine any_take (i := 12) (v := .bool false) rfl (by kernel_rfl) (by kernel_rfl) (by kernel_rfl) (Or.inl ⟨by kernel_rfl, (fun w => by kernel_rfl)⟩) ?_; (try simp only [Act.put, List.getElem_toArray, List.getElem_cons_succ, List.getElem_cons_zero, List.setIfInBounds_toArray, List.set_cons_succ, List.set_cons_zero])
      refine any_take (i := 13) (v := .bool false) rfl (by kernel_rfl) (by kernel_rfl) (by kernel_rfl) (Or.inl ⟨by kernel_rfl, (fun w => by kernel_rfl)⟩) ?_; (try simp only [Act.put, List.getElem_toArray, List.getElem_cons_succ, List.getElem_cons_zero, List.setIfInBounds_toArray, List.set_cons_succ, List.set_cons_zero])
      refine any_take (i := 15) (v := ?v421) rfl (by kernel_rfl) (by kernel_rfl) (by kernel_rfl) (Or.inl ⟨by kernel_rfl, ?hy421⟩) ?rest421
      case hy421 => (intro w; go_simp; (try with_reducible rfl))
      (try simp only [Act.put, List.getElem_toArray, List.getElem_cons_succ, List.getElem_cons_zero, List.setIfInBounds_toArray, List.set_cons_succ, List.set_cons_zero])
      refine any_take (i := 16) (v := ?v422) rfl (by kernel_rfl) (by kernel_rfl) (by kernel_rfl) (Or.inl ⟨by kernel_rfl, ?hy422⟩) ?rest422
      case hy422 => (intro w; go_simp; (try with_reducible rfl))
      (try simp only [Act.put, List.getElem_toArray, List.getElem_cons_succ, List.getElem_cons_zero, List.setIfInBounds_toArray, List.set_cons_succ, List.set_cons_zero])
      refine any_take (i := 17) (v := ?v423) rfl (by kernel_rfl) (by kernel_rfl) (by kernel_rfl) (Or.inl ⟨by kernel_rfl, ?hy423⟩) ?rest423
      case hy423 => (intro w; go_simp; (try with_reducible rfl))
      (try simp only [Act.put, List.getElem_toArray, List.getElem_cons_succ, List.getElem_cons_zero, List.setIfInBounds_toArray, List.set_cons_succ, List.set_cons_zero])
      refine any_take (i := 18) (v := ?v424) rfl (by kernel_rfl) (by kernel_rfl) (by kernel_rfl) (Or.inl ⟨by kernel_rfl, ?hy424⟩) ?rest424
      case hy424 => (intro w; go_simp; (try with_reducible rfl))
      (try simp only [Act.put, List.getElem_toArray, List.getElem_cons_succ, List.getElem_cons_zero, List.setIfInBounds_toArray, List.set_cons_succ, List.set_cons_zero])
      refine any_take (i := 20) (v := ?v425) rfl (by kernel_rfl) (by kernel_rfl) (by kernel_rfl) (Or.inl ⟨by kernel_rfl, ?hy425⟩) ?rest425
      case hy425 => (intro w; go_simp; (try with_reducible rfl))
      (try simp only [Act.put, List.getElem_toArray, List.getElem_cons_succ, List.getElem_cons_zero, List.setIfInBounds_toArray, List.set_cons_succ, List.set_cons_zero])
      refine any_take (i := 21) (v := ?v426) rfl (by kernel_rfl) (by kernel_rfl) (by kernel_rfl) (Or.inl ⟨by kernel_rfl, ?hy426⟩) ?rest426
      case hy426 => (intro w; go_simp; (try with_reducible rfl))
      (try simp only [Act.put, List.getElem_toArray, List.getElem_cons_succ, List.getElem_cons_zero, List.setIfInBounds_toArray, List.set_cons_succ, List.set_cons_zero])
      refine any_take (i := 22) (v := ?v427) rfl (by kernel_rfl) (by kernel_rfl) (by kernel_rfl) (Or.inl ⟨by kernel_rfl, ?hy427⟩) ?rest427
      case hy427 => (intro w; go_simp; (try with_reducible rfl))
      (try simp only [Act.put, List.getElem_toArray, List.getElem_cons_succ, List.getElem_cons_zero, List.setIfInBounds_toArray, List.set_cons_succ, List.set_cons_zero])
      refine wpAny_ready (rs := [14]) (by kernel_rfl) (by simp) ?_
      ((with_reducible refine held ?_); refine HR_cons rfl (fun K hK => ?_) ?_)
      · go_simp
        refine hK _ _ ?_; clear hK K; (try simp only [Act.put, List.getElem_toArray, List.getElem_cons_succ, List.getElem_cons_zero, List.setIfInBounds_toArray, List.set_cons_succ, List.set_cons_zero])
        refine wpAny_ready (rs := [19]) (by kernel_rfl) (by simp) ?_
        ((with_reducible refine held ?_); refine HR_cons rfl (fun K hK => ?_) ?_)
        · skip
          (with_reducible refine held ?_); refine HS_append_own (by kernel_rfl) _ _ 22 rfl Y.heap.size 44 i0l Ln.zero.val 11 40 Tryz.underlying22 Hil.out Hy0l.out Hy1l.out Hy2l.out rfl (by decide) (.slice (some ⟨Y.heap.size, 0, none⟩) 0 0) 0 [] (by first | rfl | kernel_rfl) (fresh_own Y _ (by simp) (by simp)) ⟨gA, 0, none⟩ (k + 1) c ((a.take (k + 1)).flatMap Ln.cells) (by first | rfl | kernel_rfl) Hl1.out (Hl3.out _ (((upI : Up Y _).block gA (LtSize.lt (b := gA))).trans HAY.out)) (fun u h => flat_one _ u h) HBL.p1 HBL.p5 (upI : Up Y _).size ?_
          intro v1 w1 hown1 hgrow
          have hu1 : Up Y w1 := Up.grown (upI : Up Y _) hgrow (fun k' h => by have h' := Option.some.inj h; subst h'; first | exact Nat.le_refl _ | simp)
          obtain ⟨x1, rfl⟩ := hu1.mk
          have Hown1 := Lib.hid hown1
          clear hown1 hgrow hu1
          refine hK _ _ ?_; clear hK K; (try simp only [Act.put, List.getElem_toArray, List.getElem_cons_succ, List.getElem_cons_zero, List.setIfInBounds_toArray, List.set_cons_succ, List.set_cons_zero])
          refine wpAny_ready (rs := [23]) (by kernel_rfl) (by simp) ?_
          ((with_reducible refine held ?_); refine HR_cons rfl (fun K hK => ?_) ?_)
          · skip
            (with_reducible refine held ?_); refine HS_append_own (by kernel_rfl) _ _ 22 rfl Y.heap.size 44 i0l Ln.zero.val 11 40 Tryz.underlying22 Hil.out Hy0l.out Hy1l.out Hy2l.out rfl (by decide) v1 _ _ rfl Hown1.out ⟨gA, k * 11, none⟩ (N - k) (c - k) ((a.drop k).flatMap Ln.cells) (by first | rfl | kernel_rfl) Hl2.out (Hl4.out _ (((upI : Up Y _).block gA (LtSize.lt (b := gA))).trans HAY.out)) (fun u h => flat_one _ u h) HBL.p3 HBL.p6 (upI : Up Y _).size ?_
            intro v2 w2 hown2 hgrow
            have hu2 : Up Y w2 := Up.grown (upI : Up Y _) hgrow (fun k' h => owns_row Hown1.out k' h)
            obtain ⟨x2, rfl⟩ := hu2.mk
            have hrw : LnRow x2.w v2 (a.take (k + 1) ++ a.drop k) := by
              apply RowOf.of_owns (cells := Ln.cells) Ln.cells_length (base := Y.heap.size) (t := 44)
              rw [twice_len a k N HN.out hkN, List.flatMap_append, ← (back_sum k N hkN).2]
              exact hown2
            have Hrw := Lib.hid hrw
            clear hown2 hgrow hu2 hrw
            refine hK _ _ ?_; clear hK K; (try simp only [Act.put, List.getElem_toArray, List.getElem_cons_succ, List.getElem_cons_zero, List.setIfInBounds_toArray, List.set_cons_succ, List.set_cons_zero])
            refine wpAny_ready (rs := [24]) (by kernel_rfl) (by simp) ?_
            ((with_reducible refine held ?_); refine HR_cons rfl (fun K hK => ?_) ?_)
            · skip
              (with_reducible refine held ?_); refine HS_call (by kernel_rfl) 26 _ _ rfl #[v2] (by kernel_rfl) (fun w => by kernel_rfl) (.bool false) ((dordered_any (a.take (k + 1) ++ a.drop k) v2 x2.w Hrw.out (fun z hz => (List.mem_append.1 hz).elim (fun h => HAB.out z (List.mem_of_mem_take h)) (fun h => HAB.out z (List.mem_of_mem_drop h))) (by rw [twice_len a k N HN.out hkN]; exact Nat.le_trans (Nat.succ_le_succ hN30) (by decide))).cast (by rw [ordered_twice a k (by rw [HN.out]; exact hkN)])) (fun zo => ?_)
              refine hK _ _ ?_; clear hK K; (try simp only [Act.put, List.getElem_toArray, List.getElem_cons_succ, List.getElem_cons_zero, List.setIfInBounds_toArray, List.set_cons_succ, List.set_cons_zero])
              refine any_take (i := 25) (v := ?v428) rfl (by kernel_rfl) (by kernel_rfl) (by kernel_rfl) (Or.inl ⟨by kernel_rfl, ?hy428⟩) ?rest428
              case hy428 => (intro w; go_simp; (try with_reducible rfl))
              (try simp only [Act.put, List.getElem_toArray, List.getElem_cons_succ, List.getElem_cons_zero, List.setIfInBounds_toArray, List.set_cons_succ, List.set_cons_zero])
              refine wpAny_done (by kernel_rfl) ?_ _
              refine ⟨rfl, ?_⟩
              go_wp2_with fail
              go_meet
              exact ⟨rfl, inferInstance, ((upI : Up Y zo.w).block gA (LtSize.lt (b := gA))).trans HAY.out⟩
            exact AllReady.nil
          exact AllReady.nil
        exact AllReady.nil
      exact AllReady.nil
    case rest =>
      obtain ⟨rfl, hu10, hA10⟩ := hcut
      haveI := hu10
      rcases Nat.eq_zero_or_pos k with hk0 | hk0
      · have hkz : ¬ (0 : Int) < (k : Int) := by rw [hk0]; decide
        go_wp2_with fail
        go_ret
        exact ⟨rfl, mkI⟩
      · have hkp : (0 : Int) < (k : Int) := Int.ofNat_lt.2 hk0
        have HA10 := Lib.hid hA10
        clear hA10
        have hHo := Holds.of_take HC4.out
        have hsz : N * 11 ≤ cur.size := cur_len HC4.out HN.out
        obtain ⟨X0, hx0⟩ : ∃ X0, a[0]? = some X0 := ⟨_, List.getElem?_eq_getElem (by rw [HN.out]; exact h0)⟩
        obtain ⟨XK, hxk⟩ : ∃ XK, a[k]? = some XK := ⟨_, List.getElem?_eq_getElem (by rw [HN.out]; exact hkN)⟩
        have hrK : ∀ W : World, W.heap[gA]? = some (.cells cur 44 (0, 0)) → W.rangeAt gA (k * 11) XK.cells := fun W h => hHo.range h hxk
        have hr0 : ∀ W : World, W.heap[gA]? = some (.cells cur 44 (0, 0)) → W.rangeAt gA 0 X0.cells := fun W h => by have := hHo.range h hx0; rwa [Nat.zero_mul] at this
        have hf0 : 0 + XK.cells.toArray.size ≤ cur.size := by
          have e : XK.cells.toArray.size = 11 := by rw [List.size_toArray, XK.cells_length]
          rw [e]; exact swap_fit0 h0 hsz
        have hf0' : 0 + XK.cells.length ≤ cur.size := by rw [XK.cells_length]; exact swap_fit0 h0 hsz
        have hfK : k * 11 + X0.cells.toArray.size ≤ (insA cur 0 XK.cells.toArray.toList).size := by
          have e : X0.cells.toArray.size = 11 := by rw [List.size_toArray, X0.cells_length]
          rw [e, insA_size _ _ _ hf0']; exact swap_fitK hkN hsz
        have h1 := hHo.set 0 XK (by rw [Nat.zero_mul]; exact swap_fit0 h0 hsz)
        rw [Nat.zero_mul] at h1
        have h2 := h1.set k X0 (by rw [insA_size _ _ _ hf0']; exact swap_fitK hkN hsz)
        have hbo := ordered_swap a HAO.out k hk0 X0 XK hx0 hxk
        have hbl : ((a.set 0 XK).set k X0).length = N := by rw [List.length_set, List.length_set, HN.out]
        have hbb : ∀ z ∈ (a.set 0 XK).set k X0, LnB z := fun z hz => by
          rcases List.mem_or_eq_of_mem_set hz with h | rfl
          · rcases List.mem_or_eq_of_mem_set h with h | rfl
            · exact HAB.out z h
            · exact HAB.out _ (List.mem_of_getElem? hxk)
          · exact HAB.out _ (List.mem_of_getElem? hx0)
        obtain ⟨bL, hbL⟩ : ∃ bL, (a.set 0 XK).set k X0 = bL := ⟨_, rfl⟩
        rw [hbL] at h2 hbo hbl hbb
        have H2 := Lib.hid h2; have HBO := Lib.hid hbo; have HBL2 := Lib.hid hbl; have HBB := Lib.hid hbb; have HrK := Lib.hid hrK; have Hr0 := Lib.hid hr0; have HfK := Lib.hid hfK; have Hf0 := Lib.hid hf0
        clear hHo hsz hx0 hxk hrK hr0 hf0 hf0' hfK h1 h2 hbo hbl hbb hbL
        haveI : LtSize gA wc := ⟨lt_of_heapB HA10.out⟩
        go_upto_region 27 with fail
        rename_i zi0_ zi1_ zi2_ zi3_ zi4_ zi5_ zi6_ zi7_ zi8_ zi9_ zi10_ zi11_ zi12_ zi13_ zi14_ zi15_ zi16_ zi17_ zi18_ zi19_ zi20_ zi21_ zi22_ zi23_ zi24_ zi25_ zi26_ zi27_ zi28_ zi29_ zi30_ zi31_ zi32_ zi33_ zi34_ zi35_ zi36_ zi37_ zi38_ zi39_ zi40_ zi41_ zi42_ zi43_ zi44_ zi45_ zi46_ zi47_ zi48_ zi49_ zi50_ zi51_ zi52_ zi53_ zi54_ zi55_ zi56_ zi57_ zi58_ zi59_ zi60_ zi61_ zi62_ zi63_ zi64_ zi65_ zi66_ zi67_ zi68_ zi69_ zi70_ zi71_ zi72_ zi73_ zi74_ zi75_ zi76_ zi77_ zi78_ zi79_ zi80_ zi81_ zi82_ zi83_ zi84_ zi85_ zi86_ zi87_ zi88_ zi89_ zi90_ zi91_ zi92_ zi93_ zi94_ zi95_ zi96_ zi97_ zi98_ zi99_ zi100_ zi101_ zi102_ zi103_ zi104_ zi105_ zi106_ zi107_ zi108_ zi109_ zi110_ zi111_ zi112_ zi113_ zi114_ zi115_ zi116_ zi117_ zi118_ zi119_ zi120_ zi121_ zi122_ zi123_ zi124_ zi125_ zi126_ zi127_ zi128_ zi129_ zi130_ zi131_ zi132_ zi133_ zi134_ zi135_ zi136_ zi137_ zi138_ zi139_ zi140_ zi141_ zi142_ zi143_ zi144_ zi145_ zi146_ zi147_ zi148_ zi149_ zi150_ zi151_ zi152_ zi153_ zi154_ zi155_ zi156_ zi157_ zi158_ zi159_ zi160_ zi161_ zi162_ zi163_ zi164_ zi165_ zi166_ zi167_ zi168_ zi169_ zi170_ zi171_ zi172_ zi173_ zi174_ zi175_ zi176_ zi177_ zi178_ zi179_ zi180_ zi181_ zi182_ zi183_ zi184_ zi185_ zi186_ zi187_ zi188_ zi189_ zi190_ zi191_ zi192_ zi193_ zi194_ zi195_ zi196_ zi197_ zi198_ zi199_ zi200_ zi201_ zi202_ zi203_ zi204_ zi205_ zi206_ zi207_ zi208_ zi209_ zi210_ zi211_ zi212_ zi213_ zi214_ zi215_ zi216_ zi217_ zi218_ zi219_ zi220_ zi221_
        revert u215 u216 u217 u218 u219 u220 u221 u222 u223 u224 u225 u226 u227 u228 u229 u230 u231 u232 u233 u234 u235 u236 u237 u238 u239 u240 u241 u242 u243 u244 u245 u246 u247 u248 u249 u250 u251 u252 u253 hu10 zi217_ hk0 hkp HA10 X0 XK bL H2 HBO HBL2 HBB HrK Hr0 HfK Hf0 this zi218_ zi219_ zi220_ zi221_
        revert u154 u155 u156 u157 u158 u159 u160 u161 u162 u163 u164 u165 u166 u167 u168 u169 u170 u171 u172 u173 u174 u175 u176 u177 u178 u179 u180 u181 u182 u183 u184 u185 u186 u187 u188 u189 u190 u191 u192 u193 u194 u195 u196 u198 u199 u200 u201 u202 u203 u204 u205 u206 u207 u208 u209 u210 u211 u212 u213 u214
        revert u94 u95 u96 u97 u98 u99 u100 u101 u102 u103 u104 u105 u106 u107 u108 u109 u110 u111 u112 u113 u114 u115 u116 u117 u118 u119 u120 u121 u122 u123 u124 u125 u126 u127 u128 u129 u130 u131 u132 u133 u134 u135 u136 u137 u138 u139 u140 u141 u142 u143 u144 u145 u146 u147 u148 u149 u150 u151 u152 u153
        revert HAY zi216_ HBL wc u38 u39 u40 u41 u42 u43 u44 u45 u46 u47 u48 u49 u50 u51 u52 u53 u54 u55 u56 u57 u58 u59 u60 u61 u62 u63 u64 u65 u66 u67 u68 u69 u70 u71 u72 u73 u74 u75 u76 u77 u78 u79 u80 u81 u82 u83 u84 u85 u86 u87 u88 u89 u90 u91 u92 u93
        revert zi179_ zi180_ zi181_ zi182_ zi183_ zi184_ zi185_ zi186_ zi187_ zi188_ zi189_ zi190_ zi191_ zi192_ zi193_ zi194_ zi195_ zi196_ zi197_ zi198_ zi199_ zi200_ zi201_ zi202_ zi203_ zi204_ zi205_ zi206_ zi207_ zi208_ zi209_ zi210_ zi211_ zi212_ zi213_ zi214_ zi215_ hu9 hgl9 q9 c9 qi218_ qi219_ zr qi224_ hk1A qi225_ qi226_ hkcA qi227_ qi228_ qi229_ qi230_ Hl1 Hl2 Hl3 Hl4 Y uY qi231_
        revert zi120_ zi121_ zi122_ zi123_ zi124_ zi125_ zi126_ zi127_ zi128_ zi129_ zi130_ zi131_ zi132_ zi133_ zi134_ zi135_ zi136_ zi137_ zi138_ zi139_ zi140_ zi141_ zi142_ zi143_ zi144_ zi145_ zi146_ zi147_ zi148_ zi149_ zi150_ zi151_ zi152_ zi153_ zi154_ zi155_ zi156_ zi157_ zi158_ zi159_ u197 zi160_ zi161_ zi162_ zi163_ zi164_ zi165_ zi166_ zi167_ zi168_ zi169_ zi170_ zi171_ zi172_ zi173_ zi174_ zi175_ zi176_ zi177_ zi178_
        revert zi60_ zi61_ zi62_ zi63_ zi64_ zi65_ zi66_ zi67_ zi68_ zi69_ zi70_ zi71_ zi72_ zi73_ zi74_ zi75_ zi76_ zi77_ zi78_ zi79_ zi80_ zi81_ zi82_ zi83_ zi84_ zi85_ zi86_ zi87_ zi88_ zi89_ zi90_ zi91_ zi92_ zi93_ zi94_ zi95_ zi96_ zi97_ zi98_ zi99_ zi100_ zi101_ zi102_ zi103_ zi104_ zi105_ zi106_ zi107_ zi108_ zi109_ zi110_ zi111_ zi112_ zi113_ zi114_ zi115_ zi116_ zi117_ zi118_ zi119_
        revert zi0_ zi1_ zi2_ zi3_ zi4_ zi5_ zi6_ zi7_ zi8_ zi9_ zi10_ zi11_ zi12_ zi13_ zi14_ zi15_ zi16_ zi17_ zi18_ zi19_ zi20_ zi21_ zi22_ zi23_ zi24_ zi25_ zi26_ zi27_ zi28_ zi29_ zi30_ zi31_ zi32_ zi33_ zi34_ zi35_ zi36_ zi37_ zi38_ zi39_ zi40_ zi41_ zi42_ zi43_ zi44_ zi45_ zi46_ zi47_ zi48_ zi49_ zi50_ zi51_ zi52_ zi53_ zi54_ zi55_ zi56_ zi57_ zi58_ zi59_
        revert qi207_ qi208_ qi209_ qi210_ qi211_ qi212_ qi213_ qi214_ qi215_ qi216_ hcut huw i229_ i230_ i231_ h0 hN0 hNb k hkN i232_ gA cur hgA HOWN HROW hc1 hc2 hle2 b2 o2 HTX hb2 HHA HC1 HC4 HC3 i233_ hw1 hk1 hk2 hk3 hkc hnk k0 hkN' hk4 hmix i0s His Hy0s Hy1s Hy2s i0l Hil Hy0l Hy1l Hy2l T qi217_
        revert qi147_ qi148_ qi149_ qi150_ qi151_ qi152_ qi153_ qi154_ qi155_ qi156_ qi157_ qi158_ qi159_ qi160_ qi161_ qi162_ qi163_ qi164_ qi165_ qi166_ qi167_ qi168_ qi169_ qi170_ qi171_ qi172_ qi173_ qi174_ qi175_ qi176_ qi177_ qi178_ qi179_ qi180_ qi181_ qi182_ qi183_ qi184_ qi185_ qi186_ qi187_ qi188_ qi189_ qi190_ qi191_ qi192_ qi193_ qi194_ qi195_ qi196_ qi197_ qi198_ qi199_ qi200_ qi201_ qi202_ qi203_ qi204_ qi205_ qi206_
        revert qi87_ qi88_ qi89_ qi90_ qi91_ qi92_ qi93_ qi94_ qi95_ qi96_ qi97_ qi98_ qi99_ qi100_ qi101_ qi102_ qi103_ qi104_ qi105_ qi106_ qi107_ qi108_ qi109_ qi110_ qi111_ qi112_ qi113_ qi114_ qi115_ qi116_ qi117_ qi118_ qi119_ qi120_ qi121_ qi122_ qi123_ qi124_ qi125_ qi126_ qi127_ qi128_ qi129_ qi130_ qi131_ qi132_ qi133_ qi134_ qi135_ qi136_ qi137_ qi138_ qi139_ qi140_ qi141_ qi142_ qi143_ qi144_ qi145_ qi146_
        revert qi27_ qi28_ qi29_ qi30_ qi31_ qi32_ qi33_ qi34_ qi35_ qi36_ qi37_ qi38_ qi39_ qi40_ qi41_ qi42_ qi43_ qi44_ qi45_ qi46_ qi47_ qi48_ qi49_ qi50_ qi51_ qi52_ qi53_ qi54_ qi55_ qi56_ qi57_ qi58_ qi59_ qi60_ qi61_ qi62_ qi63_ qi64_ qi65_ qi66_ qi67_ qi68_ qi69_ qi70_ qi71_ qi72_ qi73_ qi74_ qi75_ qi76_ qi77_ qi78_ qi79_ qi80_ qi81_ qi82_ qi83_ qi84_ qi85_ qi86_
        revert i214_ i215_ i216_ i217_ i218_ i219_ i220_ i221_ P1 P2 hux i222_ i223_ i224_ i225_ cxy tx ty i226_ z6 z7 D U uU i227_ i228_ HX HY qi0_ u10 u23 u24 u25 u26 qi1_ qi2_ qi3_ qi4_ qi5_ qi6_ qi7_ qi8_ qi9_ qi10_ qi11_ qi12_ qi13_ qi14_ qi15_ qi16_ qi17_ qi18_ qi19_ qi20_ qi21_ qi22_ qi23_ qi24_ qi25_ qi26_
        revert i154_ i155_ i156_ i157_ i158_ i159_ i160_ i161_ i162_ i163_ i164_ i165_ i166_ i167_ i168_ i169_ i170_ i171_ i172_ i173_ i174_ i175_ i176_ i177_ i178_ i179_ i180_ i181_ i182_ i183_ i184_ i185_ i186_ i187_ i188_ i189_ i190_ i191_ i192_ i193_ i194_ i195_ i196_ i197_ i198_ i199_ i200_ i201_ i202_ i203_ i204_ i205_ i206_ i207_ i208_ i209_ i210_ i211_ i212_ i213_
        revert i94_ i95_ i96_ i97_ i98_ i99_ i100_ i101_ i102_ i103_ i104_ i105_ i106_ i107_ i108_ i109_ i110_ i111_ i112_ i113_ i114_ i115_ i116_ i117_ i118_ i119_ i120_ i121_ i122_ i123_ i124_ i125_ i126_ i127_ i128_ i129_ i130_ i131_ i132_ i133_ i134_ i135_ i136_ i137_ i138_ i139_ i140_ i141_ i142_ i143_ i144_ i145_ i146_ i147_ i148_ i149_ i150_ i151_ i152_ i153_
        revert i34_ i35_ i36_ i37_ i38_ i39_ i40_ i41_ i42_ i43_ i44_ i45_ i46_ i47_ i48_ i49_ i50_ i51_ i52_ i53_ i54_ i55_ i56_ i57_ i58_ i59_ i60_ i61_ i62_ i63_ i64_ i65_ i66_ i67_ i68_ i69_ i70_ i71_ i72_ i73_ i74_ i75_ i76_ i77_ i78_ i79_ i80_ i81_ i82_ i83_ i84_ i85_ i86_ i87_ i88_ i89_ i90_ i91_ i92_ i93_
        revert sn' x y N hN30 HAB HAO HN i0_ A B W uW i1_ hAW hBW xa c z1 c2 z2 q3 c3 z3 z4 z5 V uV i2_ i3_ i4_ i5_ i6_ i7_ i8_ i9_ i10_ i11_ i12_ i13_ i14_ i15_ i16_ i17_ i18_ i19_ i20_ i21_ i22_ i23_ i24_ i25_ i26_ i27_ i28_ i29_ i30_ i31_ i32_ i33_
        revert l s at0 v w g a0 a1 a pr s' d dp sd cl fl dl sn pr' s'' d' dp' sd' cl' fl' dl'
        exact hR.out
set_option maxHeartbeats 64000000 in
set_option maxRecDepth 100000 in
theorem backRest : backPart2.1 := by
  unfold backPart2
  intro l s at0 v w g a0 a1 a pr s' d dp sd cl fl dl sn pr' s'' d' dp' sd' cl' fl' dl' sn' x y N hN30 HAB HAO HN i0_ A B W uW i1_ hAW hBW xa c z1 c2 z2 q3 c3 z3 z4 z5 V uV i2_ i3_ i4_ i5_ i6_ i7_
  intro i8_ i9_ i10_ i11_ i12_ i13_ i14_ i15_ i16_ i17_ i18_ i19_ i20_ i21_ i22_ i23_ i24_ i25_ i26_ i27_ i28_ i29_ i30_ i31_ i32_ i33_ i34_ i35_ i36_ i37_ i38_ i39_ i40_ i41_ i42_ i43_ i44_ i45_ i46_ i47_ i48_ i49_ i50_ i51_ i52_ i53_ i54_ i55_ i56_ i57_ i58_ i59_ i60_ i61_ i62_ i63_ i64_ i65_ i66_ i67_
  intro i68_ i69_ i70_ i71_ i72_ i73_ i74_ i75_ i76_ i77_ i78_ i79_ i80_ i81_ i82_ i83_ i84_ i85_ i86_ i87_ i88_ i89_ i90_ i91_ i92_ i93_ i94_ i95_ i96_ i97_ i98_ i99_ i100_ i101_ i102_ i103_ i104_ i105_ i106_ i107_ i108_ i109_ i110_ i111_ i112_ i113_ i114_ i115_ i116_ i117_ i118_ i119_ i120_ i121_ i122_ i123_ i124_ i125_ i126_ i127_
  intro i128_ i129_ i130_ i131_ i132_ i133_ i134_ i135_ i136_ i137_ i138_ i139_ i140_ i141_ i142_ i143_ i144_ i145_ i146_ i147_ i148_ i149_ i150_ i151_ i152_ i153_ i154_ i155_ i156_ i157_ i158_ i159_ i160_ i161_ i162_ i163_ i164_ i165_ i166_ i167_ i168_ i169_ i170_ i171_ i172_ i173_ i174_ i175_ i176_ i177_ i178_ i179_ i180_ i181_ i182_ i183_ i184_ i185_ i186_ i187_
  intro i188_ i189_ i190_ i191_ i192_ i193_ i194_ i195_ i196_ i197_ i198_ i199_ i200_ i201_ i202_ i203_ i204_ i205_ i206_ i207_ i208_ i209_ i210_ i211_ i212_ i213_ i214_ i215_ i216_ i217_ i218_ i219_ i220_ i221_ P1 P2 hux i222_ i223_ i224_ i225_ cxy tx ty i226_ z6 z7 D U uU i227_ i228_ HX HY qi0_ u10 u23 u24 u25 u26
  intro qi1_ qi2_ qi3_ qi4_ qi5_ qi6_ qi7_ qi8_ qi9_ qi10_ qi11_ qi12_ qi13_ qi14_ qi15_ qi16_ qi17_ qi18_ qi19_ qi20_ qi21_ qi22_ qi23_ qi24_ qi25_ qi26_ qi27_ qi28_ qi29_ qi30_ qi31_ qi32_ qi33_ qi34_ qi35_ qi36_ qi37_ qi38_ qi39_ qi40_ qi41_ qi42_ qi43_ qi44_ qi45_ qi46_ qi47_ qi48_ qi49_ qi50_ qi51_ qi52_ qi53_ qi54_ qi55_ qi56_ qi57_ qi58_ qi59_ qi60_
  intro qi61_ qi62_ qi63_ qi64_ qi65_ qi66_ qi67_ qi68_ qi69_ qi70_ qi71_ qi72_ qi73_ qi74_ qi75_ qi76_ qi77_ qi78_ qi79_ qi80_ qi81_ qi82_ qi83_ qi84_ qi85_ qi86_ qi87_ qi88_ qi89_ qi90_ qi91_ qi92_ qi93_ qi94_ qi95_ qi96_ qi97_ qi98_ qi99_ qi100_ qi101_ qi102_ qi103_ qi104_ qi105_ qi106_ qi107_ qi108_ qi109_ qi110_ qi111_ qi112_ qi113_ qi114_ qi115_ qi116_ qi117_ qi118_ qi119_ qi120_
  intro qi121_ qi122_ qi123_ qi124_ qi125_ qi126_ qi127_ qi128_ qi129_ qi130_ qi131_ qi132_ qi133_ qi134_ qi135_ qi136_ qi137_ qi138_ qi139_ qi140_ qi141_ qi142_ qi143_ qi144_ qi145_ qi146_ qi147_ qi148_ qi149_ qi150_ qi151_ qi152_ qi153_ qi154_ qi155_ qi156_ qi157_ qi158_ qi159_ qi160_ qi161_ qi162_ qi163_ qi164_ qi165_ qi166_ qi167_ qi168_ qi169_ qi170_ qi171_ qi172_ qi173_ qi174_ qi175_ qi176_ qi177_ qi178_ qi179_ qi180_
  intro qi181_ qi182_ qi183_ qi184_ qi185_ qi186_ qi187_ qi188_ qi189_ qi190_ qi191_ qi192_ qi193_ qi194_ qi195_ qi196_ qi197_ qi198_ qi199_ qi200_ qi201_ qi202_ qi203_ qi204_ qi205_ qi206_ qi207_ qi208_ qi209_ qi210_ qi211_ qi212_ qi213_ qi214_ qi215_ qi216_ hcut huw i229_ i230_ i231_ h0 hN0 hNb k hkN i232_ gA cur hgA HOWN HROW hc1 hc2 hle2 b2 o2 HTX hb2 HHA
  intro HC1 HC4 HC3 i233_ hw1 hk1 hk2 hk3 hkc hnk k0 hkN' hk4 hmix i0s His Hy0s Hy1s Hy2s i0l Hil Hy0l Hy1l Hy2l T qi217_ zi0_ zi1_ zi2_ zi3_ zi4_ zi5_ zi6_ zi7_ zi8_ zi9_ zi10_ zi11_ zi12_ zi13_ zi14_ zi15_ zi16_ zi17_ zi18_ zi19_ zi20_ zi21_ zi22_ zi23_ zi24_ zi25_ zi26_ zi27_ zi28_ zi29_ zi30_ zi31_ zi32_ zi33_
  intro zi34_ zi35_ zi36_ zi37_ zi38_ zi39_ zi40_ zi41_ zi42_ zi43_ zi44_ zi45_ zi46_ zi47_ zi48_ zi49_ zi50_ zi51_ zi52_ zi53_ zi54_ zi55_ zi56_ zi57_ zi58_ zi59_ zi60_ zi61_ zi62_ zi63_ zi64_ zi65_ zi66_ zi67_ zi68_ zi69_ zi70_ zi71_ zi72_ zi73_ zi74_ zi75_ zi76_ zi77_ zi78_ zi79_ zi80_ zi81_ zi82_ zi83_ zi84_ zi85_ zi86_ zi87_ zi88_ zi89_ zi90_ zi91_ zi92_ zi93_
  intro zi94_ zi95_ zi96_ zi97_ zi98_ zi99_ zi100_ zi101_ zi102_ zi103_ zi104_ zi105_ zi106_ zi107_ zi108_ zi109_ zi110_ zi111_ zi112_ zi113_ zi114_ zi115_ zi116_ zi117_ zi118_ zi119_ zi120_ zi121_ zi122_ zi123_ zi124_ zi125_ zi126_ zi127_ zi128_ zi129_ zi130_ zi131_ zi132_ zi133_ zi134_ zi135_ zi136_ zi137_ zi138_ zi139_ zi140_ zi141_ zi142_ zi143_ zi144_ zi145_ zi146_ zi147_ zi148_ zi149_ zi150_ zi151_ zi152_ zi153_
  intro zi154_ zi155_ zi156_ zi157_ zi158_ zi159_ u197 zi160_ zi161_ zi162_ zi163_ zi164_ zi165_ zi166_ zi167_ zi168_ zi169_ zi170_ zi171_ zi172_ zi173_ zi174_ zi175_ zi176_ zi177_ zi178_ zi179_ zi180_ zi181_ zi182_ zi183_ zi184_ zi185_ zi186_ zi187_ zi188_ zi189_ zi190_ zi191_ zi192_ zi193_ zi194_ zi195_ zi196_ zi197_ zi198_ zi199_ zi200_ zi201_ zi202_ zi203_ zi204_ zi205_ zi206_ zi207_ zi208_ zi209_ zi210_ zi211_ zi212_
  intro zi213_ zi214_ zi215_ hu9 hgl9 q9 c9 qi218_ qi219_ zr qi224_ hk1A qi225_ qi226_ hkcA qi227_ qi228_ qi229_ qi230_ Hl1 Hl2 Hl3 Hl4 Y uY qi231_ HAY zi216_ HBL wc u38 u39 u40 u41 u42 u43 u44 u45 u46 u47 u48 u49 u50 u51 u52 u53 u54 u55 u56 u57 u58 u59 u60 u61 u62 u63 u64 u65 u66 u67
  intro u68 u69 u70 u71 u72 u73 u74 u75 u76 u77 u78 u79 u80 u81 u82 u83 u84 u85 u86 u87 u88 u89 u90 u91 u92 u93 u94 u95 u96 u97 u98 u99 u100 u101 u102 u103 u104 u105 u106 u107 u108 u109 u110 u111 u112 u113 u114 u115 u116 u117 u118 u119 u120 u121 u122 u123 u124 u125 u126 u127
  intro u128 u129 u130 u131 u132 u133 u134 u135 u136 u137 u138 u139 u140 u141 u142 u143 u144 u145 u146 u147 u148 u149 u150 u151 u152 u153 u154 u155 u156 u157 u158 u159 u160 u161 u162 u163 u164 u165 u166 u167 u168 u169 u170 u171 u172 u173 u174 u175 u176 u177 u178 u179 u180 u181 u182 u183 u184 u185 u186 u187
  intro u188 u189 u190 u191 u192 u193 u194 u195 u196 u198 u199 u200 u201 u202 u203 u204 u205 u206 u207 u208 u209 u210 u211 u212 u213 u214 u215 u216 u217 u218 u219 u220 u221 u222 u223 u224 u225 u226 u227 u228 u229 u230 u231 u232 u233 u234 u235 u236 u237 u238 u239 u240 u241 u242 u243 u244 u245 u246 u247 u248
  intro u249 u250 u251 u252 u253 hu10 zi217_ hk0 hkp HA10 X0 XK bL H2 HBO HBL2 HBB HrK Hr0 HfK Hf0 this zi218_ zi219_ zi220_ zi221_
  go_cut [27] (fun v wx => v = .int .i64 (k : Int) ∧ UpI w wx ∧ wx.heap[gA]? = some (.cells (insA (insA cur 0 XK.cells) (k * 11) X0.cells) 44 (0, 0)))
  case first =>
    refine wp_region_turn hmix ?_
    refine any_take (i := 0) (v := ?v401) rfl (by kernel_rfl) (by kernel_rfl) (by kernel_rfl) (Or.inl ⟨by kernel_rfl, ?hy401⟩) ?rest401
    case hy401 => (intro w; go_simp; (try with_reducible rfl))
    (try simp only [Act.put, List.getElem_toArray, List.getElem_cons_succ, List.getElem_cons_zero, List.setIfInBounds_toArray, List.set_cons_succ, List.set_cons_zero])
    refine any_take (i := 1) (v := ?v402) rfl (by kernel_rfl) (by kernel_rfl) (by kernel_rfl) (Or.inl ⟨by kernel_rfl, ?hy402⟩) ?rest402
    case hy402 => (intro w; go_simp; (try with_reducible rfl))
    (try simp only [Act.put, List.getElem_toArray, List.getElem_cons_succ, List.getElem_cons_zero, List.setIfInBounds_toArray, List.set_cons_succ, List.set_cons_zero])
    refine any_take (i := 2) (v := ?v403) rfl (by kernel_rfl) (by kernel_rfl) (by kernel_rfl) (Or.inl ⟨by kernel_rfl, ?hy403⟩) ?rest403
    case hy403 => (intro w; go_simp; (try with_reducible rfl))
    (try simp only [Act.put, List.getElem_toArray, List.getElem_cons_succ, List.getElem_cons_zero, List.setIfInBounds_toArray, List.set_cons_succ, List.set_cons_zero])
    refine any_take (i := 3) (v := ?v404) rfl (by kernel_rfl) (by kernel_rfl) (by kernel_rfl) (Or.inl ⟨by kernel_rfl, ?hy404⟩) ?rest404
    case hy404 => (intro w; go_simp; (try with_reducible rfl))
    (try simp only [Act.put, List.getElem_toArray, List.getElem_cons_succ, List.getElem_cons_zero, List.setIfInBounds_toArray, List.set_cons_succ, List.set_cons_zero])
    refine any_take (i := 4) (v := ?v405) rfl (by kernel_rfl) (by kernel_rfl) (by kernel_rfl) (Or.inl ⟨by kernel_rfl, ?hy405⟩) ?rest405
    case hy405 => (intro w; go_simp; (try with_reducible rfl))
    (try simp only [Act.put, List.getElem_toArray, List.getElem_cons_succ, List.getElem_cons_zero, List.setIfInBounds_toArray, List.set_cons_succ, List.set_cons_zero])
    refine any_take (i := 5) (v := ?v406) rfl (by kernel_rfl) (by kernel_rfl) (by kernel_rfl) (Or.inl ⟨by kernel_rfl, ?hy406⟩) ?rest406
    case hy406 => (intro w; go_simp; (try with_reducible rfl))
    (try simp only [Act.put, List.getElem_toArray, List.getElem_cons_succ, List.getElem_cons_zero, List.setIfInBounds_toArray, List.set_cons_succ, List.set_cons_zero])
    refine any_take (i := 7) (v := ?v407) rfl (by kernel_rfl) (by kernel_rfl) (by kernel_rfl) (Or.inl ⟨by kernel_rfl, ?hy407⟩) ?rest407
    case hy407 => (intro w; go_simp; (try with_reducible rfl))
    (try simp only [Act.put, List.getElem_toArray, List.getElem_cons_succ, List.getElem_cons_zero, List.setIfInBounds_toArray, List.set_cons_succ, List.set_cons_zero])
    refine any_take (i := 8) (v := ?v408) rfl (by kernel_rfl) (by kernel_rfl) (by kernel_rfl) (Or.inl ⟨by kernel_rfl, ?hy408⟩) ?rest408
    case hy408 => (intro w; go_simp; (try with_reducible rfl))
    (try simp only [Act.put, List.getElem_toArray, List.getElem_cons_succ, List.getElem_cons_zero, List.setIfInBounds_toArray, List.set_cons_succ, List.set_cons_zero])
    refine wpAny_ready (rs := [6, 9]) (by kernel_rfl) (by simp) ?_
    ((with_reducible refine held ?_); refine HR_cons rfl (fun K hK => ?_) ?_)
    · skip
      (with_reducible refine held ?_); refine HS_load_mid (by kernel_rfl) 44 _ rfl gA (k * 11) rfl XK.cells _ (HrK.out _ (((upI : Up wc _).block gA (LtSize.lt (b := gA))).trans HA10.out)) Tryz.underlying44 rfl lnSize ?_
      refine hK _ _ ?_; clear hK K; (try simp only [Act.put, List.getElem_toArray, List.getElem_cons_succ, List.getElem_cons_zero, List.setIfInBounds_toArray, List.set_cons_succ, List.set_cons_zero])
      refine wpAny_ready (rs := [9]) (by kernel_rfl) (by simp) ?_
      ((with_reducible refine held ?_); refine HR_cons rfl (fun K hK => ?_) ?_)
      · skip
        (with_reducible refine held ?_); refine HS_load_mid (by kernel_rfl) 44 _ rfl gA 0 rfl X0.cells _ (Hr0.out _ (((upI : Up wc _).block gA (LtSize.lt (b := gA))).trans HA10.out)) Tryz.underlying44 rfl lnSize ?_
        refine hK _ _ ?_; clear hK K; (try simp only [Act.put, List.getElem_toArray, List.getElem_cons_succ, List.getElem_cons_zero, List.setIfInBounds_toArray, List.set_cons_succ, List.set_cons_zero])
        refine any_take (i := 10) (v := ?v409) rfl (by kernel_rfl) (by kernel_rfl) (by kernel_rfl) (Or.inl ⟨by kernel_rfl, ?hy409⟩) ?rest409
        case hy409 => (intro w; go_simp; (try with_reducible rfl))
        (try simp only [Act.put, List.getElem_toArray, List.getElem_cons_succ, List.getElem_cons_zero, List.setIfInBounds_toArray, List.set_cons_succ, List.set_cons_zero])
        refine wpAny_ready (rs := [11]) (by kernel_rfl) (by simp) ?_
        ((with_reducible refine held ?_); refine HR_cons rfl (fun K hK => ?_) ?_)
        · skip
          (with_reducible refine held ?_); refine HS_store_ins (by kernel_rfl) 44 _ _ rfl gA 0 XK.cells.toArray rfl rfl 44 cur (((upI : Up wc _).block gA (LtSize.lt (b := gA))).trans HA10.out) lnSize Hf0.out (fun u hu => XK.one u (by simpa using hu)) ?_
          refine hK _ _ ?_; clear hK K; (try simp only [Act.put, List.getElem_toArray, List.getElem_cons_succ, List.getElem_cons_zero, List.setIfInBounds_toArray, List.set_cons_succ, List.set_cons_zero])
          refine any_take (i := 12) (v := ?v410) rfl (by kernel_rfl) (by kernel_rfl) (by kernel_rfl) (Or.inl ⟨by kernel_rfl, ?hy410⟩) ?rest410
          case hy410 => (intro w; go_simp; (try with_reducible rfl))
          (try simp only [Act.put, List.getElem_toArray, List.getElem_cons_succ, List.getElem_cons_zero, List.setIfInBounds_toArray, List.set_cons_succ, List.set_cons_zero])
          refine wpAny_ready (rs := [13]) (by kernel_rfl) (by simp) ?_
          ((with_reducible refine held ?_); refine HR_cons rfl (fun K hK => ?_) ?_)
          · skip
            (with_reducible refine held ?_); refine HS_store_ins (by kernel_rfl) 44 _ _ rfl gA (k * 11) X0.cells.toArray rfl rfl 44 (insA cur 0 XK.cells.toArray.toList) (setRow_heap _ gA _ _ _ _ (((upI : Up wc _).block gA (LtSize.lt (b := gA))).trans HA10.out)) lnSize HfK.out (fun u hu => X0.one u (by simpa using hu)) ?_
            refine hK _ _ ?_; clear hK K; (try simp only [Act.put, List.getElem_toArray, List.getElem_cons_succ, List.getElem_cons_zero, List.setIfInBounds_toArray, List.set_cons_succ, List.set_cons_zero])
            refine wpAny_done (by kernel_rfl) ?_ _
            refine ⟨rfl, ?_⟩
            go_wp2_with fail
            go_meet
            exact ⟨rfl, ⟨up_setRowG (up_setRowG (upI : Up w _) hgA _) hgA _⟩, setRow_heap _ gA _ _ _ _ (setRow_heap _ gA _ _ _ _ (((upI : Up wc _).block gA (LtSize.lt (b := gA))).trans HA10.out))⟩
          exact AllReady.nil
        exact AllReady.nil
      exact AllReady.nil
    ((with_reducible refine held ?_); refine HR_cons rfl (fun K hK => ?_) ?_)
    · skip
      (with_reducible refine held ?_); refine HS_load_mid (by kernel_rfl) 44 _ rfl gA 0 rfl X0.cells _ (Hr0.out _ (((upI : Up wc _).block gA (LtSize.lt (b := gA))).trans HA10.out)) Tryz.underlying44 rfl lnSize ?_
      refine hK _ _ ?_; clear hK K; (try simp only [Act.put, List.getElem_toArray, List.getElem_cons_succ, List.getElem_cons_zero, List.setIfInBounds_toArray, List.set_cons_succ, List.set_cons_zero])
      refine wpAny_ready (rs := [6]) (by kernel_rfl) (by simp) ?_
      ((with_reducible refine held ?_); refine HR_cons rfl (fun K hK => ?_) ?_)
      · skip
        (with_reducible refine held ?_); refine HS_load_mid (by kernel_rfl) 44 _ rfl gA (k * 11) rfl XK.cells _ (HrK.out _ (((upI : Up wc _).block gA (LtSize.lt (b := gA))).trans HA10.out)) Tryz.underlying44 rfl lnSize ?_
        refine hK _ _ ?_; clear hK K; (try simp only [Act.put, List.getElem_toArray, List.getElem_cons_succ, List.getElem_cons_zero, List.setIfInBounds_toArray, List.set_cons_succ, List.set_cons_zero])
        refine any_take (i := 10) (v := ?v411) rfl (by kernel_rfl) (by kernel_rfl) (by kernel_rfl) (Or.inl ⟨by kernel_rfl, ?hy411⟩) ?rest411
        case hy411 => (intro w; go_simp; (try with_reducible rfl))
        (try simp only [Act.put, List.getElem_toArray, List.getElem_cons_succ, List.getElem_cons_zero, List.setIfInBounds_toArray, List.set_cons_succ, List.set_cons_zero])
        refine wpAny_ready (rs := [11]) (by kernel_rfl) (by simp) ?_
        ((with_reducible refine held ?_); refine HR_cons rfl (fun K hK => ?_) ?_)
        · skip
          (with_reducible refine held ?_); refine HS_store_ins (by kernel_rfl) 44 _ _ rfl gA 0 XK.cells.toArray rfl rfl 44 cur (((upI : Up wc _).block gA (LtSize.lt (b := gA))).trans HA10.out) lnSize Hf0.out (fun u hu => XK.one u (by simpa using hu)) ?_
          refine hK _ _ ?_; clear hK K; (try simp only [Act.put, List.getElem_toArray, List.getElem_cons_succ, List.getElem_cons_zero, List.setIfInBounds_toArray, List.set_cons_succ, List.set_cons_zero])
          refine any_take (i := 12) (v := ?v412) rfl (by kernel_rfl) (by kernel_rfl) (by kernel_rfl) (Or.inl ⟨by kernel_rfl, ?hy412⟩) ?rest412
          case hy412 => (intro w; go_simp; (try with_reducible rfl))
          (try simp only [Act.put, List.getElem_toArray, List.getElem_cons_succ, List.getElem_cons_zero, List.setIfInBounds_toArray, List.set_cons_succ, List.set_cons_zero])
          refine wpAny_ready (rs := [13]) (by kernel_rfl) (by simp) ?_
          ((with_reducible refine held ?_); refine HR_cons rfl (fun K hK => ?_) ?_)
          · skip
            (with_reducible refine held ?_); refine HS_store_ins (by kernel_rfl) 44 _ _ rfl gA (k * 11) X0.cells.toArray rfl rfl 44 (insA cur 0 XK.cells.toArray.toList) (setRow_heap _ gA _ _ _ _ (((upI : Up wc _).block gA (LtSize.lt (b := gA))).trans HA10.out)) lnSize HfK.out (fun u hu => X0.one u (by simpa using hu)) ?_
            refine hK _ _ ?_; clear hK K; (try simp only [Act.put, List.getElem_toArray, List.getElem_cons_succ, List.getElem_cons_zero, List.setIfInBounds_toArray, List.set_cons_succ, List.set_cons_zero])
            refine wpAny_done (by kernel_rfl) ?_ _
            refine ⟨rfl, ?_⟩
            go_wp2_with fail
            go_meet
            exact ⟨rfl, ⟨up_setRowG (up_setRowG (upI : Up w _) hgA _) hgA _⟩, setRow_heap _ gA _ _ _ _ (setRow_heap _ gA _ _ _ _ (((upI : Up wc _).block gA (LtSize.lt (b := gA))).trans HA10.out))⟩
          exact AllReady.nil
        exact AllReady.nil
      exact AllReady.nil
    exact AllReady.nil
  case rest =>
    obtain ⟨rfl, hu11, hA11⟩ := hcut
    haveI := hu11
    have hrow : LnRow wc (.slice (some ⟨gA, 0, none⟩) N c) bL := H2.out.row hA11 HBL2.out HC1.out
    have Hrow := Lib.hid hrow
    have hbn : bL.length ≤ 100000 := by rw [HBL2.out]; exact Nat.le_trans hN30 (by decide)
    have hT9 : ∀ W, UpI wc W → Gives Tryz.prog 24 #[.slice (some ⟨gA, 0, none⟩) N c] W (.tuple #[.slice none 0 0, .int .i64 383]) := fun W h => dtexts_no bL _ W (RowOf.up Hrow.out h.up) HBB.out (Nat.le_trans hbn (by decide)) HBO.out
    have hO9 : ∀ W, UpI wc W → Gives Tryz.prog 26 #[.slice (some ⟨gA, 0, none⟩) N c] W (.bool false) := fun W h => (dordered_any bL _ W (RowOf.up Hrow.out h.up) HBB.out (Nat.le_trans hbn (by decide))).cast (by rw [HBO.out])
    have hD9 : ∀ W, UpI wc W → Gives Tryz.prog 19 #[.slice (some ⟨gA, 0, none⟩) N c, .slice none 0 0] W (.tuple #[.slice none 0 0, .int .i64 383]) := fun W h => ddiff_no bL [] _ _ W (RowOf.up Hrow.out h.up) (RowOf.nil _) HBB.out (fun z hz => (List.not_mem_nil hz).elim) (Nat.le_trans hbn (by decide)) (by decide) (by rw [HBO.out]; rfl)
    have hE9 : ∀ W, UpI wc W → Gives Tryz.prog 19 #[.slice none 0 0, .slice (some ⟨gA, 0, none⟩) N c] W (.tuple #[.slice none 0 0, .int .i64 383]) := fun W h => ddiff_no [] bL _ _ W (RowOf.nil _) (RowOf.up Hrow.out h.up) (fun z hz => (List.not_mem_nil hz).elim) HBB.out (by decide) (Nat.le_trans hbn (by decide)) (by rw [HBO.out, Bool.and_false])
    have hP9 : ∀ W, UpI wc W → Calls Tryz.prog 20 #[.slice (some ⟨gA, 0, none⟩) N c, .slice none 0 0] W fun e w' => e = .returned (.tuple #[.slice none 0 0, .int .i64 383]) ∧ ∃ x : Ext W, w' = x.w := fun W h =>
      (apply_any bL [] _ _ W (RowOf.up Hrow.out h.up) (RowOf.nil _) HBB.out (fun z hz => (List.not_mem_nil hz).elim) hbn (by decide)).mono fun e w' ⟨⟨L, _, _, h⟩, hx⟩ => by
        rcases h with ⟨h1, _⟩ | ⟨_, h2⟩
        · exfalso; rw [apply_unordered bL L [] HBO.out] at h1; cases h1
        · exact ⟨h2, hx⟩
    clear hrow hbn hA11
    go_wp2_with (first
      | (go_at_call 24; (with_reducible refine (hT9 _ inferInstance).mono ?_); rintro e w' ⟨rfl, s1, rfl⟩)
      | (go_at_call 19; (with_reducible refine (hD9 _ inferInstance).mono ?_); rintro e w' ⟨rfl, s2, rfl⟩)
      | (go_at_call 19; (with_reducible refine (hE9 _ inferInstance).mono ?_); rintro e w' ⟨rfl, s3, rfl⟩)
      | (go_at_call 20; (with_reducible refine (hP9 _ inferInstance).mono ?_); rintro e w' ⟨rfl, s4, rfl⟩)
      | (go_at_call 26; (with_reducible refine (hO9 _ inferInstance).mono ?_); rintro e w' ⟨rfl, s5, rfl⟩))
    go_ret
    exact ⟨rfl, mkI⟩
theorem dback_any (l : List Wd) (u1 u2 : Wd) (s : List UInt8) (at0 : Int) (v : Value) (w : World) (g : GoodD w) (hv : WdRow w v l) (hb : ∀ x ∈ l, WdB x) (hl : l.length ≤ 9223372036854775807) (hu1 : WdB u1) (hu2 : WdB u2) (a0 : 0 ≤ at0) (a1 : at0 < 256) :
    Gives Tryz.prog 7 #[v, .agg u1.cells.toArray, .agg u2.cells.toArray, .string ⟨s.toArray⟩, .int .u8 at0] w (.bool true) := backPart0.2.2 ⟨backFirst⟩ ⟨backPart1.2 ⟨backPart2.2 ⟨backRest⟩⟩⟩ l u1 u2 s at0 v w g hv hb hl hu1 hu2 a0 a1
end Go.Proofs.YteciigbonaecoaaGreatDoor
